/-
  The walk of conflict's dangerous. Conditions: each theorem's own hypotheses.
-/
import Derived.Test.YtlfghapllmaigaaGreatDoorK07
namespace Go.Proofs.YtlfghapllmaigaaGreatDoor
section
open Go.RowKit Go.Maps
def antiI (hs:List AccP) (i j:Nat):Bool:=decide (i≠j)&&(hs.getD i default).done&&(hs.getD j default).done&&antiP (hs.getD i default) (hs.getD j default)
theorem and2_0:bits BinOp.and IntKind.i64 0 2=0:=by decide
theorem edgeI_and2 (hs:List AccP) (i j:Nat):bits BinOp.and IntKind.i64 (edgeI hs i j) 2=if antiI hs i j=true then 2 else 0:=by
 unfold edgeI antiI
 by_cases h:i=j
 ·rw [if_pos (.inl h),and2_0];simp [h]
 ·cases h1:(hs.getD i default).done with
  | false=>rw [if_pos (.inr (.inl rfl)),and2_0];simp
  | true =>
   cases h2:(hs.getD j default).done with
   | false=>rw [if_pos (.inr (.inr rfl)),and2_0];simp
   | true =>
    rw [if_neg (by simp [h])]
    simp only [h,ne_eq,not_false_eq_true,decide_true,Bool.true_and]
    cases plainP (hs.getD i default) (hs.getD j default)<;>cases antiP (hs.getD i default) (hs.getD j default)<;>decide
def dangI (hs:List AccP) (a b c:Nat):Bool :=
 antiI hs a b&&antiI hs b c&&decide ((hs.getD c default).stamp<(hs.getD b default).stamp) &&
  (decide (a=c)||((hs.getD a default).wr&&decide ((hs.getD c default).stamp<(hs.getD a default).stamp))||(!(hs.getD a default).wr&&decide ((hs.getD c default).stamp≤(hs.getD a default).snap)))
theorem agg6 {w:World} {b o:Nat} {x:AccP} (c0:w.cell? ⟨b,o,none⟩=some (.int .i64 x.mode)) (c1:w.cell? ⟨b,o+1,none⟩=some (.int .i64 x.snap)) (c2:w.cell? ⟨b,o+2,none⟩=some (.bool x.done)) (c3:w.cell? ⟨b,o+3,none⟩=some (.int .i64 x.stamp))
  (c4:w.cell? ⟨b,o+4,none⟩=some (.slice x.ra x.reads.length x.rc)) (c5:w.cell? ⟨b,o+5,none⟩=some (.slice x.wa x.writes.length x.wc)):∀j u,x.cs[j]?=some u→w.cell? ((⟨b,o,none⟩:Addr).add j)=some u:=by
 intro j u hu
 rw [show (⟨b,o,none⟩:Addr).add j=⟨b,o+j,none⟩ from by unfold Addr.add;split<;>simp_all]
 match j,hu with
 | 0,hu=>simp [AccP.cs] at hu;subst hu;exact c0
 | 1,hu=>simp [AccP.cs] at hu;subst hu;exact c1
 | 2,hu=>simp [AccP.cs] at hu;subst hu;exact c2
 | 3,hu=>simp [AccP.cs] at hu;subst hu;exact c3
 | 4,hu=>simp [AccP.cs] at hu;subst hu;exact c4
 | 5,hu=>simp [AccP.cs] at hu;subst hu;exact c5
 | j+6,hu=>simp [AccP.cs] at hu
set_option maxRecDepth 20000 in
set_option maxHeartbeats 8000000 in
theorem dangerous_any {hs:List AccP} {a:Option Addr} {n c g:Nat} {w:World} (hgr:GrRd w g a n c hs) (hr:HistRd w a n c hs) {ia ib ic:Nat} (ha:ia<n) (hb:ib<n) (hc:ic<n) :
  Calls Tryz.prog 168 #[.pointer (some ⟨g,0,none⟩),.int .i64 (ia:Int),.int .i64 (ib:Int),.int .i64 (ic:Int)] w (RetV (.bool (dangI hs ia ib ic)) w):=by
 obtain ⟨ge,r,e0,e1,e2,e3⟩:=hgr.edge ha hb
 obtain ⟨ge',r',e0',e1',e2',e3'⟩:=hgr.edge hb hc
 rw [e1] at e1'
 simp only [Option.some.injEq,Value.slice.injEq,Addr.mk.injEq,and_true] at e1'
 subst e1'
 have HG0:=Box.mk (And.intro (cell_block_lt e0) e0)
 have A1:=edgeI_and2 hs ia ib
 have A2:=edgeI_and2 hs ib ic
 have HR:=Box.mk hr
 have HG:=Box.mk hgr
 clear hr hgr e0'
 generalize edgeI hs ia ib=v1 at *
 generalize edgeI hs ib ic=v2 at *
 cases h1:antiI hs ia ib with
 | false =>
  rw [h1,if_neg (by decide)] at A1
  rw [show dangI hs ia ib ic=false from by unfold dangI;rw [h1];rfl]
  clear h1 A2
  go_enter Tryz.func168,Tryz.ntmps168
  go_wp2_with fail
  go_ret
  exact ⟨rfl,Below.refl _ _⟩
 | true =>
  cases h2:antiI hs ib ic with
  | false =>
   rw [h1,if_pos rfl] at A1
   rw [h2,if_neg (by decide)] at A2
   rw [show dangI hs ia ib ic=false from by unfold dangI;rw [h1,h2];rfl]
   clear h1 h2
   go_enter Tryz.func168,Tryz.ntmps168
   go_wp2_with fail
   go_ret
   exact ⟨rfl,Below.refl _ _⟩
  | true =>
   rw [h1,if_pos rfl] at A1
   rw [h2,if_pos rfl] at A2
   obtain ⟨D,hD⟩:∃D,dangI hs ia ib ic=D:=⟨_,rfl⟩
   rw [hD]
   unfold dangI at hD
   rw [h1,h2,Bool.true_and,Bool.true_and] at hD
   obtain ⟨b,off,x,rfl,hx,hxm,hxr,x0,x1,x2,x3,x4,x5⟩:=HR.out.at ia ha
   obtain ⟨b',off',y,hab,hy,hym,hyr,y0,y1,y2,y3,y4,y5⟩:=HR.out.at ib hb
   simp only [Option.some.injEq,Addr.mk.injEq,and_true] at hab
   obtain ⟨rfl,rfl⟩:=hab
   obtain ⟨b',off',z,hab,hz,hzm,hzr,z0,z1,z2,z3,z4,z5⟩:=HR.out.at ic hc
   simp only [Option.some.injEq,Addr.mk.injEq,and_true] at hab
   obtain ⟨rfl,rfl⟩:=hab
   rw [hx,hy,hz] at hD
   have HD:=Box.mk hD
   have LX:=Box.mk (show ∀w',Below w.heap.size w w'→∀j u,x.cs[j]?=some u→w'.cell? ((⟨b,off+ia * 6,none⟩:Addr).add j)=some u from fun w' hS=>by
    have hl:=cell_block_lt x0
    refine agg6 ?_ ?_ ?_ ?_ ?_ ?_
    ·rw [hS.cell (p:=⟨b,off+ia * 6,none⟩) hl];exact x0
    ·rw [hS.cell (p:=⟨b,off+ia * 6+1,none⟩) hl];exact x1
    ·rw [hS.cell (p:=⟨b,off+ia * 6+2,none⟩) hl];exact x2
    ·rw [hS.cell (p:=⟨b,off+ia * 6+3,none⟩) hl];exact x3
    ·rw [hS.cell (p:=⟨b,off+ia * 6+4,none⟩) hl];exact x4
    ·rw [hS.cell (p:=⟨b,off+ia * 6+5,none⟩) hl];exact x5)
   have LY:=Box.mk (show ∀w',Below w.heap.size w w'→∀j u,y.cs[j]?=some u→w'.cell? ((⟨b,off+ib * 6,none⟩:Addr).add j)=some u from fun w' hS=>by
    have hl:=cell_block_lt x0
    refine agg6 ?_ ?_ ?_ ?_ ?_ ?_
    ·rw [hS.cell (p:=⟨b,off+ib * 6,none⟩) hl];exact y0
    ·rw [hS.cell (p:=⟨b,off+ib * 6+1,none⟩) hl];exact y1
    ·rw [hS.cell (p:=⟨b,off+ib * 6+2,none⟩) hl];exact y2
    ·rw [hS.cell (p:=⟨b,off+ib * 6+3,none⟩) hl];exact y3
    ·rw [hS.cell (p:=⟨b,off+ib * 6+4,none⟩) hl];exact y4
    ·rw [hS.cell (p:=⟨b,off+ib * 6+5,none⟩) hl];exact y5)
   have LZ:=Box.mk (show ∀w',Below w.heap.size w w'→∀j u,z.cs[j]?=some u→w'.cell? ((⟨b,off+ic * 6,none⟩:Addr).add j)=some u from fun w' hS=>by
    have hl:=cell_block_lt x0
    refine agg6 ?_ ?_ ?_ ?_ ?_ ?_
    ·rw [hS.cell (p:=⟨b,off+ic * 6,none⟩) hl];exact z0
    ·rw [hS.cell (p:=⟨b,off+ic * 6+1,none⟩) hl];exact z1
    ·rw [hS.cell (p:=⟨b,off+ic * 6+2,none⟩) hl];exact z2
    ·rw [hS.cell (p:=⟨b,off+ic * 6+3,none⟩) hl];exact z3
    ·rw [hS.cell (p:=⟨b,off+ic * 6+4,none⟩) hl];exact z4
    ·rw [hS.cell (p:=⟨b,off+ic * 6+5,none⟩) hl];exact z5)
   clear h1 h2 hD hx hy hz hxm hym hzm hxr hyr hzr x0 x1 x2 x3 x4 x5 y0 y1 y2 y3 y4 y5 z0 z1 z2 z3 z4 z5
   go_enter Tryz.func168,Tryz.ntmps168
   go_upto_region 3 with fail
   clear e0 e1 e2 e3 e2' e3' A1 A2
   go_cut [9,10,11] from 38 to 89 (fun s9 s10 s11 wx=>∃ga gb gc:Nat,s9=.pointer (some ⟨ga,0,none⟩)∧s10=.pointer (some ⟨gb,0,none⟩)∧s11=.pointer (some ⟨gc,0,none⟩)∧Box (Below w.heap.size w wx∧Blk wx ga 102 x.cs∧Blk wx gb 102 y.cs∧Blk wx gc 102 z.cs))
   case first =>
    have HS0:Below w.heap.size w w.drew:=(Below.refl _ _).drew
    have HO0:=Box.mk (And.intro HS0 (Own.start w).drew)
    refine wp_region_held_drew (S:=fun w'=>Below w.heap.size w w') (by kernel_rfl) HS0 (fun _=>?_)
    generalize w.drew=wd at *
    refine tw 0 rfl HS0 ?_
    conv=>arg 8;simp [go_sem]
    refine tw 1 rfl HS0 ?_
    conv=>arg 8;simp [go_sem]
    refine tw 2 rfl HS0 ?_
    conv=>arg 8;simp [go_sem]
    refine tv 3 rfl (fun w' hS=>by have q:=(hS.cell (p:=⟨g,0,none⟩) HG0.out.1).trans HG0.out.2;go_simp;all_goals with_reducible rfl) HS0 ?_
    conv=>arg 8;simp [go_sem]
    refine tw 4 rfl HS0 ?_
    conv=>arg 8;simp [go_sem]
    refine tv 5 rfl (fun w' hS=>by (have q0:(0:Int)≤(ia:Int):=by omega);(have q1:(ia:Int)<(n:Int):=by omega);go_simp;all_goals with_reducible rfl) HS0 ?_
    conv=>arg 8;simp [go_sem]
    refine tk 6 (v:=.agg (AccP.cs x).toArray) rfl (yieldsIf_load_agg (by rfl) 102 (.tmp 43) rfl aggAcc rfl (cs:=AccP.cs x) rfl (fun w' hS=>LX.out w' hS)) (HS0) ?_
    conv=>arg 8;simp [go_sem]
    refine tw 7 rfl HS0 ?_
    conv=>arg 8;simp [go_sem]
    refine tw 8 rfl HS0 ?_
    conv=>arg 8;simp [go_sem]
    refine tw 9 rfl HS0 ?_
    conv=>arg 8;simp [go_sem]
    refine tv 10 rfl (fun w' hS=>by have q:=(hS.cell (p:=⟨g,0,none⟩) HG0.out.1).trans HG0.out.2;go_simp;all_goals with_reducible rfl) HS0 ?_
    conv=>arg 8;simp [go_sem]
    refine tw 11 rfl HS0 ?_
    conv=>arg 8;simp [go_sem]
    refine tv 12 rfl (fun w' hS=>by (have q0:(0:Int)≤(ib:Int):=by omega);(have q1:(ib:Int)<(n:Int):=by omega);go_simp;all_goals with_reducible rfl) HS0 ?_
    conv=>arg 8;simp [go_sem]
    refine tk 13 (v:=.agg (AccP.cs y).toArray) rfl (yieldsIf_load_agg (by rfl) 102 (.tmp 50) rfl aggAcc rfl (cs:=AccP.cs y) rfl (fun w' hS=>LY.out w' hS)) (HS0) ?_
    conv=>arg 8;simp [go_sem]
    refine tw 14 rfl HS0 ?_
    conv=>arg 8;simp [go_sem]
    refine tw 15 rfl HS0 ?_
    conv=>arg 8;simp [go_sem]
    refine tw 16 rfl HS0 ?_
    conv=>arg 8;simp [go_sem]
    refine tv 17 rfl (fun w' hS=>by have q:=(hS.cell (p:=⟨g,0,none⟩) HG0.out.1).trans HG0.out.2;go_simp;all_goals with_reducible rfl) HS0 ?_
    conv=>arg 8;simp [go_sem]
    refine tw 18 rfl HS0 ?_
    conv=>arg 8;simp [go_sem]
    refine tv 19 rfl (fun w' hS=>by (have q0:(0:Int)≤(ic:Int):=by omega);(have q1:(ic:Int)<(n:Int):=by omega);go_simp;all_goals with_reducible rfl) HS0 ?_
    conv=>arg 8;simp [go_sem]
    refine tk 20 (v:=.agg (AccP.cs z).toArray) rfl (yieldsIf_load_agg (by rfl) 102 (.tmp 57) rfl aggAcc rfl (cs:=AccP.cs z) rfl (fun w' hS=>LZ.out w' hS)) (HS0) ?_
    conv=>arg 8;simp [go_sem]
    refine wpAnyH_ready (rs:=[21,22,23]) (by kernel_rfl) (by simp) ?_
    refine AllReadyH.cons rfl (fun K' hK'=>?_) (AllReadyH.cons rfl (fun K' hK'=>?_) (AllReadyH.cons rfl (fun K' hK'=>?_) AllReadyH.nil))
    ·refine oper_alloc (by rfl) 102 rfl (z:=.agg #[.int .i64 0,.int .i64 0,.bool false,.int .i64 0,.slice none 0 0,.slice none 0 0]) (zc:=#[.int .i64 0,.int .i64 0,.bool false,.int .i64 0,.slice none 0 0,.slice none 0 0]) (by kernel_rfl) rfl ?_
     have hz:=HO0.out.2.new [.int .i64 0,.int .i64 0,.bool false,.int .i64 0,.slice none 0 0,.slice none 0 0] 102
     have HO1:=Box.mk (And.intro (HO0.out.1.alloc HO0.out.1.size (.cells #[.int .i64 0,.int .i64 0,.bool false,.int .i64 0,.slice none 0 0,.slice none 0 0] 102)) hz)
     clear hz
     have HT2:=HO1.out.1
     refine hK'.out _ _ HT2 (fun _=>?_)
     clear hK' K'
     conv=>arg 8;simp [go_sem]
     refine wpAnyH_ready (rs:=[22,23]) (by kernel_rfl) (by simp) ?_
     refine AllReadyH.cons rfl (fun K' hK'=>?_) (AllReadyH.cons rfl (fun K' hK'=>?_) AllReadyH.nil)
     ·refine oper_alloc (by rfl) 102 rfl (z:=.agg #[.int .i64 0,.int .i64 0,.bool false,.int .i64 0,.slice none 0 0,.slice none 0 0]) (zc:=#[.int .i64 0,.int .i64 0,.bool false,.int .i64 0,.slice none 0 0,.slice none 0 0]) (by kernel_rfl) rfl ?_
      have hz:=HO1.out.2.new [.int .i64 0,.int .i64 0,.bool false,.int .i64 0,.slice none 0 0,.slice none 0 0] 102
      rw [show ((wd.alloc (.cells #[.int .i64 0,.int .i64 0,.bool false,.int .i64 0,.slice none 0 0,.slice none 0 0] 102))).heap.size=wd.heap.size+1 from by simp] at hz
      have HO3:=Box.mk (And.intro (HO1.out.1.alloc HO1.out.1.size (.cells #[.int .i64 0,.int .i64 0,.bool false,.int .i64 0,.slice none 0 0,.slice none 0 0] 102)) hz)
      clear hz
      have HT4:=HO3.out.1
      refine hK'.out _ _ HT4 (fun _=>?_)
      clear hK' K'
      conv=>arg 8;simp [go_sem]
      refine ar 23 rfl fun K' hK'=>?_
      refine oper_alloc (by rfl) 102 rfl (z:=.agg #[.int .i64 0,.int .i64 0,.bool false,.int .i64 0,.slice none 0 0,.slice none 0 0]) (zc:=#[.int .i64 0,.int .i64 0,.bool false,.int .i64 0,.slice none 0 0,.slice none 0 0]) (by kernel_rfl) rfl ?_
      have hz:=HO3.out.2.new [.int .i64 0,.int .i64 0,.bool false,.int .i64 0,.slice none 0 0,.slice none 0 0] 102
      rw [show (((wd.alloc (.cells #[.int .i64 0,.int .i64 0,.bool false,.int .i64 0,.slice none 0 0,.slice none 0 0] 102)).alloc (.cells #[.int .i64 0,.int .i64 0,.bool false,.int .i64 0,.slice none 0 0,.slice none 0 0] 102))).heap.size=wd.heap.size+2 from by simp] at hz
      have HO5:=Box.mk (And.intro (HO3.out.1.alloc HO3.out.1.size (.cells #[.int .i64 0,.int .i64 0,.bool false,.int .i64 0,.slice none 0 0,.slice none 0 0] 102)) hz)
      clear hz
      have HT6:=HO5.out.1
      refine hK'.out _ _ HT6 (fun _=>?_)
      clear hK' K'
      conv=>arg 8;simp [go_sem]
      refine ar 24 rfl fun K' hK'=>?_
      refine oper_store_row (by rfl) 102 (.tmp 9) (.tmp 44) rfl rfl (by kernel_rfl) (HO5.out.2.blk 0 rfl).1 rfl rfl (cs:=AccP.cs x) rfl rfl (AccP.cs_one _) ?_
      have HX8:=HO5.out.2.setRow 0 rfl (AccP.cs x)
      have HO7:=Box.mk (And.intro (HO5.out.1.trans (HX8.2.mono (Nat.le_refl _))) HX8.1)
      clear HX8
      have HT8:=HO7.out.1
      refine hK'.out _ _ HT8 (fun _=>?_)
      clear hK' K'
      conv=>arg 8;simp [go_sem]
      refine ar 25 rfl fun K' hK'=>?_
      refine oper_store_row (by rfl) 102 (.tmp 10) (.tmp 51) rfl rfl (by kernel_rfl) (HO7.out.2.blk 1 rfl).1 rfl rfl (cs:=AccP.cs y) rfl rfl (AccP.cs_one _) ?_
      have HX8:=HO7.out.2.setRow 1 rfl (AccP.cs y)
      have HO9:=Box.mk (And.intro (HO7.out.1.trans (HX8.2.mono (Nat.le_refl _))) HX8.1)
      clear HX8
      have HT10:=HO9.out.1
      refine hK'.out _ _ HT10 (fun _=>?_)
      clear hK' K'
      conv=>arg 8;simp [go_sem]
      refine ar 26 rfl fun K' hK'=>?_
      refine oper_store_row (by rfl) 102 (.tmp 11) (.tmp 58) rfl rfl (by kernel_rfl) (HO9.out.2.blk 2 rfl).1 rfl rfl (cs:=AccP.cs z) rfl rfl (AccP.cs_one _) ?_
      have HX8:=HO9.out.2.setRow 2 rfl (AccP.cs z)
      have HO11:=Box.mk (And.intro (HO9.out.1.trans (HX8.2.mono (Nat.le_refl _))) HX8.1)
      clear HX8
      have HT12:=HO11.out.1
      refine hK'.out _ _ HT12 (fun _=>?_)
      clear hK' K'
      conv=>arg 8;simp [go_sem]
      refine ⟨by kernel_rfl,?_⟩
      conv =>
       arg 5
       simp [go_sem]
      go_wp2_with fail
      go_meet
      case rel=>exact ⟨_,_,_,rfl,rfl,rfl,⟨HO11.out.1,(HO11.out.2.blk 0 rfl).1,(HO11.out.2.blk 1 rfl).1,(HO11.out.2.blk 2 rfl).1⟩⟩
     ·refine oper_alloc (by rfl) 102 rfl (z:=.agg #[.int .i64 0,.int .i64 0,.bool false,.int .i64 0,.slice none 0 0,.slice none 0 0]) (zc:=#[.int .i64 0,.int .i64 0,.bool false,.int .i64 0,.slice none 0 0,.slice none 0 0]) (by kernel_rfl) rfl ?_
      have hz:=HO1.out.2.new [.int .i64 0,.int .i64 0,.bool false,.int .i64 0,.slice none 0 0,.slice none 0 0] 102
      rw [show ((wd.alloc (.cells #[.int .i64 0,.int .i64 0,.bool false,.int .i64 0,.slice none 0 0,.slice none 0 0] 102))).heap.size=wd.heap.size+1 from by simp] at hz
      have HO13:=Box.mk (And.intro (HO1.out.1.alloc HO1.out.1.size (.cells #[.int .i64 0,.int .i64 0,.bool false,.int .i64 0,.slice none 0 0,.slice none 0 0] 102)) hz)
      clear hz
      have HT14:=HO13.out.1
      refine hK'.out _ _ HT14 (fun _=>?_)
      clear hK' K'
      conv=>arg 8;simp [go_sem]
      refine ar 22 rfl fun K' hK'=>?_
      refine oper_alloc (by rfl) 102 rfl (z:=.agg #[.int .i64 0,.int .i64 0,.bool false,.int .i64 0,.slice none 0 0,.slice none 0 0]) (zc:=#[.int .i64 0,.int .i64 0,.bool false,.int .i64 0,.slice none 0 0,.slice none 0 0]) (by kernel_rfl) rfl ?_
      have hz:=HO13.out.2.new [.int .i64 0,.int .i64 0,.bool false,.int .i64 0,.slice none 0 0,.slice none 0 0] 102
      rw [show (((wd.alloc (.cells #[.int .i64 0,.int .i64 0,.bool false,.int .i64 0,.slice none 0 0,.slice none 0 0] 102)).alloc (.cells #[.int .i64 0,.int .i64 0,.bool false,.int .i64 0,.slice none 0 0,.slice none 0 0] 102))).heap.size=wd.heap.size+2 from by simp] at hz
      have HO15:=Box.mk (And.intro (HO13.out.1.alloc HO13.out.1.size (.cells #[.int .i64 0,.int .i64 0,.bool false,.int .i64 0,.slice none 0 0,.slice none 0 0] 102)) hz)
      clear hz
      have HT16:=HO15.out.1
      refine hK'.out _ _ HT16 (fun _=>?_)
      clear hK' K'
      conv=>arg 8;simp [go_sem]
      refine ar 24 rfl fun K' hK'=>?_
      refine oper_store_row (by rfl) 102 (.tmp 9) (.tmp 44) rfl rfl (by kernel_rfl) (HO15.out.2.blk 0 rfl).1 rfl rfl (cs:=AccP.cs x) rfl rfl (AccP.cs_one _) ?_
      have HX8:=HO15.out.2.setRow 0 rfl (AccP.cs x)
      have HO17:=Box.mk (And.intro (HO15.out.1.trans (HX8.2.mono (Nat.le_refl _))) HX8.1)
      clear HX8
      have HT18:=HO17.out.1
      refine hK'.out _ _ HT18 (fun _=>?_)
      clear hK' K'
      conv=>arg 8;simp [go_sem]
      refine ar 25 rfl fun K' hK'=>?_
      refine oper_store_row (by rfl) 102 (.tmp 10) (.tmp 51) rfl rfl (by kernel_rfl) (HO17.out.2.blk 2 rfl).1 rfl rfl (cs:=AccP.cs y) rfl rfl (AccP.cs_one _) ?_
      have HX8:=HO17.out.2.setRow 2 rfl (AccP.cs y)
      have HO19:=Box.mk (And.intro (HO17.out.1.trans (HX8.2.mono (Nat.le_refl _))) HX8.1)
      clear HX8
      have HT20:=HO19.out.1
      refine hK'.out _ _ HT20 (fun _=>?_)
      clear hK' K'
      conv=>arg 8;simp [go_sem]
      refine ar 26 rfl fun K' hK'=>?_
      refine oper_store_row (by rfl) 102 (.tmp 11) (.tmp 58) rfl rfl (by kernel_rfl) (HO19.out.2.blk 1 rfl).1 rfl rfl (cs:=AccP.cs z) rfl rfl (AccP.cs_one _) ?_
      have HX8:=HO19.out.2.setRow 1 rfl (AccP.cs z)
      have HO21:=Box.mk (And.intro (HO19.out.1.trans (HX8.2.mono (Nat.le_refl _))) HX8.1)
      clear HX8
      have HT22:=HO21.out.1
      refine hK'.out _ _ HT22 (fun _=>?_)
      clear hK' K'
      conv=>arg 8;simp [go_sem]
      refine ⟨by kernel_rfl,?_⟩
      conv =>
       arg 5
       simp [go_sem]
      go_wp2_with fail
      go_meet
      case rel=>exact ⟨_,_,_,rfl,rfl,rfl,⟨HO21.out.1,(HO21.out.2.blk 0 rfl).1,(HO21.out.2.blk 2 rfl).1,(HO21.out.2.blk 1 rfl).1⟩⟩
    ·refine oper_alloc (by rfl) 102 rfl (z:=.agg #[.int .i64 0,.int .i64 0,.bool false,.int .i64 0,.slice none 0 0,.slice none 0 0]) (zc:=#[.int .i64 0,.int .i64 0,.bool false,.int .i64 0,.slice none 0 0,.slice none 0 0]) (by kernel_rfl) rfl ?_
     have hz:=HO0.out.2.new [.int .i64 0,.int .i64 0,.bool false,.int .i64 0,.slice none 0 0,.slice none 0 0] 102
     have HO23:=Box.mk (And.intro (HO0.out.1.alloc HO0.out.1.size (.cells #[.int .i64 0,.int .i64 0,.bool false,.int .i64 0,.slice none 0 0,.slice none 0 0] 102)) hz)
     clear hz
     have HT24:=HO23.out.1
     refine hK'.out _ _ HT24 (fun _=>?_)
     clear hK' K'
     conv=>arg 8;simp [go_sem]
     refine wpAnyH_ready (rs:=[21,23]) (by kernel_rfl) (by simp) ?_
     refine AllReadyH.cons rfl (fun K' hK'=>?_) (AllReadyH.cons rfl (fun K' hK'=>?_) AllReadyH.nil)
     ·refine oper_alloc (by rfl) 102 rfl (z:=.agg #[.int .i64 0,.int .i64 0,.bool false,.int .i64 0,.slice none 0 0,.slice none 0 0]) (zc:=#[.int .i64 0,.int .i64 0,.bool false,.int .i64 0,.slice none 0 0,.slice none 0 0]) (by kernel_rfl) rfl ?_
      have hz:=HO23.out.2.new [.int .i64 0,.int .i64 0,.bool false,.int .i64 0,.slice none 0 0,.slice none 0 0] 102
      rw [show ((wd.alloc (.cells #[.int .i64 0,.int .i64 0,.bool false,.int .i64 0,.slice none 0 0,.slice none 0 0] 102))).heap.size=wd.heap.size+1 from by simp] at hz
      have HO25:=Box.mk (And.intro (HO23.out.1.alloc HO23.out.1.size (.cells #[.int .i64 0,.int .i64 0,.bool false,.int .i64 0,.slice none 0 0,.slice none 0 0] 102)) hz)
      clear hz
      have HT26:=HO25.out.1
      refine hK'.out _ _ HT26 (fun _=>?_)
      clear hK' K'
      conv=>arg 8;simp [go_sem]
      refine ar 23 rfl fun K' hK'=>?_
      refine oper_alloc (by rfl) 102 rfl (z:=.agg #[.int .i64 0,.int .i64 0,.bool false,.int .i64 0,.slice none 0 0,.slice none 0 0]) (zc:=#[.int .i64 0,.int .i64 0,.bool false,.int .i64 0,.slice none 0 0,.slice none 0 0]) (by kernel_rfl) rfl ?_
      have hz:=HO25.out.2.new [.int .i64 0,.int .i64 0,.bool false,.int .i64 0,.slice none 0 0,.slice none 0 0] 102
      rw [show (((wd.alloc (.cells #[.int .i64 0,.int .i64 0,.bool false,.int .i64 0,.slice none 0 0,.slice none 0 0] 102)).alloc (.cells #[.int .i64 0,.int .i64 0,.bool false,.int .i64 0,.slice none 0 0,.slice none 0 0] 102))).heap.size=wd.heap.size+2 from by simp] at hz
      have HO27:=Box.mk (And.intro (HO25.out.1.alloc HO25.out.1.size (.cells #[.int .i64 0,.int .i64 0,.bool false,.int .i64 0,.slice none 0 0,.slice none 0 0] 102)) hz)
      clear hz
      have HT28:=HO27.out.1
      refine hK'.out _ _ HT28 (fun _=>?_)
      clear hK' K'
      conv=>arg 8;simp [go_sem]
      refine ar 24 rfl fun K' hK'=>?_
      refine oper_store_row (by rfl) 102 (.tmp 9) (.tmp 44) rfl rfl (by kernel_rfl) (HO27.out.2.blk 1 rfl).1 rfl rfl (cs:=AccP.cs x) rfl rfl (AccP.cs_one _) ?_
      have HX8:=HO27.out.2.setRow 1 rfl (AccP.cs x)
      have HO29:=Box.mk (And.intro (HO27.out.1.trans (HX8.2.mono (Nat.le_refl _))) HX8.1)
      clear HX8
      have HT30:=HO29.out.1
      refine hK'.out _ _ HT30 (fun _=>?_)
      clear hK' K'
      conv=>arg 8;simp [go_sem]
      refine ar 25 rfl fun K' hK'=>?_
      refine oper_store_row (by rfl) 102 (.tmp 10) (.tmp 51) rfl rfl (by kernel_rfl) (HO29.out.2.blk 0 rfl).1 rfl rfl (cs:=AccP.cs y) rfl rfl (AccP.cs_one _) ?_
      have HX8:=HO29.out.2.setRow 0 rfl (AccP.cs y)
      have HO31:=Box.mk (And.intro (HO29.out.1.trans (HX8.2.mono (Nat.le_refl _))) HX8.1)
      clear HX8
      have HT32:=HO31.out.1
      refine hK'.out _ _ HT32 (fun _=>?_)
      clear hK' K'
      conv=>arg 8;simp [go_sem]
      refine ar 26 rfl fun K' hK'=>?_
      refine oper_store_row (by rfl) 102 (.tmp 11) (.tmp 58) rfl rfl (by kernel_rfl) (HO31.out.2.blk 2 rfl).1 rfl rfl (cs:=AccP.cs z) rfl rfl (AccP.cs_one _) ?_
      have HX8:=HO31.out.2.setRow 2 rfl (AccP.cs z)
      have HO33:=Box.mk (And.intro (HO31.out.1.trans (HX8.2.mono (Nat.le_refl _))) HX8.1)
      clear HX8
      have HT34:=HO33.out.1
      refine hK'.out _ _ HT34 (fun _=>?_)
      clear hK' K'
      conv=>arg 8;simp [go_sem]
      refine ⟨by kernel_rfl,?_⟩
      conv =>
       arg 5
       simp [go_sem]
      go_wp2_with fail
      go_meet
      case rel=>exact ⟨_,_,_,rfl,rfl,rfl,⟨HO33.out.1,(HO33.out.2.blk 1 rfl).1,(HO33.out.2.blk 0 rfl).1,(HO33.out.2.blk 2 rfl).1⟩⟩
     ·refine oper_alloc (by rfl) 102 rfl (z:=.agg #[.int .i64 0,.int .i64 0,.bool false,.int .i64 0,.slice none 0 0,.slice none 0 0]) (zc:=#[.int .i64 0,.int .i64 0,.bool false,.int .i64 0,.slice none 0 0,.slice none 0 0]) (by kernel_rfl) rfl ?_
      have hz:=HO23.out.2.new [.int .i64 0,.int .i64 0,.bool false,.int .i64 0,.slice none 0 0,.slice none 0 0] 102
      rw [show ((wd.alloc (.cells #[.int .i64 0,.int .i64 0,.bool false,.int .i64 0,.slice none 0 0,.slice none 0 0] 102))).heap.size=wd.heap.size+1 from by simp] at hz
      have HO35:=Box.mk (And.intro (HO23.out.1.alloc HO23.out.1.size (.cells #[.int .i64 0,.int .i64 0,.bool false,.int .i64 0,.slice none 0 0,.slice none 0 0] 102)) hz)
      clear hz
      have HT36:=HO35.out.1
      refine hK'.out _ _ HT36 (fun _=>?_)
      clear hK' K'
      conv=>arg 8;simp [go_sem]
      refine ar 21 rfl fun K' hK'=>?_
      refine oper_alloc (by rfl) 102 rfl (z:=.agg #[.int .i64 0,.int .i64 0,.bool false,.int .i64 0,.slice none 0 0,.slice none 0 0]) (zc:=#[.int .i64 0,.int .i64 0,.bool false,.int .i64 0,.slice none 0 0,.slice none 0 0]) (by kernel_rfl) rfl ?_
      have hz:=HO35.out.2.new [.int .i64 0,.int .i64 0,.bool false,.int .i64 0,.slice none 0 0,.slice none 0 0] 102
      rw [show (((wd.alloc (.cells #[.int .i64 0,.int .i64 0,.bool false,.int .i64 0,.slice none 0 0,.slice none 0 0] 102)).alloc (.cells #[.int .i64 0,.int .i64 0,.bool false,.int .i64 0,.slice none 0 0,.slice none 0 0] 102))).heap.size=wd.heap.size+2 from by simp] at hz
      have HO37:=Box.mk (And.intro (HO35.out.1.alloc HO35.out.1.size (.cells #[.int .i64 0,.int .i64 0,.bool false,.int .i64 0,.slice none 0 0,.slice none 0 0] 102)) hz)
      clear hz
      have HT38:=HO37.out.1
      refine hK'.out _ _ HT38 (fun _=>?_)
      clear hK' K'
      conv=>arg 8;simp [go_sem]
      refine ar 24 rfl fun K' hK'=>?_
      refine oper_store_row (by rfl) 102 (.tmp 9) (.tmp 44) rfl rfl (by kernel_rfl) (HO37.out.2.blk 2 rfl).1 rfl rfl (cs:=AccP.cs x) rfl rfl (AccP.cs_one _) ?_
      have HX8:=HO37.out.2.setRow 2 rfl (AccP.cs x)
      have HO39:=Box.mk (And.intro (HO37.out.1.trans (HX8.2.mono (Nat.le_refl _))) HX8.1)
      clear HX8
      have HT40:=HO39.out.1
      refine hK'.out _ _ HT40 (fun _=>?_)
      clear hK' K'
      conv=>arg 8;simp [go_sem]
      refine ar 25 rfl fun K' hK'=>?_
      refine oper_store_row (by rfl) 102 (.tmp 10) (.tmp 51) rfl rfl (by kernel_rfl) (HO39.out.2.blk 0 rfl).1 rfl rfl (cs:=AccP.cs y) rfl rfl (AccP.cs_one _) ?_
      have HX8:=HO39.out.2.setRow 0 rfl (AccP.cs y)
      have HO41:=Box.mk (And.intro (HO39.out.1.trans (HX8.2.mono (Nat.le_refl _))) HX8.1)
      clear HX8
      have HT42:=HO41.out.1
      refine hK'.out _ _ HT42 (fun _=>?_)
      clear hK' K'
      conv=>arg 8;simp [go_sem]
      refine ar 26 rfl fun K' hK'=>?_
      refine oper_store_row (by rfl) 102 (.tmp 11) (.tmp 58) rfl rfl (by kernel_rfl) (HO41.out.2.blk 1 rfl).1 rfl rfl (cs:=AccP.cs z) rfl rfl (AccP.cs_one _) ?_
      have HX8:=HO41.out.2.setRow 1 rfl (AccP.cs z)
      have HO43:=Box.mk (And.intro (HO41.out.1.trans (HX8.2.mono (Nat.le_refl _))) HX8.1)
      clear HX8
      have HT44:=HO43.out.1
      refine hK'.out _ _ HT44 (fun _=>?_)
      clear hK' K'
      conv=>arg 8;simp [go_sem]
      refine ⟨by kernel_rfl,?_⟩
      conv =>
       arg 5
       simp [go_sem]
      go_wp2_with fail
      go_meet
      case rel=>exact ⟨_,_,_,rfl,rfl,rfl,⟨HO43.out.1,(HO43.out.2.blk 2 rfl).1,(HO43.out.2.blk 0 rfl).1,(HO43.out.2.blk 1 rfl).1⟩⟩
    ·refine oper_alloc (by rfl) 102 rfl (z:=.agg #[.int .i64 0,.int .i64 0,.bool false,.int .i64 0,.slice none 0 0,.slice none 0 0]) (zc:=#[.int .i64 0,.int .i64 0,.bool false,.int .i64 0,.slice none 0 0,.slice none 0 0]) (by kernel_rfl) rfl ?_
     have hz:=HO0.out.2.new [.int .i64 0,.int .i64 0,.bool false,.int .i64 0,.slice none 0 0,.slice none 0 0] 102
     have HO45:=Box.mk (And.intro (HO0.out.1.alloc HO0.out.1.size (.cells #[.int .i64 0,.int .i64 0,.bool false,.int .i64 0,.slice none 0 0,.slice none 0 0] 102)) hz)
     clear hz
     have HT46:=HO45.out.1
     refine hK'.out _ _ HT46 (fun _=>?_)
     clear hK' K'
     conv=>arg 8;simp [go_sem]
     refine wpAnyH_ready (rs:=[21,22]) (by kernel_rfl) (by simp) ?_
     refine AllReadyH.cons rfl (fun K' hK'=>?_) (AllReadyH.cons rfl (fun K' hK'=>?_) AllReadyH.nil)
     ·refine oper_alloc (by rfl) 102 rfl (z:=.agg #[.int .i64 0,.int .i64 0,.bool false,.int .i64 0,.slice none 0 0,.slice none 0 0]) (zc:=#[.int .i64 0,.int .i64 0,.bool false,.int .i64 0,.slice none 0 0,.slice none 0 0]) (by kernel_rfl) rfl ?_
      have hz:=HO45.out.2.new [.int .i64 0,.int .i64 0,.bool false,.int .i64 0,.slice none 0 0,.slice none 0 0] 102
      rw [show ((wd.alloc (.cells #[.int .i64 0,.int .i64 0,.bool false,.int .i64 0,.slice none 0 0,.slice none 0 0] 102))).heap.size=wd.heap.size+1 from by simp] at hz
      have HO47:=Box.mk (And.intro (HO45.out.1.alloc HO45.out.1.size (.cells #[.int .i64 0,.int .i64 0,.bool false,.int .i64 0,.slice none 0 0,.slice none 0 0] 102)) hz)
      clear hz
      have HT48:=HO47.out.1
      refine hK'.out _ _ HT48 (fun _=>?_)
      clear hK' K'
      conv=>arg 8;simp [go_sem]
      refine ar 22 rfl fun K' hK'=>?_
      refine oper_alloc (by rfl) 102 rfl (z:=.agg #[.int .i64 0,.int .i64 0,.bool false,.int .i64 0,.slice none 0 0,.slice none 0 0]) (zc:=#[.int .i64 0,.int .i64 0,.bool false,.int .i64 0,.slice none 0 0,.slice none 0 0]) (by kernel_rfl) rfl ?_
      have hz:=HO47.out.2.new [.int .i64 0,.int .i64 0,.bool false,.int .i64 0,.slice none 0 0,.slice none 0 0] 102
      rw [show (((wd.alloc (.cells #[.int .i64 0,.int .i64 0,.bool false,.int .i64 0,.slice none 0 0,.slice none 0 0] 102)).alloc (.cells #[.int .i64 0,.int .i64 0,.bool false,.int .i64 0,.slice none 0 0,.slice none 0 0] 102))).heap.size=wd.heap.size+2 from by simp] at hz
      have HO49:=Box.mk (And.intro (HO47.out.1.alloc HO47.out.1.size (.cells #[.int .i64 0,.int .i64 0,.bool false,.int .i64 0,.slice none 0 0,.slice none 0 0] 102)) hz)
      clear hz
      have HT50:=HO49.out.1
      refine hK'.out _ _ HT50 (fun _=>?_)
      clear hK' K'
      conv=>arg 8;simp [go_sem]
      refine ar 24 rfl fun K' hK'=>?_
      refine oper_store_row (by rfl) 102 (.tmp 9) (.tmp 44) rfl rfl (by kernel_rfl) (HO49.out.2.blk 1 rfl).1 rfl rfl (cs:=AccP.cs x) rfl rfl (AccP.cs_one _) ?_
      have HX8:=HO49.out.2.setRow 1 rfl (AccP.cs x)
      have HO51:=Box.mk (And.intro (HO49.out.1.trans (HX8.2.mono (Nat.le_refl _))) HX8.1)
      clear HX8
      have HT52:=HO51.out.1
      refine hK'.out _ _ HT52 (fun _=>?_)
      clear hK' K'
      conv=>arg 8;simp [go_sem]
      refine ar 25 rfl fun K' hK'=>?_
      refine oper_store_row (by rfl) 102 (.tmp 10) (.tmp 51) rfl rfl (by kernel_rfl) (HO51.out.2.blk 2 rfl).1 rfl rfl (cs:=AccP.cs y) rfl rfl (AccP.cs_one _) ?_
      have HX8:=HO51.out.2.setRow 2 rfl (AccP.cs y)
      have HO53:=Box.mk (And.intro (HO51.out.1.trans (HX8.2.mono (Nat.le_refl _))) HX8.1)
      clear HX8
      have HT54:=HO53.out.1
      refine hK'.out _ _ HT54 (fun _=>?_)
      clear hK' K'
      conv=>arg 8;simp [go_sem]
      refine ar 26 rfl fun K' hK'=>?_
      refine oper_store_row (by rfl) 102 (.tmp 11) (.tmp 58) rfl rfl (by kernel_rfl) (HO53.out.2.blk 0 rfl).1 rfl rfl (cs:=AccP.cs z) rfl rfl (AccP.cs_one _) ?_
      have HX8:=HO53.out.2.setRow 0 rfl (AccP.cs z)
      have HO55:=Box.mk (And.intro (HO53.out.1.trans (HX8.2.mono (Nat.le_refl _))) HX8.1)
      clear HX8
      have HT56:=HO55.out.1
      refine hK'.out _ _ HT56 (fun _=>?_)
      clear hK' K'
      conv=>arg 8;simp [go_sem]
      refine ⟨by kernel_rfl,?_⟩
      conv =>
       arg 5
       simp [go_sem]
      go_wp2_with fail
      go_meet
      case rel=>exact ⟨_,_,_,rfl,rfl,rfl,⟨HO55.out.1,(HO55.out.2.blk 1 rfl).1,(HO55.out.2.blk 2 rfl).1,(HO55.out.2.blk 0 rfl).1⟩⟩
     ·refine oper_alloc (by rfl) 102 rfl (z:=.agg #[.int .i64 0,.int .i64 0,.bool false,.int .i64 0,.slice none 0 0,.slice none 0 0]) (zc:=#[.int .i64 0,.int .i64 0,.bool false,.int .i64 0,.slice none 0 0,.slice none 0 0]) (by kernel_rfl) rfl ?_
      have hz:=HO45.out.2.new [.int .i64 0,.int .i64 0,.bool false,.int .i64 0,.slice none 0 0,.slice none 0 0] 102
      rw [show ((wd.alloc (.cells #[.int .i64 0,.int .i64 0,.bool false,.int .i64 0,.slice none 0 0,.slice none 0 0] 102))).heap.size=wd.heap.size+1 from by simp] at hz
      have HO57:=Box.mk (And.intro (HO45.out.1.alloc HO45.out.1.size (.cells #[.int .i64 0,.int .i64 0,.bool false,.int .i64 0,.slice none 0 0,.slice none 0 0] 102)) hz)
      clear hz
      have HT58:=HO57.out.1
      refine hK'.out _ _ HT58 (fun _=>?_)
      clear hK' K'
      conv=>arg 8;simp [go_sem]
      refine ar 21 rfl fun K' hK'=>?_
      refine oper_alloc (by rfl) 102 rfl (z:=.agg #[.int .i64 0,.int .i64 0,.bool false,.int .i64 0,.slice none 0 0,.slice none 0 0]) (zc:=#[.int .i64 0,.int .i64 0,.bool false,.int .i64 0,.slice none 0 0,.slice none 0 0]) (by kernel_rfl) rfl ?_
      have hz:=HO57.out.2.new [.int .i64 0,.int .i64 0,.bool false,.int .i64 0,.slice none 0 0,.slice none 0 0] 102
      rw [show (((wd.alloc (.cells #[.int .i64 0,.int .i64 0,.bool false,.int .i64 0,.slice none 0 0,.slice none 0 0] 102)).alloc (.cells #[.int .i64 0,.int .i64 0,.bool false,.int .i64 0,.slice none 0 0,.slice none 0 0] 102))).heap.size=wd.heap.size+2 from by simp] at hz
      have HO59:=Box.mk (And.intro (HO57.out.1.alloc HO57.out.1.size (.cells #[.int .i64 0,.int .i64 0,.bool false,.int .i64 0,.slice none 0 0,.slice none 0 0] 102)) hz)
      clear hz
      have HT60:=HO59.out.1
      refine hK'.out _ _ HT60 (fun _=>?_)
      clear hK' K'
      conv=>arg 8;simp [go_sem]
      refine ar 24 rfl fun K' hK'=>?_
      refine oper_store_row (by rfl) 102 (.tmp 9) (.tmp 44) rfl rfl (by kernel_rfl) (HO59.out.2.blk 2 rfl).1 rfl rfl (cs:=AccP.cs x) rfl rfl (AccP.cs_one _) ?_
      have HX8:=HO59.out.2.setRow 2 rfl (AccP.cs x)
      have HO61:=Box.mk (And.intro (HO59.out.1.trans (HX8.2.mono (Nat.le_refl _))) HX8.1)
      clear HX8
      have HT62:=HO61.out.1
      refine hK'.out _ _ HT62 (fun _=>?_)
      clear hK' K'
      conv=>arg 8;simp [go_sem]
      refine ar 25 rfl fun K' hK'=>?_
      refine oper_store_row (by rfl) 102 (.tmp 10) (.tmp 51) rfl rfl (by kernel_rfl) (HO61.out.2.blk 1 rfl).1 rfl rfl (cs:=AccP.cs y) rfl rfl (AccP.cs_one _) ?_
      have HX8:=HO61.out.2.setRow 1 rfl (AccP.cs y)
      have HO63:=Box.mk (And.intro (HO61.out.1.trans (HX8.2.mono (Nat.le_refl _))) HX8.1)
      clear HX8
      have HT64:=HO63.out.1
      refine hK'.out _ _ HT64 (fun _=>?_)
      clear hK' K'
      conv=>arg 8;simp [go_sem]
      refine ar 26 rfl fun K' hK'=>?_
      refine oper_store_row (by rfl) 102 (.tmp 11) (.tmp 58) rfl rfl (by kernel_rfl) (HO63.out.2.blk 0 rfl).1 rfl rfl (cs:=AccP.cs z) rfl rfl (AccP.cs_one _) ?_
      have HX8:=HO63.out.2.setRow 0 rfl (AccP.cs z)
      have HO65:=Box.mk (And.intro (HO63.out.1.trans (HX8.2.mono (Nat.le_refl _))) HX8.1)
      clear HX8
      have HT66:=HO65.out.1
      refine hK'.out _ _ HT66 (fun _=>?_)
      clear hK' K'
      conv=>arg 8;simp [go_sem]
      refine ⟨by kernel_rfl,?_⟩
      conv =>
       arg 5
       simp [go_sem]
      go_wp2_with fail
      go_meet
      case rel=>exact ⟨_,_,_,rfl,rfl,rfl,⟨HO65.out.1,(HO65.out.2.blk 2 rfl).1,(HO65.out.2.blk 1 rfl).1,(HO65.out.2.blk 0 rfl).1⟩⟩
    skip
   case rest =>
    obtain ⟨ga,gb,gc,rfl,rfl,rfl,HB⟩:=hcut
    obtain ⟨x0,x1,x2,x3,x4,x5⟩:=AccP.cells HB.out.2.1
    obtain ⟨y0,y1,y2,y3,y4,y5⟩:=AccP.cells HB.out.2.2.1
    obtain ⟨z0,z1,z2,z3,z4,z5⟩:=AccP.cells HB.out.2.2.2
    by_cases t1:y.stamp≤z.stamp
    ·obtain rfl:D=false:=by rw [← HD.out,decide_eq_false (by omega)];rfl
     go_wp2_with fail
     go_ret
     exact ⟨rfl,HB.out.1⟩
    ·rw [show decide (z.stamp<y.stamp)=true from decide_eq_true (by omega),Bool.true_and] at HD
     have HD2:=HD
     clear HD
     by_cases t2:ia=ic
     ·obtain rfl:D=true:=by rw [← HD2.out,decide_eq_true t2];rfl
      have t3:((ia:Int)==(ic:Int))=true:=by simp [t2]
      have t1:z.stamp<y.stamp:=by omega
      go_wp2_with fail
      go_ret
      exact ⟨rfl,HB.out.1⟩
     ·rw [decide_eq_false t2,Bool.false_or] at HD2
      have HD3:=HD2
      have t3:((ia:Int)==(ic:Int))=false:=by simp;omega
      have t1:z.stamp<y.stamp:=by omega
      clear HD2 t2
      obtain ⟨p,hp⟩:∃p,x.wr=p:=⟨_,rfl⟩
      have HP:=Box.mk hp
      rw [hp] at HD3
      clear hp
      go_wp2_with fail
      refine (writesx_is HP.out _).mono ?_
      rintro e w2 ⟨rfl,hb⟩
      have B2:=Box.mk (And.intro (HB.out.1.trans (hb.mono HB.out.1.size)) (And.intro (HB.out.2.1.below hb (Nat.le_refl _)) (And.intro (HB.out.2.2.1.below hb (Nat.le_refl _)) (HB.out.2.2.2.below hb (Nat.le_refl _)))))
      clear hb HB x0 x1 x2 x3 x4 x5 y0 y1 y2 y3 y4 y5 z0 z1 z2 z3 z4 z5
      obtain ⟨x0,x1,x2,x3,x4,x5⟩:=AccP.cells B2.out.2.1
      obtain ⟨z0,z1,z2,z3,z4,z5⟩:=AccP.cells B2.out.2.2.2
      cases p with
      | true =>
       by_cases t4:z.stamp<x.stamp
       ·obtain rfl:D=true:=by rw [← HD3.out,decide_eq_true t4];rfl
        have t5:decide (z.stamp<x.stamp)=true:=decide_eq_true t4
        clear t4
        go_wp2_with fail
        go_ret
        exact ⟨rfl,B2.out.1⟩
       ·obtain rfl:D=false:=by rw [← HD3.out,decide_eq_false t4];rfl
        have t5:decide (z.stamp<x.stamp)=false:=decide_eq_false t4
        clear t4
        go_wp2_with fail
        refine (writesx_is HP.out _).mono ?_
        rintro e w3 ⟨rfl,hb⟩
        have B3:=Box.mk (B2.out.1.trans (hb.mono B2.out.1.size))
        go_wp2_with fail
        go_ret
        exact ⟨rfl,B3.out⟩
      | false =>
       go_wp2_with fail
       refine (writesx_is HP.out _).mono ?_
       rintro e w3 ⟨rfl,hb⟩
       have B3:=Box.mk (And.intro (B2.out.1.trans (hb.mono B2.out.1.size)) (And.intro (B2.out.2.1.below hb (Nat.le_refl _)) (B2.out.2.2.2.below hb (Nat.le_refl _))))
       clear hb B2 x0 x1 x2 x3 x4 x5 z0 z1 z2 z3 z4 z5
       obtain ⟨x0,x1,x2,x3,x4,x5⟩:=AccP.cells B3.out.2.1
       obtain ⟨z0,z1,z2,z3,z4,z5⟩:=AccP.cells B3.out.2.2
       by_cases t4:z.stamp≤x.snap
       ·obtain rfl:D=true:=by rw [← HD3.out,decide_eq_true t4];rfl
        have t5:decide (z.stamp≤x.snap)=true:=decide_eq_true t4
        clear t4
        go_wp2_with fail
        go_ret
        exact ⟨rfl,B3.out.1⟩
       ·obtain rfl:D=false:=by rw [← HD3.out,decide_eq_false t4];rfl
        have t5:decide (z.stamp≤x.snap)=false:=decide_eq_false t4
        clear t4
        go_wp2_with fail
        go_ret
        exact ⟨rfl,B3.out.1⟩
end
end Go.Proofs.YtlfghapllmaigaaGreatDoor
