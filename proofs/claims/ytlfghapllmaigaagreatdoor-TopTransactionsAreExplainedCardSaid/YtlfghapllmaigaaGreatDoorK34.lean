/-
  The walk of the desk's see. Conditions: each theorem's own hypotheses.
-/
import Derived.Test.YtlfghapllmaigaaGreatDoorK33
set_option linter.unusedVariables false
set_option linter.unusedSimpArgs false
namespace Go.Proofs.YtlfghapllmaigaaGreatDoor
section
open Go.RowKit Go.Maps
attribute [local go_sem] Oper.semAt_some
theorem Own.dropEnd {B:Nat} {w:World} {a b c d P:HP} {l:List HP} (O:Own B w (a::b::c::d::(l++[P]))):Own B w (a::b::c::d::l):=by
 have h:(a::b::c::d::(l++[P])).Perm (P::a::b::c::d::l):=List.perm_append_comm (l₁:=a::b::c::d::l) (l₂:=[P])
 exact (O.perm h).drop 0
theorem nm_shn:(Tryz.f20.name == "runtime.NumGoroutine")=false:=by kernel_rfl
theorem bd_shn:Tryz.f20.body.isNone=false:=by kernel_rfl
theorem nm_rws:(Tryz.f19.name == "runtime.NumGoroutine")=false:=by kernel_rfl
theorem bd_rws:Tryz.f19.body.isNone=false:=by kernel_rfl
set_option maxRecDepth 20000 in
set_option maxHeartbeats 16000000 in
theorem see_dk {com:List (List WrP)} {B:Nat} {w:World} {gd gx gg bw bi bs:Nat} {t0 t1 sh:Sl} {all tick:Int} {X:TxP} {hs:List HpP} {l:List HP}
  (O:Own B w (TxsO gx X::BlkP gd 36 (dkC gx gg t0 t1 bw bi all tick sh bs)::RowP 93 4 t0.a t0.n t0.c (recC VerP.enc (verT com 0))::RowP 93 4 t1.a t1.n t1.c (recC VerP.enc (verT com 1))::RowP 84 5 sh.a sh.n sh.c (recC HpP.enc hs)::l))
  (hsh:X.shown=(com.length:Int)) (hc:com.length≤1000) (hn:sh.n≤1000) :
  Calls Tryz.prog 14 #[.pointer (some ⟨gd,0,none⟩)] w fun e w'=>e=.returned (.tuple #[])∧Below B w w'∧∃ (a9:Option Addr) (c9:Nat) (ra:Option Addr) (rc:Nat),
   Own B w' (TxsO gx X::BlkP gd 36 (dkC gx gg t0 t1 bw bi all tick ⟨a9,sh.n+1,c9⟩ bs)::RowP 93 4 t0.a t0.n t0.c (recC VerP.enc (verT com 0))::RowP 93 4 t1.a t1.n t1.c (recC VerP.enc (verT com 1)) ::
    RowP 84 5 a9 (sh.n+1) c9 (recC HpP.enc (hs++[⟨5,0,com.length,none,0,[],ra,rc,rowsH com com.length⟩]))::(l++[RowP 136 4 ra (rowsH com com.length).length rc (recC HdP.enc (rowsH com com.length))])):=by
 obtain ⟨A0,n0,c0⟩:=t0
 obtain ⟨A1,n1,c1⟩:=t1
 obtain ⟨ha,hn',hc'⟩:=sh
 simp only at O hn ⊢
 obtain ⟨L,hL⟩:∃L,com.length=L:=⟨_,rfl⟩
 have HO:=Box.mk O
 have HLL:=Box.mk hL
 have HSH:=Box.mk (fun (w':World) (hv:Sl) (hO:Own B w' (TxsO gx X::BlkP gd 36 (dkC gx gg ⟨A0,n0,c0⟩ ⟨A1,n1,c1⟩ bw bi all tick hv bs)::RowP 93 4 A0 n0 c0 (recC VerP.enc (verT com 0))::RowP 93 4 A1 n1 c1 (recC VerP.enc (verT com 1))::l))=>show Calls Tryz.prog 20 #[.pointer (some ⟨gx,0,none⟩)] w' (RetV (.int .i64 (L:Int)) w') from by
  have h1:=shown_any (Own.txs hO)
  rw [hsh,hL] at h1
  exact h1)
 have HRW:=Box.mk (fun (w':World) (hv:Sl) (hO:Own B w' (TxsO gx X::BlkP gd 36 (dkC gx gg ⟨A0,n0,c0⟩ ⟨A1,n1,c1⟩ bw bi all tick hv bs)::RowP 93 4 A0 n0 c0 (recC VerP.enc (verT com 0))::RowP 93 4 A1 n1 c1 (recC VerP.enc (verT com 1))::l))=>show Calls Tryz.prog 19 #[.pointer (some ⟨gd,0,none⟩),.int .i64 (L:Int)] w' (RetOwn 136 4 (rowsH com L).length (recC HdP.enc (rowsH com L)) w') from
  rows_dk (t0:=⟨A0,n0,c0⟩) (t1:=⟨A1,n1,c1⟩) (hO.blk 1 rfl).1 (Rd.ofOwn (hO.row 2 rfl)) (Rd.ofOwn (hO.row 3 rfl)) hc L)
 rw [hL]
 clear O hsh hL
 obtain ⟨rn,hrn⟩:∃rn,(rowsH com L).length=rn:=⟨_,rfl⟩
 rw [hrn] at HRW ⊢
 have HRN:=Box.mk hrn
 clear hrn
 generalize rowsH com L=rows at *
 generalize verT com 0=v0 at *
 generalize verT com 1=v1 at *
 go_enter Tryz.func14,Tryz.ntmps14
 have HF0:=Box.mk (And.intro HO.out.drew ((Below.refl B w).drew))
 have HS0:(∃hv:Sl,Own B w.drew (TxsO gx X::BlkP gd 36 (dkC gx gg ⟨A0,n0,c0⟩ ⟨A1,n1,c1⟩ bw bi all tick hv bs)::RowP 93 4 A0 n0 c0 (recC VerP.enc (v0))::RowP 93 4 A1 n1 c1 (recC VerP.enc (v1))::l))∧Below B w w.drew:=⟨⟨⟨ha,hn',hc'⟩,HF0.out.1.drop 4⟩,HF0.out.2⟩
 clear HO
 refine wp_region_held_drew (S:=fun w'=>((∃hv:Sl,Own B w' (TxsO gx X::BlkP gd 36 (dkC gx gg ⟨A0,n0,c0⟩ ⟨A1,n1,c1⟩ bw bi all tick hv bs)::RowP 93 4 A0 n0 c0 (recC VerP.enc (v0))::RowP 93 4 A1 n1 c1 (recC VerP.enc (v1))::l))∧Below B w w')) (by kernel_rfl) HS0 (fun _=>?_)
 generalize w.drew=wd at *
 refine tw 0 rfl HS0 ?_
 conv=>arg 8;simp [go_sem]
 refine tw 1 rfl HS0 ?_
 conv=>arg 8;simp [go_sem]
 refine tw 2 rfl HS0 ?_
 conv=>arg 8;simp [go_sem]
 refine tw 3 rfl HS0 ?_
 conv=>arg 8;simp [go_sem]
 refine tw 5 rfl HS0 ?_
 conv=>arg 8;simp [go_sem]
 refine tw 6 rfl HS0 ?_
 conv=>arg 8;simp [go_sem]
 refine tw 7 rfl HS0 ?_
 conv=>arg 8;simp [go_sem]
 refine tv 8 rfl (fun w' hS=>by obtain ⟨⟨hv,hO⟩,_⟩:=hS;have e:w'.cell? ⟨gd,0,none⟩=some (.pointer (some ⟨gx,0,none⟩)):=(hO.blk 1 rfl).1.cellOf (i:=0) rfl;clear hO;go_simp;all_goals with_reducible rfl) HS0 ?_
 conv=>arg 8;simp [go_sem]
 refine tw 10 rfl HS0 ?_
 conv=>arg 8;simp [go_sem]
 refine tw 11 rfl HS0 ?_
 conv=>arg 8;simp [go_sem]
 refine tw 12 rfl HS0 ?_
 conv=>arg 8;simp [go_sem]
 refine tw 13 rfl HS0 ?_
 conv=>arg 8;simp [go_sem]
 refine tv 14 rfl (fun w' hS=>by obtain ⟨⟨hv,hO⟩,_⟩:=hS;have e:w'.cell? ⟨gd,0,none⟩=some (.pointer (some ⟨gx,0,none⟩)):=(hO.blk 1 rfl).1.cellOf (i:=0) rfl;clear hO;go_simp;all_goals with_reducible rfl) HS0 ?_
 conv=>arg 8;simp [go_sem]
 refine wpAnyH_ready (rs:=[4,9]) (by kernel_rfl) (by simp) ?_
 refine AllReadyH.cons rfl (fun K' hK'=>?_) (AllReadyH.cons rfl (fun K' hK'=>?_) AllReadyH.nil)
 ·refine oper_load1 (by rfl) 34 (.tmp 5) rfl (by kernel_rfl) rfl (v:=.slice ha hn' hc') ((HF0.out.1.blk 1 rfl).1.cellOf (i:=8) rfl) ?_
  have HT1:=HS0
  refine hK'.out _ _ HT1 (fun _=>?_)
  clear hK' K'
  conv=>arg 8;simp [go_sem]
  refine ar 9 rfl fun K' hK'=>?_
  refine oper_call (by rfl) 20 [.tmp 10] #[25] rfl (vs:=[.pointer (some ⟨gx,0,none⟩)]) rfl Tryz.func20 nm_shn bd_shn (HSH.out _ _ HT1.1.choose_spec) ?_
  rintro e w9 ⟨rfl,hb⟩
  have HF2:=Box.mk (And.intro (HF0.out.1.below hb) (HF0.out.2.trans (hb.mono HF0.out.1.1)))
  have HT4:=(show ((∃hv:Sl,Own B _ (TxsO gx X::BlkP gd 36 (dkC gx gg ⟨A0,n0,c0⟩ ⟨A1,n1,c1⟩ bw bi all tick hv bs)::RowP 93 4 A0 n0 c0 (recC VerP.enc (v0))::RowP 93 4 A1 n1 c1 (recC VerP.enc (v1))::l))∧Below B w _) from let ⟨⟨hv,h1⟩,h2⟩:=HT1;⟨⟨hv,h1.below hb⟩,h2.trans (hb.mono h1.1)⟩)
  refine ⟨_,rfl,hK'.out _ _ HT4 (fun _=>?_)⟩
  clear hK' K'
  conv=>arg 8;simp [go_sem]
  refine ar 15 rfl fun K' hK'=>?_
  refine oper_call (by rfl) 20 [.tmp 16] #[25] rfl (vs:=[.pointer (some ⟨gx,0,none⟩)]) rfl Tryz.func20 nm_shn bd_shn (HSH.out _ _ HT4.1.choose_spec) ?_
  rintro e w9 ⟨rfl,hb⟩
  have HF5:=Box.mk (And.intro (HF2.out.1.below hb) (HF2.out.2.trans (hb.mono HF2.out.1.1)))
  have HT7:=(show ((∃hv:Sl,Own B _ (TxsO gx X::BlkP gd 36 (dkC gx gg ⟨A0,n0,c0⟩ ⟨A1,n1,c1⟩ bw bi all tick hv bs)::RowP 93 4 A0 n0 c0 (recC VerP.enc (v0))::RowP 93 4 A1 n1 c1 (recC VerP.enc (v1))::l))∧Below B w _) from let ⟨⟨hv,h1⟩,h2⟩:=HT4;⟨⟨hv,h1.below hb⟩,h2.trans (hb.mono h1.1)⟩)
  refine ⟨_,rfl,hK'.out _ _ HT7 (fun _=>?_)⟩
  clear hK' K'
  conv=>arg 8;simp [go_sem]
  refine ar 16 rfl fun K' hK'=>?_
  refine oper_call (by rfl) 19 [.tmp 12,.tmp 17] #[24,3] rfl (vs:=[.pointer (some ⟨gd,0,none⟩),.int .i64 (L:Int)]) rfl Tryz.func19 nm_rws bd_rws (HRW.out _ _ HT7.1.choose_spec) ?_
  rintro e w9 ⟨hb,ra,rc,rfl,hrow⟩
  have HF8:=Box.mk (And.intro (HF5.out.1.newRow hb hrow (Nat.le_refl _)) (HF5.out.2.trans (hb.mono HF5.out.1.1)))
  clear hrow
  have HT9:=(show ((∃hv:Sl,Own B _ (TxsO gx X::BlkP gd 36 (dkC gx gg ⟨A0,n0,c0⟩ ⟨A1,n1,c1⟩ bw bi all tick hv bs)::RowP 93 4 A0 n0 c0 (recC VerP.enc (v0))::RowP 93 4 A1 n1 c1 (recC VerP.enc (v1))::l))∧Below B w _) from let ⟨⟨hv,h1⟩,h2⟩:=HT7;⟨⟨hv,h1.below hb⟩,h2.trans (hb.mono h1.1)⟩)
  refine ⟨_,rfl,hK'.out _ _ HT9 (fun _=>?_)⟩
  clear hK' K'
  conv=>arg 8;simp [go_sem]
  refine tw 17 rfl HT9 ?_
  conv=>arg 8;simp [go_sem]
  refine ar 18 rfl fun K' hK'=>?_
  refine oper_litA (by rfl) 34 (.tmp 19) rfl sl_hp (cs:=[.int .i64 5,.int .i64 0,.int .i64 (L:Int),.slice none 0 0,.slice ra rn rc]) rfl rfl (by omega) (by omega) ?_
  have HF10:=Box.mk (And.intro (HF8.out.1.alloc (.cells #[.int .i64 5,.int .i64 0,.int .i64 (L:Int),.slice none 0 0,.slice ra rn rc] 84)) (HF8.out.2.alloc HF8.out.1.1 (.cells #[.int .i64 5,.int .i64 0,.int .i64 (L:Int),.slice none 0 0,.slice ra rn rc] 84)))
  have HT11:=(show ((∃hv:Sl,Own B _ (TxsO gx X::BlkP gd 36 (dkC gx gg ⟨A0,n0,c0⟩ ⟨A1,n1,c1⟩ bw bi all tick hv bs)::RowP 93 4 A0 n0 c0 (recC VerP.enc (v0))::RowP 93 4 A1 n1 c1 (recC VerP.enc (v1))::l))∧Below B w _) from let ⟨⟨hv,h1⟩,h2⟩:=HT9;⟨⟨hv,h1.alloc (.cells #[.int .i64 5,.int .i64 0,.int .i64 (L:Int),.slice none 0 0,.slice ra rn rc] 84)⟩,h2.alloc h1.1 (.cells #[.int .i64 5,.int .i64 0,.int .i64 (L:Int),.slice none 0 0,.slice ra rn rc] 84)⟩)
  refine hK'.out _ _ HT11 (fun _=>?_)
  clear hK' K'
  conv=>arg 8;simp [go_sem]
  refine ar 19 rfl fun K' hK'=>?_
  refine oper_append_O (by rfl) (.tmp 6) (.tmp 20) 34 34 rfl sl_hp (.inl sl_hp.ht) HF10.out.1 4 rfl rfl rfl (Src.lone _ [.int .i64 5,.int .i64 0,.int .i64 (L:Int),.slice none 0 0,.slice ra rn rc] _ rfl (by simp [Value.oneCell'])) (by omega) (by unfold maxLen;omega) ?_
  intro a9 c9 w9 hO9 hb9
  have O9:=Box.mk (show Own B w9 (TxsO gx X::BlkP gd 36 (dkC gx gg ⟨A0,n0,c0⟩ ⟨A1,n1,c1⟩ bw bi all tick ⟨ha,hn',hc'⟩ bs)::RowP 93 4 A0 n0 c0 (recC VerP.enc (v0))::RowP 93 4 A1 n1 c1 (recC VerP.enc (v1))::RowP 84 5 a9 (hn'+1) c9 (recC HpP.enc hs++[.int .i64 5,.int .i64 0,.int .i64 (L:Int),.slice none 0 0,.slice ra rn rc])::(l++[RowP 136 4 ra rn rc (recC HdP.enc rows)])) from hO9)
  have B9:=Box.mk (HF10.out.2.trans hb9)
  clear hO9 hb9
  have HT12:=(show ((∃hv:Sl,Own B w9 (TxsO gx X::BlkP gd 36 (dkC gx gg ⟨A0,n0,c0⟩ ⟨A1,n1,c1⟩ bw bi all tick hv bs)::RowP 93 4 A0 n0 c0 (recC VerP.enc (v0))::RowP 93 4 A1 n1 c1 (recC VerP.enc (v1))::l))∧Below B w w9) from ⟨⟨⟨ha,hn',hc'⟩,(O9.out.drop 4).dropEnd⟩,B9.out⟩)
  refine hK'.out _ _ HT12 (fun _=>?_)
  clear hK' K'
  conv=>arg 8;simp [go_sem]
  refine tw 20 rfl HT12 ?_
  conv=>arg 8;simp [go_sem]
  refine tw 21 rfl HT12 ?_
  conv=>arg 8;simp [go_sem]
  refine ar 22 rfl fun K' hK'=>?_
  have HF9:=Box.mk (O9.out.setRow 1 rfl (splice (dkC gx gg ⟨A0,n0,c0⟩ ⟨A1,n1,c1⟩ bw bi all tick ⟨ha,hn',hc'⟩ bs) 8 [.slice a9 (hn'+1) c9]))
  refine oper_store_part (by rfl) 34 (.tmp 23) (.tmp 21) rfl rfl (size:=1) (off:=8) (by kernel_rfl) (O9.out.blk 1 rfl).1 (by simp [dkC]) rfl (cs:=[.slice a9 (hn'+1) c9]) rfl rfl (by simp [Value.oneCell']) ?_
  have HF8:=Box.mk (And.intro (show Own B _ (TxsO gx X::BlkP gd 36 (dkC gx gg ⟨A0,n0,c0⟩ ⟨A1,n1,c1⟩ bw bi all tick ⟨a9,hn'+1,c9⟩ bs)::RowP 93 4 A0 n0 c0 (recC VerP.enc (v0))::RowP 93 4 A1 n1 c1 (recC VerP.enc (v1))::RowP 84 5 a9 (hn'+1) c9 (recC HpP.enc hs++[.int .i64 5,.int .i64 0,.int .i64 (L:Int),.slice none 0 0,.slice ra rn rc])::(l++[RowP 136 4 ra rn rc (recC HdP.enc rows)])) from HF9.out.1) (B9.out.trans HF9.out.2))
  have HT13:=(show ((∃hv:Sl,Own B _ (TxsO gx X::BlkP gd 36 (dkC gx gg ⟨A0,n0,c0⟩ ⟨A1,n1,c1⟩ bw bi all tick hv bs)::RowP 93 4 A0 n0 c0 (recC VerP.enc (v0))::RowP 93 4 A1 n1 c1 (recC VerP.enc (v1))::l))∧Below B w _) from ⟨⟨⟨a9,hn'+1,c9⟩,(HF8.out.1.drop 4).dropEnd⟩,HF8.out.2⟩)
  refine hK'.out _ _ HT13 (fun _=>?_)
  clear hK' K'
  conv=>arg 8;simp [go_sem]
  refine ⟨by kernel_rfl,?_⟩
  go_end0
  exact ⟨rfl,HF8.out.2,a9,c9,ra,rc,by rw [recC_append];simpa [recC,HpP.enc,HRN.out] using HF8.out.1⟩
 ·refine oper_call (by rfl) 20 [.tmp 10] #[25] rfl (vs:=[.pointer (some ⟨gx,0,none⟩)]) rfl Tryz.func20 nm_shn bd_shn (HSH.out _ _ HS0.1.choose_spec) ?_
  rintro e w9 ⟨rfl,hb⟩
  have HF14:=Box.mk (And.intro (HF0.out.1.below hb) (HF0.out.2.trans (hb.mono HF0.out.1.1)))
  have HT16:=(show ((∃hv:Sl,Own B _ (TxsO gx X::BlkP gd 36 (dkC gx gg ⟨A0,n0,c0⟩ ⟨A1,n1,c1⟩ bw bi all tick hv bs)::RowP 93 4 A0 n0 c0 (recC VerP.enc (v0))::RowP 93 4 A1 n1 c1 (recC VerP.enc (v1))::l))∧Below B w _) from let ⟨⟨hv,h1⟩,h2⟩:=HS0;⟨⟨hv,h1.below hb⟩,h2.trans (hb.mono h1.1)⟩)
  refine ⟨_,rfl,hK'.out _ _ HT16 (fun _=>?_)⟩
  clear hK' K'
  conv=>arg 8;simp [go_sem]
  refine wpAnyH_ready (rs:=[4,15]) (by kernel_rfl) (by simp) ?_
  refine AllReadyH.cons rfl (fun K' hK'=>?_) (AllReadyH.cons rfl (fun K' hK'=>?_) AllReadyH.nil)
  ·refine oper_load1 (by rfl) 34 (.tmp 5) rfl (by kernel_rfl) rfl (v:=.slice ha hn' hc') ((HF14.out.1.blk 1 rfl).1.cellOf (i:=8) rfl) ?_
   have HT17:=HT16
   refine hK'.out _ _ HT17 (fun _=>?_)
   clear hK' K'
   conv=>arg 8;simp [go_sem]
   refine ar 15 rfl fun K' hK'=>?_
   refine oper_call (by rfl) 20 [.tmp 16] #[25] rfl (vs:=[.pointer (some ⟨gx,0,none⟩)]) rfl Tryz.func20 nm_shn bd_shn (HSH.out _ _ HT17.1.choose_spec) ?_
   rintro e w9 ⟨rfl,hb⟩
   have HF18:=Box.mk (And.intro (HF14.out.1.below hb) (HF14.out.2.trans (hb.mono HF14.out.1.1)))
   have HT20:=(show ((∃hv:Sl,Own B _ (TxsO gx X::BlkP gd 36 (dkC gx gg ⟨A0,n0,c0⟩ ⟨A1,n1,c1⟩ bw bi all tick hv bs)::RowP 93 4 A0 n0 c0 (recC VerP.enc (v0))::RowP 93 4 A1 n1 c1 (recC VerP.enc (v1))::l))∧Below B w _) from let ⟨⟨hv,h1⟩,h2⟩:=HT17;⟨⟨hv,h1.below hb⟩,h2.trans (hb.mono h1.1)⟩)
   refine ⟨_,rfl,hK'.out _ _ HT20 (fun _=>?_)⟩
   clear hK' K'
   conv=>arg 8;simp [go_sem]
   refine ar 16 rfl fun K' hK'=>?_
   refine oper_call (by rfl) 19 [.tmp 12,.tmp 17] #[24,3] rfl (vs:=[.pointer (some ⟨gd,0,none⟩),.int .i64 (L:Int)]) rfl Tryz.func19 nm_rws bd_rws (HRW.out _ _ HT20.1.choose_spec) ?_
   rintro e w9 ⟨hb,ra,rc,rfl,hrow⟩
   have HF21:=Box.mk (And.intro (HF18.out.1.newRow hb hrow (Nat.le_refl _)) (HF18.out.2.trans (hb.mono HF18.out.1.1)))
   clear hrow
   have HT22:=(show ((∃hv:Sl,Own B _ (TxsO gx X::BlkP gd 36 (dkC gx gg ⟨A0,n0,c0⟩ ⟨A1,n1,c1⟩ bw bi all tick hv bs)::RowP 93 4 A0 n0 c0 (recC VerP.enc (v0))::RowP 93 4 A1 n1 c1 (recC VerP.enc (v1))::l))∧Below B w _) from let ⟨⟨hv,h1⟩,h2⟩:=HT20;⟨⟨hv,h1.below hb⟩,h2.trans (hb.mono h1.1)⟩)
   refine ⟨_,rfl,hK'.out _ _ HT22 (fun _=>?_)⟩
   clear hK' K'
   conv=>arg 8;simp [go_sem]
   refine tw 17 rfl HT22 ?_
   conv=>arg 8;simp [go_sem]
   refine ar 18 rfl fun K' hK'=>?_
   refine oper_litA (by rfl) 34 (.tmp 19) rfl sl_hp (cs:=[.int .i64 5,.int .i64 0,.int .i64 (L:Int),.slice none 0 0,.slice ra rn rc]) rfl rfl (by omega) (by omega) ?_
   have HF23:=Box.mk (And.intro (HF21.out.1.alloc (.cells #[.int .i64 5,.int .i64 0,.int .i64 (L:Int),.slice none 0 0,.slice ra rn rc] 84)) (HF21.out.2.alloc HF21.out.1.1 (.cells #[.int .i64 5,.int .i64 0,.int .i64 (L:Int),.slice none 0 0,.slice ra rn rc] 84)))
   have HT24:=(show ((∃hv:Sl,Own B _ (TxsO gx X::BlkP gd 36 (dkC gx gg ⟨A0,n0,c0⟩ ⟨A1,n1,c1⟩ bw bi all tick hv bs)::RowP 93 4 A0 n0 c0 (recC VerP.enc (v0))::RowP 93 4 A1 n1 c1 (recC VerP.enc (v1))::l))∧Below B w _) from let ⟨⟨hv,h1⟩,h2⟩:=HT22;⟨⟨hv,h1.alloc (.cells #[.int .i64 5,.int .i64 0,.int .i64 (L:Int),.slice none 0 0,.slice ra rn rc] 84)⟩,h2.alloc h1.1 (.cells #[.int .i64 5,.int .i64 0,.int .i64 (L:Int),.slice none 0 0,.slice ra rn rc] 84)⟩)
   refine hK'.out _ _ HT24 (fun _=>?_)
   clear hK' K'
   conv=>arg 8;simp [go_sem]
   refine ar 19 rfl fun K' hK'=>?_
   refine oper_append_O (by rfl) (.tmp 6) (.tmp 20) 34 34 rfl sl_hp (.inl sl_hp.ht) HF23.out.1 4 rfl rfl rfl (Src.lone _ [.int .i64 5,.int .i64 0,.int .i64 (L:Int),.slice none 0 0,.slice ra rn rc] _ rfl (by simp [Value.oneCell'])) (by omega) (by unfold maxLen;omega) ?_
   intro a9 c9 w9 hO9 hb9
   have O9:=Box.mk (show Own B w9 (TxsO gx X::BlkP gd 36 (dkC gx gg ⟨A0,n0,c0⟩ ⟨A1,n1,c1⟩ bw bi all tick ⟨ha,hn',hc'⟩ bs)::RowP 93 4 A0 n0 c0 (recC VerP.enc (v0))::RowP 93 4 A1 n1 c1 (recC VerP.enc (v1))::RowP 84 5 a9 (hn'+1) c9 (recC HpP.enc hs++[.int .i64 5,.int .i64 0,.int .i64 (L:Int),.slice none 0 0,.slice ra rn rc])::(l++[RowP 136 4 ra rn rc (recC HdP.enc rows)])) from hO9)
   have B9:=Box.mk (HF23.out.2.trans hb9)
   clear hO9 hb9
   have HT25:=(show ((∃hv:Sl,Own B w9 (TxsO gx X::BlkP gd 36 (dkC gx gg ⟨A0,n0,c0⟩ ⟨A1,n1,c1⟩ bw bi all tick hv bs)::RowP 93 4 A0 n0 c0 (recC VerP.enc (v0))::RowP 93 4 A1 n1 c1 (recC VerP.enc (v1))::l))∧Below B w w9) from ⟨⟨⟨ha,hn',hc'⟩,(O9.out.drop 4).dropEnd⟩,B9.out⟩)
   refine hK'.out _ _ HT25 (fun _=>?_)
   clear hK' K'
   conv=>arg 8;simp [go_sem]
   refine tw 20 rfl HT25 ?_
   conv=>arg 8;simp [go_sem]
   refine tw 21 rfl HT25 ?_
   conv=>arg 8;simp [go_sem]
   refine ar 22 rfl fun K' hK'=>?_
   have HF9:=Box.mk (O9.out.setRow 1 rfl (splice (dkC gx gg ⟨A0,n0,c0⟩ ⟨A1,n1,c1⟩ bw bi all tick ⟨ha,hn',hc'⟩ bs) 8 [.slice a9 (hn'+1) c9]))
   refine oper_store_part (by rfl) 34 (.tmp 23) (.tmp 21) rfl rfl (size:=1) (off:=8) (by kernel_rfl) (O9.out.blk 1 rfl).1 (by simp [dkC]) rfl (cs:=[.slice a9 (hn'+1) c9]) rfl rfl (by simp [Value.oneCell']) ?_
   have HF8:=Box.mk (And.intro (show Own B _ (TxsO gx X::BlkP gd 36 (dkC gx gg ⟨A0,n0,c0⟩ ⟨A1,n1,c1⟩ bw bi all tick ⟨a9,hn'+1,c9⟩ bs)::RowP 93 4 A0 n0 c0 (recC VerP.enc (v0))::RowP 93 4 A1 n1 c1 (recC VerP.enc (v1))::RowP 84 5 a9 (hn'+1) c9 (recC HpP.enc hs++[.int .i64 5,.int .i64 0,.int .i64 (L:Int),.slice none 0 0,.slice ra rn rc])::(l++[RowP 136 4 ra rn rc (recC HdP.enc rows)])) from HF9.out.1) (B9.out.trans HF9.out.2))
   have HT26:=(show ((∃hv:Sl,Own B _ (TxsO gx X::BlkP gd 36 (dkC gx gg ⟨A0,n0,c0⟩ ⟨A1,n1,c1⟩ bw bi all tick hv bs)::RowP 93 4 A0 n0 c0 (recC VerP.enc (v0))::RowP 93 4 A1 n1 c1 (recC VerP.enc (v1))::l))∧Below B w _) from ⟨⟨⟨a9,hn'+1,c9⟩,(HF8.out.1.drop 4).dropEnd⟩,HF8.out.2⟩)
   refine hK'.out _ _ HT26 (fun _=>?_)
   clear hK' K'
   conv=>arg 8;simp [go_sem]
   refine ⟨by kernel_rfl,?_⟩
   go_end0
   exact ⟨rfl,HF8.out.2,a9,c9,ra,rc,by rw [recC_append];simpa [recC,HpP.enc,HRN.out] using HF8.out.1⟩
  ·refine oper_call (by rfl) 20 [.tmp 16] #[25] rfl (vs:=[.pointer (some ⟨gx,0,none⟩)]) rfl Tryz.func20 nm_shn bd_shn (HSH.out _ _ HT16.1.choose_spec) ?_
   rintro e w9 ⟨rfl,hb⟩
   have HF27:=Box.mk (And.intro (HF14.out.1.below hb) (HF14.out.2.trans (hb.mono HF14.out.1.1)))
   have HT29:=(show ((∃hv:Sl,Own B _ (TxsO gx X::BlkP gd 36 (dkC gx gg ⟨A0,n0,c0⟩ ⟨A1,n1,c1⟩ bw bi all tick hv bs)::RowP 93 4 A0 n0 c0 (recC VerP.enc (v0))::RowP 93 4 A1 n1 c1 (recC VerP.enc (v1))::l))∧Below B w _) from let ⟨⟨hv,h1⟩,h2⟩:=HT16;⟨⟨hv,h1.below hb⟩,h2.trans (hb.mono h1.1)⟩)
   refine ⟨_,rfl,hK'.out _ _ HT29 (fun _=>?_)⟩
   clear hK' K'
   conv=>arg 8;simp [go_sem]
   refine wpAnyH_ready (rs:=[4,16]) (by kernel_rfl) (by simp) ?_
   refine AllReadyH.cons rfl (fun K' hK'=>?_) (AllReadyH.cons rfl (fun K' hK'=>?_) AllReadyH.nil)
   ·refine oper_load1 (by rfl) 34 (.tmp 5) rfl (by kernel_rfl) rfl (v:=.slice ha hn' hc') ((HF27.out.1.blk 1 rfl).1.cellOf (i:=8) rfl) ?_
    have HT30:=HT29
    refine hK'.out _ _ HT30 (fun _=>?_)
    clear hK' K'
    conv=>arg 8;simp [go_sem]
    refine ar 16 rfl fun K' hK'=>?_
    refine oper_call (by rfl) 19 [.tmp 12,.tmp 17] #[24,3] rfl (vs:=[.pointer (some ⟨gd,0,none⟩),.int .i64 (L:Int)]) rfl Tryz.func19 nm_rws bd_rws (HRW.out _ _ HT30.1.choose_spec) ?_
    rintro e w9 ⟨hb,ra,rc,rfl,hrow⟩
    have HF31:=Box.mk (And.intro (HF27.out.1.newRow hb hrow (Nat.le_refl _)) (HF27.out.2.trans (hb.mono HF27.out.1.1)))
    clear hrow
    have HT32:=(show ((∃hv:Sl,Own B _ (TxsO gx X::BlkP gd 36 (dkC gx gg ⟨A0,n0,c0⟩ ⟨A1,n1,c1⟩ bw bi all tick hv bs)::RowP 93 4 A0 n0 c0 (recC VerP.enc (v0))::RowP 93 4 A1 n1 c1 (recC VerP.enc (v1))::l))∧Below B w _) from let ⟨⟨hv,h1⟩,h2⟩:=HT30;⟨⟨hv,h1.below hb⟩,h2.trans (hb.mono h1.1)⟩)
    refine ⟨_,rfl,hK'.out _ _ HT32 (fun _=>?_)⟩
    clear hK' K'
    conv=>arg 8;simp [go_sem]
    refine tw 17 rfl HT32 ?_
    conv=>arg 8;simp [go_sem]
    refine ar 18 rfl fun K' hK'=>?_
    refine oper_litA (by rfl) 34 (.tmp 19) rfl sl_hp (cs:=[.int .i64 5,.int .i64 0,.int .i64 (L:Int),.slice none 0 0,.slice ra rn rc]) rfl rfl (by omega) (by omega) ?_
    have HF33:=Box.mk (And.intro (HF31.out.1.alloc (.cells #[.int .i64 5,.int .i64 0,.int .i64 (L:Int),.slice none 0 0,.slice ra rn rc] 84)) (HF31.out.2.alloc HF31.out.1.1 (.cells #[.int .i64 5,.int .i64 0,.int .i64 (L:Int),.slice none 0 0,.slice ra rn rc] 84)))
    have HT34:=(show ((∃hv:Sl,Own B _ (TxsO gx X::BlkP gd 36 (dkC gx gg ⟨A0,n0,c0⟩ ⟨A1,n1,c1⟩ bw bi all tick hv bs)::RowP 93 4 A0 n0 c0 (recC VerP.enc (v0))::RowP 93 4 A1 n1 c1 (recC VerP.enc (v1))::l))∧Below B w _) from let ⟨⟨hv,h1⟩,h2⟩:=HT32;⟨⟨hv,h1.alloc (.cells #[.int .i64 5,.int .i64 0,.int .i64 (L:Int),.slice none 0 0,.slice ra rn rc] 84)⟩,h2.alloc h1.1 (.cells #[.int .i64 5,.int .i64 0,.int .i64 (L:Int),.slice none 0 0,.slice ra rn rc] 84)⟩)
    refine hK'.out _ _ HT34 (fun _=>?_)
    clear hK' K'
    conv=>arg 8;simp [go_sem]
    refine ar 19 rfl fun K' hK'=>?_
    refine oper_append_O (by rfl) (.tmp 6) (.tmp 20) 34 34 rfl sl_hp (.inl sl_hp.ht) HF33.out.1 4 rfl rfl rfl (Src.lone _ [.int .i64 5,.int .i64 0,.int .i64 (L:Int),.slice none 0 0,.slice ra rn rc] _ rfl (by simp [Value.oneCell'])) (by omega) (by unfold maxLen;omega) ?_
    intro a9 c9 w9 hO9 hb9
    have O9:=Box.mk (show Own B w9 (TxsO gx X::BlkP gd 36 (dkC gx gg ⟨A0,n0,c0⟩ ⟨A1,n1,c1⟩ bw bi all tick ⟨ha,hn',hc'⟩ bs)::RowP 93 4 A0 n0 c0 (recC VerP.enc (v0))::RowP 93 4 A1 n1 c1 (recC VerP.enc (v1))::RowP 84 5 a9 (hn'+1) c9 (recC HpP.enc hs++[.int .i64 5,.int .i64 0,.int .i64 (L:Int),.slice none 0 0,.slice ra rn rc])::(l++[RowP 136 4 ra rn rc (recC HdP.enc rows)])) from hO9)
    have B9:=Box.mk (HF33.out.2.trans hb9)
    clear hO9 hb9
    have HT35:=(show ((∃hv:Sl,Own B w9 (TxsO gx X::BlkP gd 36 (dkC gx gg ⟨A0,n0,c0⟩ ⟨A1,n1,c1⟩ bw bi all tick hv bs)::RowP 93 4 A0 n0 c0 (recC VerP.enc (v0))::RowP 93 4 A1 n1 c1 (recC VerP.enc (v1))::l))∧Below B w w9) from ⟨⟨⟨ha,hn',hc'⟩,(O9.out.drop 4).dropEnd⟩,B9.out⟩)
    refine hK'.out _ _ HT35 (fun _=>?_)
    clear hK' K'
    conv=>arg 8;simp [go_sem]
    refine tw 20 rfl HT35 ?_
    conv=>arg 8;simp [go_sem]
    refine tw 21 rfl HT35 ?_
    conv=>arg 8;simp [go_sem]
    refine ar 22 rfl fun K' hK'=>?_
    have HF9:=Box.mk (O9.out.setRow 1 rfl (splice (dkC gx gg ⟨A0,n0,c0⟩ ⟨A1,n1,c1⟩ bw bi all tick ⟨ha,hn',hc'⟩ bs) 8 [.slice a9 (hn'+1) c9]))
    refine oper_store_part (by rfl) 34 (.tmp 23) (.tmp 21) rfl rfl (size:=1) (off:=8) (by kernel_rfl) (O9.out.blk 1 rfl).1 (by simp [dkC]) rfl (cs:=[.slice a9 (hn'+1) c9]) rfl rfl (by simp [Value.oneCell']) ?_
    have HF8:=Box.mk (And.intro (show Own B _ (TxsO gx X::BlkP gd 36 (dkC gx gg ⟨A0,n0,c0⟩ ⟨A1,n1,c1⟩ bw bi all tick ⟨a9,hn'+1,c9⟩ bs)::RowP 93 4 A0 n0 c0 (recC VerP.enc (v0))::RowP 93 4 A1 n1 c1 (recC VerP.enc (v1))::RowP 84 5 a9 (hn'+1) c9 (recC HpP.enc hs++[.int .i64 5,.int .i64 0,.int .i64 (L:Int),.slice none 0 0,.slice ra rn rc])::(l++[RowP 136 4 ra rn rc (recC HdP.enc rows)])) from HF9.out.1) (B9.out.trans HF9.out.2))
    have HT36:=(show ((∃hv:Sl,Own B _ (TxsO gx X::BlkP gd 36 (dkC gx gg ⟨A0,n0,c0⟩ ⟨A1,n1,c1⟩ bw bi all tick hv bs)::RowP 93 4 A0 n0 c0 (recC VerP.enc (v0))::RowP 93 4 A1 n1 c1 (recC VerP.enc (v1))::l))∧Below B w _) from ⟨⟨⟨a9,hn'+1,c9⟩,(HF8.out.1.drop 4).dropEnd⟩,HF8.out.2⟩)
    refine hK'.out _ _ HT36 (fun _=>?_)
    clear hK' K'
    conv=>arg 8;simp [go_sem]
    refine ⟨by kernel_rfl,?_⟩
    go_end0
    exact ⟨rfl,HF8.out.2,a9,c9,ra,rc,by rw [recC_append];simpa [recC,HpP.enc,HRN.out] using HF8.out.1⟩
   ·refine oper_call (by rfl) 19 [.tmp 12,.tmp 17] #[24,3] rfl (vs:=[.pointer (some ⟨gd,0,none⟩),.int .i64 (L:Int)]) rfl Tryz.func19 nm_rws bd_rws (HRW.out _ _ HT29.1.choose_spec) ?_
    rintro e w9 ⟨hb,ra,rc,rfl,hrow⟩
    have HF37:=Box.mk (And.intro (HF27.out.1.newRow hb hrow (Nat.le_refl _)) (HF27.out.2.trans (hb.mono HF27.out.1.1)))
    clear hrow
    have HT38:=(show ((∃hv:Sl,Own B _ (TxsO gx X::BlkP gd 36 (dkC gx gg ⟨A0,n0,c0⟩ ⟨A1,n1,c1⟩ bw bi all tick hv bs)::RowP 93 4 A0 n0 c0 (recC VerP.enc (v0))::RowP 93 4 A1 n1 c1 (recC VerP.enc (v1))::l))∧Below B w _) from let ⟨⟨hv,h1⟩,h2⟩:=HT29;⟨⟨hv,h1.below hb⟩,h2.trans (hb.mono h1.1)⟩)
    refine ⟨_,rfl,hK'.out _ _ HT38 (fun _=>?_)⟩
    clear hK' K'
    conv=>arg 8;simp [go_sem]
    refine tw 17 rfl HT38 ?_
    conv=>arg 8;simp [go_sem]
    refine wpAnyH_ready (rs:=[4,18]) (by kernel_rfl) (by simp) ?_
    refine AllReadyH.cons rfl (fun K' hK'=>?_) (AllReadyH.cons rfl (fun K' hK'=>?_) AllReadyH.nil)
    ·refine oper_load1 (by rfl) 34 (.tmp 5) rfl (by kernel_rfl) rfl (v:=.slice ha hn' hc') ((HF37.out.1.blk 1 rfl).1.cellOf (i:=8) rfl) ?_
     have HT39:=HT38
     refine hK'.out _ _ HT39 (fun _=>?_)
     clear hK' K'
     conv=>arg 8;simp [go_sem]
     refine ar 18 rfl fun K' hK'=>?_
     refine oper_litA (by rfl) 34 (.tmp 19) rfl sl_hp (cs:=[.int .i64 5,.int .i64 0,.int .i64 (L:Int),.slice none 0 0,.slice ra rn rc]) rfl rfl (by omega) (by omega) ?_
     have HF40:=Box.mk (And.intro (HF37.out.1.alloc (.cells #[.int .i64 5,.int .i64 0,.int .i64 (L:Int),.slice none 0 0,.slice ra rn rc] 84)) (HF37.out.2.alloc HF37.out.1.1 (.cells #[.int .i64 5,.int .i64 0,.int .i64 (L:Int),.slice none 0 0,.slice ra rn rc] 84)))
     have HT41:=(show ((∃hv:Sl,Own B _ (TxsO gx X::BlkP gd 36 (dkC gx gg ⟨A0,n0,c0⟩ ⟨A1,n1,c1⟩ bw bi all tick hv bs)::RowP 93 4 A0 n0 c0 (recC VerP.enc (v0))::RowP 93 4 A1 n1 c1 (recC VerP.enc (v1))::l))∧Below B w _) from let ⟨⟨hv,h1⟩,h2⟩:=HT39;⟨⟨hv,h1.alloc (.cells #[.int .i64 5,.int .i64 0,.int .i64 (L:Int),.slice none 0 0,.slice ra rn rc] 84)⟩,h2.alloc h1.1 (.cells #[.int .i64 5,.int .i64 0,.int .i64 (L:Int),.slice none 0 0,.slice ra rn rc] 84)⟩)
     refine hK'.out _ _ HT41 (fun _=>?_)
     clear hK' K'
     conv=>arg 8;simp [go_sem]
     refine ar 19 rfl fun K' hK'=>?_
     refine oper_append_O (by rfl) (.tmp 6) (.tmp 20) 34 34 rfl sl_hp (.inl sl_hp.ht) HF40.out.1 4 rfl rfl rfl (Src.lone _ [.int .i64 5,.int .i64 0,.int .i64 (L:Int),.slice none 0 0,.slice ra rn rc] _ rfl (by simp [Value.oneCell'])) (by omega) (by unfold maxLen;omega) ?_
     intro a9 c9 w9 hO9 hb9
     have O9:=Box.mk (show Own B w9 (TxsO gx X::BlkP gd 36 (dkC gx gg ⟨A0,n0,c0⟩ ⟨A1,n1,c1⟩ bw bi all tick ⟨ha,hn',hc'⟩ bs)::RowP 93 4 A0 n0 c0 (recC VerP.enc (v0))::RowP 93 4 A1 n1 c1 (recC VerP.enc (v1))::RowP 84 5 a9 (hn'+1) c9 (recC HpP.enc hs++[.int .i64 5,.int .i64 0,.int .i64 (L:Int),.slice none 0 0,.slice ra rn rc])::(l++[RowP 136 4 ra rn rc (recC HdP.enc rows)])) from hO9)
     have B9:=Box.mk (HF40.out.2.trans hb9)
     clear hO9 hb9
     have HT42:=(show ((∃hv:Sl,Own B w9 (TxsO gx X::BlkP gd 36 (dkC gx gg ⟨A0,n0,c0⟩ ⟨A1,n1,c1⟩ bw bi all tick hv bs)::RowP 93 4 A0 n0 c0 (recC VerP.enc (v0))::RowP 93 4 A1 n1 c1 (recC VerP.enc (v1))::l))∧Below B w w9) from ⟨⟨⟨ha,hn',hc'⟩,(O9.out.drop 4).dropEnd⟩,B9.out⟩)
     refine hK'.out _ _ HT42 (fun _=>?_)
     clear hK' K'
     conv=>arg 8;simp [go_sem]
     refine tw 20 rfl HT42 ?_
     conv=>arg 8;simp [go_sem]
     refine tw 21 rfl HT42 ?_
     conv=>arg 8;simp [go_sem]
     refine ar 22 rfl fun K' hK'=>?_
     have HF9:=Box.mk (O9.out.setRow 1 rfl (splice (dkC gx gg ⟨A0,n0,c0⟩ ⟨A1,n1,c1⟩ bw bi all tick ⟨ha,hn',hc'⟩ bs) 8 [.slice a9 (hn'+1) c9]))
     refine oper_store_part (by rfl) 34 (.tmp 23) (.tmp 21) rfl rfl (size:=1) (off:=8) (by kernel_rfl) (O9.out.blk 1 rfl).1 (by simp [dkC]) rfl (cs:=[.slice a9 (hn'+1) c9]) rfl rfl (by simp [Value.oneCell']) ?_
     have HF8:=Box.mk (And.intro (show Own B _ (TxsO gx X::BlkP gd 36 (dkC gx gg ⟨A0,n0,c0⟩ ⟨A1,n1,c1⟩ bw bi all tick ⟨a9,hn'+1,c9⟩ bs)::RowP 93 4 A0 n0 c0 (recC VerP.enc (v0))::RowP 93 4 A1 n1 c1 (recC VerP.enc (v1))::RowP 84 5 a9 (hn'+1) c9 (recC HpP.enc hs++[.int .i64 5,.int .i64 0,.int .i64 (L:Int),.slice none 0 0,.slice ra rn rc])::(l++[RowP 136 4 ra rn rc (recC HdP.enc rows)])) from HF9.out.1) (B9.out.trans HF9.out.2))
     have HT43:=(show ((∃hv:Sl,Own B _ (TxsO gx X::BlkP gd 36 (dkC gx gg ⟨A0,n0,c0⟩ ⟨A1,n1,c1⟩ bw bi all tick hv bs)::RowP 93 4 A0 n0 c0 (recC VerP.enc (v0))::RowP 93 4 A1 n1 c1 (recC VerP.enc (v1))::l))∧Below B w _) from ⟨⟨⟨a9,hn'+1,c9⟩,(HF8.out.1.drop 4).dropEnd⟩,HF8.out.2⟩)
     refine hK'.out _ _ HT43 (fun _=>?_)
     clear hK' K'
     conv=>arg 8;simp [go_sem]
     refine ⟨by kernel_rfl,?_⟩
     go_end0
     exact ⟨rfl,HF8.out.2,a9,c9,ra,rc,by rw [recC_append];simpa [recC,HpP.enc,HRN.out] using HF8.out.1⟩
    ·refine oper_litA (by rfl) 34 (.tmp 19) rfl sl_hp (cs:=[.int .i64 5,.int .i64 0,.int .i64 (L:Int),.slice none 0 0,.slice ra rn rc]) rfl rfl (by omega) (by omega) ?_
     have HF44:=Box.mk (And.intro (HF37.out.1.alloc (.cells #[.int .i64 5,.int .i64 0,.int .i64 (L:Int),.slice none 0 0,.slice ra rn rc] 84)) (HF37.out.2.alloc HF37.out.1.1 (.cells #[.int .i64 5,.int .i64 0,.int .i64 (L:Int),.slice none 0 0,.slice ra rn rc] 84)))
     have HT45:=(show ((∃hv:Sl,Own B _ (TxsO gx X::BlkP gd 36 (dkC gx gg ⟨A0,n0,c0⟩ ⟨A1,n1,c1⟩ bw bi all tick hv bs)::RowP 93 4 A0 n0 c0 (recC VerP.enc (v0))::RowP 93 4 A1 n1 c1 (recC VerP.enc (v1))::l))∧Below B w _) from let ⟨⟨hv,h1⟩,h2⟩:=HT38;⟨⟨hv,h1.alloc (.cells #[.int .i64 5,.int .i64 0,.int .i64 (L:Int),.slice none 0 0,.slice ra rn rc] 84)⟩,h2.alloc h1.1 (.cells #[.int .i64 5,.int .i64 0,.int .i64 (L:Int),.slice none 0 0,.slice ra rn rc] 84)⟩)
     refine hK'.out _ _ HT45 (fun _=>?_)
     clear hK' K'
     conv=>arg 8;simp [go_sem]
     refine ar 4 rfl fun K' hK'=>?_
     refine oper_load1 (by rfl) 34 (.tmp 5) rfl (by kernel_rfl) rfl (v:=.slice ha hn' hc') ((HF44.out.1.blk 1 rfl).1.cellOf (i:=8) rfl) ?_
     have HT46:=HT45
     refine hK'.out _ _ HT46 (fun _=>?_)
     clear hK' K'
     conv=>arg 8;simp [go_sem]
     refine ar 19 rfl fun K' hK'=>?_
     refine oper_append_O (by rfl) (.tmp 6) (.tmp 20) 34 34 rfl sl_hp (.inl sl_hp.ht) HF44.out.1 4 rfl rfl rfl (Src.lone _ [.int .i64 5,.int .i64 0,.int .i64 (L:Int),.slice none 0 0,.slice ra rn rc] _ rfl (by simp [Value.oneCell'])) (by omega) (by unfold maxLen;omega) ?_
     intro a9 c9 w9 hO9 hb9
     have O9:=Box.mk (show Own B w9 (TxsO gx X::BlkP gd 36 (dkC gx gg ⟨A0,n0,c0⟩ ⟨A1,n1,c1⟩ bw bi all tick ⟨ha,hn',hc'⟩ bs)::RowP 93 4 A0 n0 c0 (recC VerP.enc (v0))::RowP 93 4 A1 n1 c1 (recC VerP.enc (v1))::RowP 84 5 a9 (hn'+1) c9 (recC HpP.enc hs++[.int .i64 5,.int .i64 0,.int .i64 (L:Int),.slice none 0 0,.slice ra rn rc])::(l++[RowP 136 4 ra rn rc (recC HdP.enc rows)])) from hO9)
     have B9:=Box.mk (HF44.out.2.trans hb9)
     clear hO9 hb9
     have HT47:=(show ((∃hv:Sl,Own B w9 (TxsO gx X::BlkP gd 36 (dkC gx gg ⟨A0,n0,c0⟩ ⟨A1,n1,c1⟩ bw bi all tick hv bs)::RowP 93 4 A0 n0 c0 (recC VerP.enc (v0))::RowP 93 4 A1 n1 c1 (recC VerP.enc (v1))::l))∧Below B w w9) from ⟨⟨⟨ha,hn',hc'⟩,(O9.out.drop 4).dropEnd⟩,B9.out⟩)
     refine hK'.out _ _ HT47 (fun _=>?_)
     clear hK' K'
     conv=>arg 8;simp [go_sem]
     refine tw 20 rfl HT47 ?_
     conv=>arg 8;simp [go_sem]
     refine tw 21 rfl HT47 ?_
     conv=>arg 8;simp [go_sem]
     refine ar 22 rfl fun K' hK'=>?_
     have HF9:=Box.mk (O9.out.setRow 1 rfl (splice (dkC gx gg ⟨A0,n0,c0⟩ ⟨A1,n1,c1⟩ bw bi all tick ⟨ha,hn',hc'⟩ bs) 8 [.slice a9 (hn'+1) c9]))
     refine oper_store_part (by rfl) 34 (.tmp 23) (.tmp 21) rfl rfl (size:=1) (off:=8) (by kernel_rfl) (O9.out.blk 1 rfl).1 (by simp [dkC]) rfl (cs:=[.slice a9 (hn'+1) c9]) rfl rfl (by simp [Value.oneCell']) ?_
     have HF8:=Box.mk (And.intro (show Own B _ (TxsO gx X::BlkP gd 36 (dkC gx gg ⟨A0,n0,c0⟩ ⟨A1,n1,c1⟩ bw bi all tick ⟨a9,hn'+1,c9⟩ bs)::RowP 93 4 A0 n0 c0 (recC VerP.enc (v0))::RowP 93 4 A1 n1 c1 (recC VerP.enc (v1))::RowP 84 5 a9 (hn'+1) c9 (recC HpP.enc hs++[.int .i64 5,.int .i64 0,.int .i64 (L:Int),.slice none 0 0,.slice ra rn rc])::(l++[RowP 136 4 ra rn rc (recC HdP.enc rows)])) from HF9.out.1) (B9.out.trans HF9.out.2))
     have HT48:=(show ((∃hv:Sl,Own B _ (TxsO gx X::BlkP gd 36 (dkC gx gg ⟨A0,n0,c0⟩ ⟨A1,n1,c1⟩ bw bi all tick hv bs)::RowP 93 4 A0 n0 c0 (recC VerP.enc (v0))::RowP 93 4 A1 n1 c1 (recC VerP.enc (v1))::l))∧Below B w _) from ⟨⟨⟨a9,hn'+1,c9⟩,(HF8.out.1.drop 4).dropEnd⟩,HF8.out.2⟩)
     refine hK'.out _ _ HT48 (fun _=>?_)
     clear hK' K'
     conv=>arg 8;simp [go_sem]
     refine ⟨by kernel_rfl,?_⟩
     go_end0
     exact ⟨rfl,HF8.out.2,a9,c9,ra,rc,by rw [recC_append];simpa [recC,HpP.enc,HRN.out] using HF8.out.1⟩
end
end Go.Proofs.YtlfghapllmaigaaGreatDoor
