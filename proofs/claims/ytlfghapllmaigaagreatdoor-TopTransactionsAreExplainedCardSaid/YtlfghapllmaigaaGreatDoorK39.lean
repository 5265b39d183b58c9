/-
  The walk of the desk's do: Begin; The walk of the desk's do: a failure; A row that is no longer written, behind the transactions. Conditions: each theorem's own hypotheses.
-/
import Derived.Test.YtlfghapllmaigaaGreatDoorK38
import Derived.Test.YtlfghapllmaigaaGreatDoorK32
import Derived.Deep.CutRange
set_option linter.unusedVariables false
set_option linter.unusedSimpArgs false
namespace Go.Proofs.YtlfghapllmaigaaGreatDoor
section
open Go.RowKit Go.Maps
attribute [local go_sem] Oper.semAt_some
theorem nm_begin:(Tryz.f27.name == "runtime.NumGoroutine")=false:=by kernel_rfl
theorem bd_begin:Tryz.f27.body.isNone=false:=by kernel_rfl
theorem nm_rows:(Tryz.f29.name == "runtime.NumGoroutine")=false:=by kernel_rfl
theorem bd_rows:Tryz.f29.body.isNone=false:=by kernel_rfl
theorem Own.two {B:Nat} {w:World} {p0 p1 p2 p3 p4 p5 p6 p7 p9:HP} {G:List RdD} {e e':TypeId} {size size':Nat} {a a':Option Addr} {n n' cap cap':Nat} {xs xs':List Value} (O:Own B w [p0,p1,p2,p3,p4,p5,p6,p7,ImmO G,p9,RowP e size a n cap xs,RowP e' size' a' n' cap' xs']) :
  Own B w [p0,p1,p2,p3,p4,p5,p6,p7,ImmO (⟨a,n,cap,size,xs⟩::⟨a',n',cap',size',xs'⟩::G),p9] :=
 Own.immLast (l:=[p0,p1,p2,p3,p4,p5,p6,p7,ImmO (⟨a',n',cap',size',xs'⟩::G),p9]) (Own.immLast (l:=[p0,p1,p2,p3,p4,p5,p6,p7,ImmO G,p9,RowP e size a n cap xs]) O 8 rfl) 8 rfl
set_option maxRecDepth 20000 in
set_option maxHeartbeats 16000000 in
theorem do_begin {ser:Bool} {m gd B:Nat} {w:World} {com:List (Int×List WrP)} {wt:List Wtx} {X:TxP} {S:Gr.GS} {hs:List HpP} {G:List RdD} {mw:List (Int×WsS)} {mi:List (Int×Int)} {ms:List (Int×SnP)} {n tick:Int} {gx gg bw bi bs:Nat} {a0 a1 ha:Option Addr} {c0 c1 hc:Nat}
  (O:Own B w (DkL gd gx gg bw bi bs n tick com X S hs G mw mi (SeenO bs ms) a0 c0 a1 c1 ha hc)) (j:DkJ ser m com wt X S hs G mw mi ms n tick) (hm:m<60) {mn mt mr mv:Int} (hmn:In64 mn) (hmt:In64 mt) (hmr:In64 mr) (hmv:In64 mv) (hser:ser=true→mn=1) :
  Calls Tryz.prog 7 #[.pointer (some ⟨gd,0,none⟩),.agg #[.int .i64 0,.int .i64 mn,.int .i64 mt,.int .i64 mr,.int .i64 mv]] w (RetDk ser (m+1) gd B w):=by
 have HSER:=Box.mk hser
 clear hser
 have HJ:=Box.mk j
 have O1:=Box.mk (O.new [.int .i64 0,.int .i64 mn,.int .i64 mt,.int .i64 mr,.int .i64 mv] 38)
 have B1:=Box.mk ((Below.refl B w).alloc O.1 (.cells #[.int .i64 0,.int .i64 mn,.int .i64 mt,.int .i64 mr,.int .i64 mv] 38))
 have HMN:=Box.mk hmn
 have HMM:=Box.mk (And.intro hmt (And.intro hmr hmv))
 have hm100:X.all.length≤100:=j.x.ok.len
 have hna2:X.act.length≤X.all.length:=by unfold TxP.all;rw [List.length_append,List.length_map];omega
 clear O j hmn hmt hmr hmv
 go_enter Tryz.func7,Tryz.ntmps7
 go_upto_region 1 with fail
 generalize w.heap.size=gm at *
 generalize (w.alloc (.cells #[.int .i64 0,.int .i64 mn,.int .i64 mt,.int .i64 mr,.int .i64 mv] 38))=w1 at *
 have y0:w1.cell? ⟨gd,0,none⟩=some (.pointer (some ⟨gx,0,none⟩)):=(O1.out.blk 1 rfl).1.cellOf (i:=0) rfl
 go_wp2_with fail
 refine (active_any (Own.txs O1.out) HJ.out.x.ok).mono ?_
 rintro e w2 ⟨hb,aa,ac,rfl,hrow⟩
 obtain ⟨na,hna⟩:∃na,(X.act.map (·.1)).length=na:=⟨_,rfl⟩
 rw [hna] at hrow ⊢
 have O2:=Box.mk (O1.out.newRow hb hrow (Nat.le_refl _))
 have B2:=Box.mk (B1.out.trans (hb.mono O1.out.1))
 have HNA:=Box.mk hna
 have hnl:na≤100:=by rw [← hna,List.length_map];omega
 clear hrow hb y0 O1 B1 hna hna2 hm100
 have y1:w2.cell? ⟨gm,1,none⟩=some (.int .i64 mn):=(O2.out.blk 10 rfl).1.cellOf (i:=1) rfl
 go_upto_if 23 with fail
 go_cut [6] from 23 (fun s6 wx=>∃tx:Int,s6=.int .i64 tx∧Box (In64 tx∧Own B wx (DkL gd gx gg bw bi bs n tick com X S hs G mw mi (SeenO bs ms) a0 c0 a1 c1 ha hc++[BlkP gm 38 [.int .i64 0,.int .i64 mn,.int .i64 mt,.int .i64 mr,.int .i64 mv]])∧Below B w wx))
 case first =>
  by_cases h0:0<na
  ·obtain ⟨ix,hix⟩:∃ix:Nat,mn % (na:Int)=(ix:Int):=⟨(mn % (na:Int)).toNat,(Int.toNat_of_nonneg (Int.emod_nonneg _ (by omega))).symm⟩
   have hixl:ix<na:=by have:=Int.emod_lt_of_pos mn (show (0:Int)<na by omega);omega
   have HL:=Box.mk (show Calls Tryz.prog 26 #[.int .i64 mn,.int .i64 (na:Int)] w2 (RetV (.int .i64 (ix:Int)) w2) from by have h1:=least_any HMN.out (show (0:Int)<na by omega) (by omega) w2;rw [hix] at h1;exact h1)
   clear hix
   go_wp2_with fail
   refine HL.out.mono ?_
   rintro e w3 ⟨rfl,hb3⟩
   have O3:=Box.mk (O2.out.below hb3)
   have B3:=Box.mk (B2.out.trans (hb3.mono O2.out.1))
   clear hb3 O2 B2 y1 HL
   obtain ⟨ob,ooff,haa,hco⟩:=(Rd.ofOwn (O3.out.row 11 rfl)).intAtD ix hixl
   obtain ⟨tx,htx⟩:∃tx,(X.act.map (·.1)).getD ix 0=tx:=⟨_,rfl⟩
   rw [htx] at hco
   have HT:=Box.mk (show In64 tx from by
    have h1:tx∈X.act.map (·.1):=by rw [← htx,List.getD_eq_getElem?_getD,List.getElem?_eq_getElem (by rw [HNA.out];exact hixl)];exact List.getElem_mem _
    obtain ⟨q,hq,rfl⟩:=List.mem_map.1 h1
    exact HJ.out.x.ok.i64 q hq)
   clear htx
   subst haa
   go_wp2_with fail
   go_meet
   case rel=>exact ⟨tx,rfl,⟨HT.out,O3.out.drop 11,B3.out⟩⟩
  ·obtain rfl:na=0:=by omega
   go_wp2_with fail
   go_meet
   case rel=>exact ⟨0,rfl,⟨by unfold In64;omega,O2.out.drop 11,B2.out⟩⟩
 case rest =>
  obtain ⟨tx,rfl,HC⟩:=hcut
  clear O2 B2 y1 HNA hnl
  have O3:=Box.mk HC.out.2.1
  have B3:=Box.mk HC.out.2.2
  have HTX:=Box.mk HC.out.1
  clear HC
  have m0:wc.cell? ⟨gm,0,none⟩=some (.int .i64 0):=(O3.out.blk 10 rfl).1.cellOf (i:=0) rfl
  obtain ⟨md,hmd⟩:∃md,mn % 2=md:=⟨_,rfl⟩
  have hmd2:0≤md∧md≤1:=by omega
  have HLE:=Box.mk (fun (w':World)=>show Calls Tryz.prog 26 #[.int .i64 mn,.int .i64 2] w' (RetV (.int .i64 md) w') from by have h1:=least_any HMN.out (show (0:Int)<2 by omega) (by omega) w';rw [hmd] at h1;exact h1)
  have HMD:=Box.mk (And.intro hmd2 (show ser=true→md=1 from fun h=>by have:=HSER.out h;omega))
  clear hmd hmd2
  by_cases hrm:X.act.length<16∧X.all.length<40
  ·have HRM:=Box.mk hrm
   clear hrm
   go_upto_region 12 with fail
   have HF0:=Box.mk (And.intro O3.out.drew B3.out.drew)
   have HS0:Own B wc.drew [BlkP gd 36 (dkC gx gg ⟨a0,(verT (cwOf com) 0).length,c0⟩ ⟨a1,(verT (cwOf com) 1).length,c1⟩ bw bi n tick ⟨ha,hs.length,hc⟩ bs),BlkP gm 38 [.int .i64 0,.int .i64 mn,.int .i64 mt,.int .i64 mr,.int .i64 mv]]∧Below B w wc.drew:=⟨((HF0.out.1.front 10 rfl).front 2 rfl).head2,HF0.out.2⟩
   clear O3 B3 m0
   refine wp_region_held_drew (S:=fun w'=>(Own B w' [BlkP gd 36 (dkC gx gg ⟨a0,(verT (cwOf com) 0).length,c0⟩ ⟨a1,(verT (cwOf com) 1).length,c1⟩ bw bi n tick ⟨ha,hs.length,hc⟩ bs),BlkP gm 38 [.int .i64 0,.int .i64 mn,.int .i64 mt,.int .i64 mr,.int .i64 mv]]∧Below B w w')) (by kernel_rfl) HS0 (fun _=>?_)
   generalize wc.drew=wd at *
   refine tw 0 rfl HS0 ?_
   conv=>arg 8;simp [go_sem]
   refine tw 1 rfl HS0 ?_
   conv=>arg 8;simp [go_sem]
   refine tw 2 rfl HS0 ?_
   conv=>arg 8;simp [go_sem]
   refine tv 3 rfl (fun w' hS=>by have e:w'.cell? ⟨gd,0,none⟩=some (.pointer (some ⟨gx,0,none⟩)):=(hS.1.blk 0 rfl).1.cellOf (i:=0) rfl;go_simp;all_goals with_reducible rfl) HS0 ?_
   conv=>arg 8;simp [go_sem]
   refine tw 4 rfl HS0 ?_
   conv=>arg 8;simp [go_sem]
   refine tv 5 rfl (fun w' hS=>by have e:w'.cell? ⟨gm,1,none⟩=some (.int .i64 mn):=(hS.1.blk 1 rfl).1.cellOf (i:=1) rfl;go_simp;all_goals with_reducible rfl) HS0 ?_
   conv=>arg 8;simp [go_sem]
   refine ar 6 rfl fun K' hK'=>?_
   refine oper_call (by rfl) 26 [.tmp 80,.const (.int .i64 2)] #[3,3] rfl (vs:=[.int .i64 mn,.int .i64 2]) rfl Tryz.func26 nm_least bd_least (HLE.out _) ?_
   rintro e w8 ⟨rfl,hb8⟩
   have HF1:=Box.mk (And.intro (HF0.out.1.below hb8) (HF0.out.2.trans (hb8.mono HF0.out.1.1)))
   clear hb8
   have HT2:=(show Own B _ [BlkP gd 36 (dkC gx gg ⟨a0,(verT (cwOf com) 0).length,c0⟩ ⟨a1,(verT (cwOf com) 1).length,c1⟩ bw bi n tick ⟨ha,hs.length,hc⟩ bs),BlkP gm 38 [.int .i64 0,.int .i64 mn,.int .i64 mt,.int .i64 mr,.int .i64 mv]]∧Below B w _ from And.intro (((HF1.out.1.front 10 rfl).front 2 rfl).head2) HF1.out.2)
   refine ⟨_,rfl,hK'.out _ _ HT2 (fun _=>?_)⟩
   clear hK' K'
   conv=>arg 8;simp [go_sem]
   refine ar 7 rfl fun K' hK'=>?_
   refine oper_call (by rfl) 27 [.tmp 78,.tmp 81] #[25,3] rfl (vs:=[.pointer (some ⟨gx,0,none⟩),.int .i64 md]) rfl Tryz.func27 nm_begin bd_begin (begin_any (show Own B _ (TxsO gx X::_) from HF1.out.1) HJ.out.x.ok HMD.out.1 (fun q hq=>(HJ.out.x.begun.2 q hq).2) ⟨HJ.out.x.begun.1,by have:=HJ.out.bg;omega⟩ HRM.out.1 HRM.out.2) ?_
   rintro e w9 ⟨rfl,hb9,p,br,bw9,k,ka,kc,hok,hk1,hk2,hO9⟩
   have O9:=Box.mk (And.intro hO9 (HF1.out.2.trans hb9))
   have HK:=Box.mk (And.intro hok (And.intro hk1 hk2))
   clear hO9 hb9 hok hk1 hk2
   have HT3:=(show Own B _ [BlkP gd 36 (dkC gx gg ⟨a0,(verT (cwOf com) 0).length,c0⟩ ⟨a1,(verT (cwOf com) 1).length,c1⟩ bw bi n tick ⟨ha,hs.length,hc⟩ bs),BlkP gm 38 [.int .i64 0,.int .i64 mn,.int .i64 mt,.int .i64 mr,.int .i64 mv]]∧Below B w _ from And.intro (((O9.out.1.front 10 rfl).front 2 rfl).head2) O9.out.2)
   refine ⟨_,rfl,hK'.out _ _ HT3 (fun _=>?_)⟩
   clear hK' K'
   conv=>arg 8;simp [go_sem]
   refine tw 8 rfl HT3 ?_
   conv=>arg 8;simp [go_sem]
   refine tw 9 rfl HT3 ?_
   conv=>arg 8;simp [go_sem]
   refine tw 10 rfl HT3 ?_
   conv=>arg 8;simp [go_sem]
   refine tw 11 rfl HT3 ?_
   conv=>arg 8;simp [go_sem]
   refine tw 12 rfl HT3 ?_
   conv=>arg 8;simp [go_sem]
   refine ⟨by kernel_rfl,?_⟩
   conv =>
    arg 5
    simp [go_sem]
   have HSN:=Box.mk (show Calls Tryz.prog 28 #[.pointer (some ⟨gx,0,none⟩),.int .i64 (X.begun+1)] w9 (RetV (.tuple #[.int .i64 (com.length:Int),.int .i64 0]) w9) from by
    have h1:=snap_any (Own.txs (show Own B w9 (TxsO gx ((X.add (freshT p md X.shown br bw9)).less k ka kc)::_) from O9.out.1)) (n:=X.begun+1) (by have h1:=HJ.out.bg;have h2:=HJ.out.x.begun.1;unfold In64;omega)
    rw [show ((X.add (freshT p md X.shown br bw9)).less k ka kc).find (X.begun+1)=some (freshT p md X.shown br bw9) from find_new fun q hq=>(HJ.out.x.begun.2 q hq).2] at h1
    simp only [errE] at h1
    rw [show (freshT p md X.shown br bw9).snap=(com.length:Int) from HJ.out.d.shown] at h1
    exact h1)
   obtain ⟨L,hL⟩:∃L,com.length=L:=⟨_,rfl⟩
   have HL:=Box.mk hL
   rw [hL] at HSN
   clear hL
   have y0:w9.cell? ⟨gd,0,none⟩=some (.pointer (some ⟨gx,0,none⟩)):=(O9.out.1.blk 1 rfl).1.cellOf (i:=0) rfl
   go_wp2_with fail
   refine HSN.out.mono ?_
   rintro e w4 ⟨rfl,hb4⟩
   have O4:=Box.mk (O9.out.1.below hb4)
   have B4:=Box.mk (O9.out.2.trans (hb4.mono O9.out.1.1))
   clear hb4 O9 y0 HSN
   go_upto_region 15 with fail
   have HF0:=Box.mk (And.intro O4.out.drew B4.out.drew)
   have HS0:Own B w4.drew [BlkP gd 36 (dkC gx gg ⟨a0,(verT (cwOf com) 0).length,c0⟩ ⟨a1,(verT (cwOf com) 1).length,c1⟩ bw bi n tick ⟨ha,hs.length,hc⟩ bs)]∧Below B w w4.drew:=⟨HF0.out.1.only 1 rfl,HF0.out.2⟩
   clear O4 B4
   refine wp_region_held_drew (S:=fun w'=>(Own B w' [BlkP gd 36 (dkC gx gg ⟨a0,(verT (cwOf com) 0).length,c0⟩ ⟨a1,(verT (cwOf com) 1).length,c1⟩ bw bi n tick ⟨ha,hs.length,hc⟩ bs)]∧Below B w w')) (by kernel_rfl) HS0 (fun _=>?_)
   generalize w4.drew=wd4 at *
   refine tw 0 rfl HS0 ?_
   conv=>arg 8;simp [go_sem]
   refine tw 1 rfl HS0 ?_
   conv=>arg 8;simp [go_sem]
   refine tw 2 rfl HS0 ?_
   conv=>arg 8;simp [go_sem]
   refine tv 3 rfl (fun w' hS=>by have e:w'.cell? ⟨gd,9,none⟩=some (.map (some bs)):=(hS.1.blk 0 rfl).1.cellOf (i:=9) rfl;go_simp;all_goals with_reducible rfl) HS0 ?_
   conv=>arg 8;simp [go_sem]
   refine tw 4 rfl HS0 ?_
   conv=>arg 8;simp [go_sem]
   refine tw 5 rfl HS0 ?_
   conv=>arg 8;simp [go_sem]
   refine tw 6 rfl HS0 ?_
   conv=>arg 8;simp [go_sem]
   refine tw 7 rfl HS0 ?_
   conv=>arg 8;simp [go_sem]
   refine tw 8 rfl HS0 ?_
   conv=>arg 8;simp [go_sem]
   refine tv 9 rfl (fun w' hS=>by have e:w'.cell? ⟨gd,2,none⟩=some (.slice a0 (verT (cwOf com) 0).length c0):=(hS.1.blk 0 rfl).1.cellOf (i:=2) rfl;go_simp;all_goals with_reducible rfl) HS0 ?_
   conv=>arg 8;simp [go_sem]
   refine tw 10 rfl HS0 ?_
   conv=>arg 8;simp [go_sem]
   refine tw 12 rfl HS0 ?_
   conv=>arg 8;simp [go_sem]
   refine tw 13 rfl HS0 ?_
   conv=>arg 8;simp [go_sem]
   refine tw 14 rfl HS0 ?_
   conv=>arg 8;simp [go_sem]
   refine tw 15 rfl HS0 ?_
   conv=>arg 8;simp [go_sem]
   refine tv 16 rfl (fun w' hS=>by have e:w'.cell? ⟨gd,3,none⟩=some (.slice a1 (verT (cwOf com) 1).length c1):=(hS.1.blk 0 rfl).1.cellOf (i:=3) rfl;go_simp;all_goals with_reducible rfl) HS0 ?_
   conv=>arg 8;simp [go_sem]
   refine tw 17 rfl HS0 ?_
   conv=>arg 8;simp [go_sem]
   refine ar 11 rfl fun K' hK'=>?_
   refine oper_call (by rfl) 29 [.tmp 105,.tmp 106] #[32,3] rfl (vs:=[.slice a0 (verT (cwOf com) 0).length c0,.int .i64 (L:Int)]) rfl Tryz.func29 nm_rows bd_rows (rowsT_any (t:=0) (com:=cwOf com) (Rd.ofOwn (HF0.out.1.row 2 rfl)) (by have h1:=HJ.out.b1;rw [List.length_map];omega) L) ?_
   rintro e w8 ⟨hb8,r0,q0,rfl,hrow⟩
   have HF4:=Box.mk (And.intro (HF0.out.1.newRow hb8 hrow (Nat.le_refl _)) (HF0.out.2.trans (hb8.mono HF0.out.1.1)))
   clear hrow hb8
   have HT5:=(show Own B _ [BlkP gd 36 (dkC gx gg ⟨a0,(verT (cwOf com) 0).length,c0⟩ ⟨a1,(verT (cwOf com) 1).length,c1⟩ bw bi n tick ⟨ha,hs.length,hc⟩ bs)]∧Below B w _ from And.intro (HF4.out.1.only 1 rfl) HF4.out.2)
   refine ⟨_,rfl,hK'.out _ _ HT5 (fun _=>?_)⟩
   clear hK' K'
   conv=>arg 8;simp [go_sem]
   refine ar 18 rfl fun K' hK'=>?_
   refine oper_call (by rfl) 29 [.tmp 112,.tmp 113] #[32,3] rfl (vs:=[.slice a1 (verT (cwOf com) 1).length c1,.int .i64 (L:Int)]) rfl Tryz.func29 nm_rows bd_rows (rowsT_any (t:=1) (com:=cwOf com) (Rd.ofOwn (HF4.out.1.row 3 rfl)) (by have h1:=HJ.out.b1;rw [List.length_map];omega) L) ?_
   rintro e w8 ⟨hb8,r1,q1,rfl,hrow⟩
   have HF6:=Box.mk (And.intro (HF4.out.1.newRow hb8 hrow (Nat.le_refl _)) (HF4.out.2.trans (hb8.mono HF4.out.1.1)))
   clear hrow hb8
   have HT7:=(show Own B _ [BlkP gd 36 (dkC gx gg ⟨a0,(verT (cwOf com) 0).length,c0⟩ ⟨a1,(verT (cwOf com) 1).length,c1⟩ bw bi n tick ⟨ha,hs.length,hc⟩ bs)]∧Below B w _ from And.intro (HF6.out.1.only 1 rfl) HF6.out.2)
   refine ⟨_,rfl,hK'.out _ _ HT7 (fun _=>?_)⟩
   clear hK' K'
   conv=>arg 8;simp [go_sem]
   refine tw 19 rfl HT7 ?_
   conv=>arg 8;simp [go_sem]
   refine ar 20 rfl fun K' hK'=>?_
   obtain ⟨w7,hrun,hO7,hb7,_⟩:=HF6.out.1.putMap K_int kI_inj und_seen 9 rfl (keyI (x:=X.begun+1) (by have h1:=HJ.out.bg;have h2:=HJ.out.x.begun.1;unfold In64;omega)) (⟨L,r0,(rowsT (cwOf com) 0 L).length,q0,r1,(rowsT (cwOf com) 1 L).length,q1⟩:SnP)
   simp only [kI,SnP.v] at hrun
   refine oper_put (by rfl) _ _ _ _ rfl rfl rfl rfl hrun ?_
   have O7:=Box.mk (And.intro hO7 (HF6.out.2.trans hb7))
   clear hO7 hb7 hrun
   have HT8:=(show Own B _ [BlkP gd 36 (dkC gx gg ⟨a0,(verT (cwOf com) 0).length,c0⟩ ⟨a1,(verT (cwOf com) 1).length,c1⟩ bw bi n tick ⟨ha,hs.length,hc⟩ bs)]∧Below B w _ from And.intro (O7.out.1.only 1 rfl) O7.out.2)
   refine hK'.out _ _ HT8 (fun _=>?_)
   clear hK' K'
   conv=>arg 8;simp [go_sem]
   refine ⟨by kernel_rfl,?_⟩
   conv =>
    arg 5
    simp [go_sem]
   have hO8:=Own.two (O7.out.1.drop 10)
   have O8:=Box.mk hO8
   clear hO8
   go_wp2_with fail
   go_ret
   exact ⟨rfl,O7.out.2,com,wt,((X.add (freshT p md X.shown br bw9)).less k ka kc),S,hs,⟨r0,(rowsT (cwOf com) 0 L).length,q0,4,recC VerP.enc (rowsT (cwOf com) 0 L)⟩::⟨r1,(rowsT (cwOf com) 1 L).length,q1,4,recC VerP.enc (rowsT (cwOf com) 1 L)⟩::G,mw,mi,putA ms (X.begun+1) ⟨L,r0,(rowsT (cwOf com) 0 L).length,q0,r1,(rowsT (cwOf com) 1 L).length,q1⟩,n,tick,gx,gg,bw,bi,bs,a0,c0,a1,c1,ha,hc,O8.out,HJ.out.begin_ (by have:=HMD.out.1;omega) HMD.out.2 HK.out.1 HK.out.2.1 HK.out.2.2 ka kc (fun r hr=>List.mem_cons_of_mem _ (List.mem_cons_of_mem _ hr)) HL.out.symm ⟨by show L≤_;rw [List.length_map,HL.out];exact Nat.le_refl _,⟨List.mem_cons_self ..,rfl⟩,⟨List.mem_cons_of_mem _ (List.mem_cons_self ..),rfl⟩⟩⟩
  ·have HRM:=Box.mk (show 16≤X.act.length∨40≤X.all.length by omega)
   clear hrm
   go_upto_region 12 with fail
   have HF0:=Box.mk (And.intro O3.out.drew B3.out.drew)
   have HS0:Own B wc.drew [BlkP gd 36 (dkC gx gg ⟨a0,(verT (cwOf com) 0).length,c0⟩ ⟨a1,(verT (cwOf com) 1).length,c1⟩ bw bi n tick ⟨ha,hs.length,hc⟩ bs),BlkP gm 38 [.int .i64 0,.int .i64 mn,.int .i64 mt,.int .i64 mr,.int .i64 mv]]∧Below B w wc.drew:=⟨((HF0.out.1.front 10 rfl).front 2 rfl).head2,HF0.out.2⟩
   clear O3 B3 m0
   refine wp_region_held_drew (S:=fun w'=>(Own B w' [BlkP gd 36 (dkC gx gg ⟨a0,(verT (cwOf com) 0).length,c0⟩ ⟨a1,(verT (cwOf com) 1).length,c1⟩ bw bi n tick ⟨ha,hs.length,hc⟩ bs),BlkP gm 38 [.int .i64 0,.int .i64 mn,.int .i64 mt,.int .i64 mr,.int .i64 mv]]∧Below B w w')) (by kernel_rfl) HS0 (fun _=>?_)
   generalize wc.drew=wd at *
   refine tw 0 rfl HS0 ?_
   conv=>arg 8;simp [go_sem]
   refine tw 1 rfl HS0 ?_
   conv=>arg 8;simp [go_sem]
   refine tw 2 rfl HS0 ?_
   conv=>arg 8;simp [go_sem]
   refine tv 3 rfl (fun w' hS=>by have e:w'.cell? ⟨gd,0,none⟩=some (.pointer (some ⟨gx,0,none⟩)):=(hS.1.blk 0 rfl).1.cellOf (i:=0) rfl;go_simp;all_goals with_reducible rfl) HS0 ?_
   conv=>arg 8;simp [go_sem]
   refine tw 4 rfl HS0 ?_
   conv=>arg 8;simp [go_sem]
   refine tv 5 rfl (fun w' hS=>by have e:w'.cell? ⟨gm,1,none⟩=some (.int .i64 mn):=(hS.1.blk 1 rfl).1.cellOf (i:=1) rfl;go_simp;all_goals with_reducible rfl) HS0 ?_
   conv=>arg 8;simp [go_sem]
   refine ar 6 rfl fun K' hK'=>?_
   refine oper_call (by rfl) 26 [.tmp 80,.const (.int .i64 2)] #[3,3] rfl (vs:=[.int .i64 mn,.int .i64 2]) rfl Tryz.func26 nm_least bd_least (HLE.out _) ?_
   rintro e w8 ⟨rfl,hb8⟩
   have HF9:=Box.mk (And.intro (HF0.out.1.below hb8) (HF0.out.2.trans (hb8.mono HF0.out.1.1)))
   clear hb8
   have HT10:=(show Own B _ [BlkP gd 36 (dkC gx gg ⟨a0,(verT (cwOf com) 0).length,c0⟩ ⟨a1,(verT (cwOf com) 1).length,c1⟩ bw bi n tick ⟨ha,hs.length,hc⟩ bs),BlkP gm 38 [.int .i64 0,.int .i64 mn,.int .i64 mt,.int .i64 mr,.int .i64 mv]]∧Below B w _ from And.intro (((HF9.out.1.front 10 rfl).front 2 rfl).head2) HF9.out.2)
   refine ⟨_,rfl,hK'.out _ _ HT10 (fun _=>?_)⟩
   clear hK' K'
   conv=>arg 8;simp [go_sem]
   refine ar 7 rfl fun K' hK'=>?_
   refine oper_call (by rfl) 27 [.tmp 78,.tmp 81] #[25,3] rfl (vs:=[.pointer (some ⟨gx,0,none⟩),.int .i64 md]) rfl Tryz.func27 nm_begin bd_begin (begin_no (show Own B _ (TxsO gx X::_) from HF9.out.1) HJ.out.x.ok HMD.out.1 HRM.out) ?_
   rintro e w9 ⟨rfl,hO9,hb9⟩
   have O9:=Box.mk (And.intro hO9 (HF9.out.2.trans hb9))
   clear hO9 hb9
   have HT11:=(show Own B _ [BlkP gd 36 (dkC gx gg ⟨a0,(verT (cwOf com) 0).length,c0⟩ ⟨a1,(verT (cwOf com) 1).length,c1⟩ bw bi n tick ⟨ha,hs.length,hc⟩ bs),BlkP gm 38 [.int .i64 0,.int .i64 mn,.int .i64 mt,.int .i64 mr,.int .i64 mv]]∧Below B w _ from And.intro (((O9.out.1.front 10 rfl).front 2 rfl).head2) O9.out.2)
   refine ⟨_,rfl,hK'.out _ _ HT11 (fun _=>?_)⟩
   clear hK' K'
   conv=>arg 8;simp [go_sem]
   refine tw 8 rfl HT11 ?_
   conv=>arg 8;simp [go_sem]
   refine tw 9 rfl HT11 ?_
   conv=>arg 8;simp [go_sem]
   refine tw 10 rfl HT11 ?_
   conv=>arg 8;simp [go_sem]
   refine tw 11 rfl HT11 ?_
   conv=>arg 8;simp [go_sem]
   refine tw 12 rfl HT11 ?_
   conv=>arg 8;simp [go_sem]
   refine ⟨by kernel_rfl,?_⟩
   conv =>
    arg 5
    simp [go_sem]
   go_wp2_with fail
   go_ret
   exact ⟨rfl,O9.out.2,com,wt,X,S,hs,G,mw,mi,ms,n,tick,gx,gg,bw,bi,bs,a0,c0,a1,c1,ha,hc,O9.out.1.drop 10,HJ.out.step1⟩
end
section
open Go.RowKit Go.Maps
attribute [local go_sem] Oper.semAt_some
theorem Own.fail1 {B:Nat} {w:World} {t' t d r0 r1 h g m1 m2 i s mv g':HP} (O:Own B w (t'::([t,d,r0,r1,h,g,m1,m2,i,s]++[mv])++[g'])):Own B w [t',d,r0,r1,h,g',i]:=by
 have h1:Own B w [t',d,r0,r1,h,i,g']:=(((((O.drop 11).drop 10).drop 8).drop 7).drop 6).drop 1
 exact h1.perm (List.Perm.append_left [t',d,r0,r1,h] (List.Perm.swap _ _ _))
theorem Own.failEnd {B:Nat} {w:World} {t d r0 r1 h g s i m:HP} {G:List RdD} {e:TypeId} {size:Nat} {a:Option Addr} {n cap:Nat} {xs:List Value} (O:Own B w (t::d::r0::r1::h::([g,ImmO G,s,i,m]++[RowP e size a n cap xs]))) :
  Own B w [t,d,r0,r1,h,g,m,i,ImmO (⟨a,n,cap,size,xs⟩::G),s]:=by
 have h1:Own B w [t,d,r0,r1,h,g,ImmO (⟨a,n,cap,size,xs⟩::G),s,i,m]:=Own.immLast (l:=[t,d,r0,r1,h,g,ImmO G,s,i,m]) O 6 rfl
 refine h1.perm (List.Perm.append_left [t,d,r0,r1,h,g] ?_)
 exact (List.perm_append_comm (l₁:=[ImmO (⟨a,n,cap,size,xs⟩::G),s]) (l₂:=[i,m])).trans (List.Perm.swap _ _ _)
set_option maxRecDepth 20000 in
set_option maxHeartbeats 16000000 in
theorem do_fail {ser:Bool} {m gd B:Nat} {w:World} {com:List (Int×List WrP)} {wt:List Wtx} {X:TxP} {S:Gr.GS} {hs:List HpP} {G:List RdD} {mw:List (Int×WsS)} {mi:List (Int×Int)} {ms:List (Int×SnP)} {n tick:Int} {gx gg bw bi bs:Nat} {a0 a1 ha:Option Addr} {c0 c1 hc:Nat}
  (O:Own B w (DkL gd gx gg bw bi bs n tick com X S hs G mw mi (SeenO bs ms) a0 c0 a1 c1 ha hc)) (j:DkJ ser m com wt X S hs G mw mi ms n tick) (hm:m<60) {mn mt mr mv:Int} (hmn:In64 mn) (hmt:In64 mt) (hmr:In64 mr) (hmv:In64 mv) :
  Calls Tryz.prog 7 #[.pointer (some ⟨gd,0,none⟩),.agg #[.int .i64 4,.int .i64 mn,.int .i64 mt,.int .i64 mr,.int .i64 mv]] w (RetDk ser (m+1) gd B w):=by
 have HJ:=Box.mk j
 have O1:=Box.mk (O.new [.int .i64 4,.int .i64 mn,.int .i64 mt,.int .i64 mr,.int .i64 mv] 38)
 have B1:=Box.mk ((Below.refl B w).alloc O.1 (.cells #[.int .i64 4,.int .i64 mn,.int .i64 mt,.int .i64 mr,.int .i64 mv] 38))
 have HMN:=Box.mk hmn
 have HMM:=Box.mk (And.intro hmt (And.intro hmr hmv))
 have hm100:X.all.length≤100:=j.x.ok.len
 have hna2:X.act.length≤X.all.length:=by unfold TxP.all;rw [List.length_append,List.length_map];omega
 clear O j hmn hmt hmr hmv
 go_enter Tryz.func7,Tryz.ntmps7
 go_upto_region 1 with fail
 generalize w.heap.size=gm at *
 generalize (w.alloc (.cells #[.int .i64 4,.int .i64 mn,.int .i64 mt,.int .i64 mr,.int .i64 mv] 38))=w1 at *
 have y0:w1.cell? ⟨gd,0,none⟩=some (.pointer (some ⟨gx,0,none⟩)):=(O1.out.blk 1 rfl).1.cellOf (i:=0) rfl
 go_wp2_with fail
 refine (active_any (Own.txs O1.out) HJ.out.x.ok).mono ?_
 rintro e w2 ⟨hb,aa,ac,rfl,hrow⟩
 obtain ⟨na,hna⟩:∃na,(X.act.map (·.1)).length=na:=⟨_,rfl⟩
 rw [hna] at hrow ⊢
 have O2:=Box.mk (O1.out.newRow hb hrow (Nat.le_refl _))
 have B2:=Box.mk (B1.out.trans (hb.mono O1.out.1))
 have HNA:=Box.mk hna
 have hnl:na≤100:=by rw [← hna,List.length_map];omega
 clear hrow hb y0 O1 B1 hna hna2 hm100
 have y1:w2.cell? ⟨gm,1,none⟩=some (.int .i64 mn):=(O2.out.blk 10 rfl).1.cellOf (i:=1) rfl
 go_upto_if 23 with fail
 go_cut [6] from 23 (fun s6 wx=>∃tx:Int,s6=.int .i64 tx∧Box (In64 tx∧Own B wx (DkL gd gx gg bw bi bs n tick com X S hs G mw mi (SeenO bs ms) a0 c0 a1 c1 ha hc++[BlkP gm 38 [.int .i64 4,.int .i64 mn,.int .i64 mt,.int .i64 mr,.int .i64 mv]])∧Below B w wx))
 case first =>
  by_cases h0:0<na
  ·obtain ⟨ix,hix⟩:∃ix:Nat,mn % (na:Int)=(ix:Int):=⟨(mn % (na:Int)).toNat,(Int.toNat_of_nonneg (Int.emod_nonneg _ (by omega))).symm⟩
   have hixl:ix<na:=by have:=Int.emod_lt_of_pos mn (show (0:Int)<na by omega);omega
   have HL:=Box.mk (show Calls Tryz.prog 26 #[.int .i64 mn,.int .i64 (na:Int)] w2 (RetV (.int .i64 (ix:Int)) w2) from by have h1:=least_any HMN.out (show (0:Int)<na by omega) (by omega) w2;rw [hix] at h1;exact h1)
   clear hix
   go_wp2_with fail
   refine HL.out.mono ?_
   rintro e w3 ⟨rfl,hb3⟩
   have O3:=Box.mk (O2.out.below hb3)
   have B3:=Box.mk (B2.out.trans (hb3.mono O2.out.1))
   clear hb3 O2 B2 y1 HL
   obtain ⟨ob,ooff,haa,hco⟩:=(Rd.ofOwn (O3.out.row 11 rfl)).intAtD ix hixl
   obtain ⟨tx,htx⟩:∃tx,(X.act.map (·.1)).getD ix 0=tx:=⟨_,rfl⟩
   rw [htx] at hco
   have HT:=Box.mk (show In64 tx from by
    have h1:tx∈X.act.map (·.1):=by rw [← htx,List.getD_eq_getElem?_getD,List.getElem?_eq_getElem (by rw [HNA.out];exact hixl)];exact List.getElem_mem _
    obtain ⟨q,hq,rfl⟩:=List.mem_map.1 h1
    exact HJ.out.x.ok.i64 q hq)
   clear htx
   subst haa
   go_wp2_with fail
   go_meet
   case rel=>exact ⟨tx,rfl,⟨HT.out,O3.out.drop 11,B3.out⟩⟩
  ·obtain rfl:na=0:=by omega
   go_wp2_with fail
   go_meet
   case rel=>exact ⟨0,rfl,⟨by unfold In64;omega,O2.out.drop 11,B2.out⟩⟩
 case rest =>
  obtain ⟨tx,rfl,HC⟩:=hcut
  clear O2 B2 y1 HNA hnl
  have O3:=Box.mk HC.out.2.1
  have B3:=Box.mk HC.out.2.2
  have HTX:=Box.mk HC.out.1
  clear HC
  have m0:wc.cell? ⟨gm,0,none⟩=some (.int .i64 4):=(O3.out.blk 10 rfl).1.cellOf (i:=0) rfl
  obtain ⟨L,hL⟩:∃L,com.length=L:=⟨_,rfl⟩
  have HL:=Box.mk hL
  have HSH:=Box.mk (show Calls Tryz.prog 20 #[.pointer (some ⟨gx,0,none⟩)] wc (RetV (.int .i64 (L:Int)) wc) from by
   have h1:=shown_any (Own.txs (show Own B wc (TxsO gx X::_) from O3.out))
   rw [HJ.out.d.shown,hL] at h1
   exact h1)
  have hLb:L≤60:=by have:=HJ.out.b1;omega
  have hw1:IntKind.i64.wrap ((L:Int)+1)=(L:Int)+1:=IntWalk.i64_in _ (by omega)
  have hhl:hs.length≤200:=by have:=HJ.out.b2;omega
  have y0:wc.cell? ⟨gd,0,none⟩=some (.pointer (some ⟨gx,0,none⟩)):=(O3.out.blk 1 rfl).1.cellOf (i:=0) rfl
  clear hL
  go_wp2_with fail
  refine HSH.out.mono ?_
  rintro e w4 ⟨rfl,hb4⟩
  have O4:=Box.mk (O3.out.below hb4)
  have B4:=Box.mk (B3.out.trans (hb4.mono O3.out.1))
  clear hb4 O3 B3 y0 HSH m0
  go_wp2_with fail
  refine (newtx_any (s:=(L:Int)) (by omega) (by omega) O4.out).mono ?_
  rintro e w5 ⟨gx',bx,rfl,hO5,hb5⟩
  have O5:=Box.mk hO5
  have B5:=Box.mk (B4.out.trans hb5)
  clear hO5 hb5 O4 B4
  go_wp2_with fail
  refine (Gr.new_own O5.out 3 200 1 ((L:Int)+1) (by unfold Gr.right;rw [decide_eq_true_eq];omega)).mono ?_
  rintro e w6 ⟨gg',rfl,hO6,hb6⟩
  have hO6:=Own.fail1 hO6
  have O6:=Box.mk hO6
  have B6:=Box.mk (B5.out.trans hb6)
  clear hO6 hb6 O5 B5
  have HS1:=Box.mk (O6.out.setRow 1 rfl (splice (dkC gx gg ⟨a0,(verT (cwOf com) 0).length,c0⟩ ⟨a1,(verT (cwOf com) 1).length,c1⟩ bw bi n tick ⟨ha,hs.length,hc⟩ bs) 0 [.pointer (some ⟨gx',0,none⟩)]))
  have HS2:=Box.mk (HS1.out.1.setRow 1 rfl (splice (dkC gx' gg ⟨a0,(verT (cwOf com) 0).length,c0⟩ ⟨a1,(verT (cwOf com) 1).length,c1⟩ bw bi n tick ⟨ha,hs.length,hc⟩ bs) 1 [.pointer (some ⟨gg',0,none⟩)]))
  go_upto_region 34 with (first | ((with_reducible show wpList _ _ _ _ _ _);refine wpList_store_part rfl 25 (.tmp 250) (.tmp 245) rfl rfl (size:=1) (off:=0) (by kernel_rfl) (O6.out.blk 1 rfl).1 (Nat.le_of_ble_eq_true rfl) rfl (cs:=[.pointer (some ⟨gx',0,none⟩)]) rfl rfl (by simp [Value.oneCell']) ?_) | ((with_reducible show wpList _ _ _ _ _ _);refine wpList_store_part rfl 27 (.tmp 252) (.tmp 248) rfl rfl (size:=1) (off:=1) (by kernel_rfl) (HS1.out.1.blk 1 rfl).1 (Nat.le_of_ble_eq_true rfl) rfl (cs:=[.pointer (some ⟨gg',0,none⟩)]) rfl rfl (by simp [Value.oneCell']) ?_))
  refine wp_own (show Own B _ [TxsO gx' (newX (L:Int) bx),BlkP gd 36 (dkC gx' gg' ⟨a0,(verT (cwOf com) 0).length,c0⟩ ⟨a1,(verT (cwOf com) 1).length,c1⟩ bw bi n tick ⟨ha,hs.length,hc⟩ bs),RowP 93 4 a0 (verT (cwOf com) 0).length c0 (recC VerP.enc (verT (cwOf com) 0)),RowP 93 4 a1 (verT (cwOf com) 1).length c1 (recC VerP.enc (verT (cwOf com) 1)),RowP 84 5 ha hs.length hc (recC HpP.enc hs),Gr.GrpP gg' (Gr.GS.new 3 200 1 ((L:Int)+1)),ImmO G] from HS2.out.1) (B6.out.trans (HS1.out.2.trans HS2.out.2)) (fun w7 hO7 hb7=>?_)
  have O7:=Box.mk hO7
  have B7:=Box.mk hb7
  clear HS1 HS2 O6 B6 hO7 hb7
  go_upto_region 35 with (first | (rw [run_makeMap 31 w7];have OA:=(O7.out.newMap (α:=Int) (β:=SnP) (P:=Tryz.prog) (k:=3) (ek:=kI) (ev:=SnP.v));have hbA:=(Below.refl B w7).alloc O7.out.1 (.map #[] 0);generalize w7.alloc (.map #[] 0)=wA at *;generalize w7.heap.size=bs' at *) | (rw [run_makeMap 30 wA];have OB:=(OA.newMap (α:=Int) (β:=Int) (P:=Tryz.prog) (k:=3) (ek:=kI) (ev:=kI));have hbB:=(Below.refl B wA).alloc OA.1 (.map #[] 0);generalize wA.alloc (.map #[] 0)=wB at *;generalize wA.heap.size=bi' at *) | (rw [run_makeMap 29 wB];have OC:=(OB.newMap (α:=Int) (β:=WsS) (P:=Tryz.prog) (k:=3) (ek:=kI) (ev:=WsS.v));have hbC:=(Below.refl B wB).alloc OB.1 (.map #[] 0);generalize wB.alloc (.map #[] 0)=wC at *;generalize wB.heap.size=bw' at *) | ((with_reducible show wpList _ _ _ _ _ _);refine wpList_store_part rfl 31 (.tmp 260) (.tmp 256) rfl rfl (size:=1) (off:=9) (by kernel_rfl) (OC.blk 1 rfl).1 (Nat.le_of_ble_eq_true rfl) rfl (cs:=[.map (some bs')]) rfl rfl (by simp [Value.oneCell']) ?_) | ((with_reducible show wpList _ _ _ _ _ _);refine wpList_store_part rfl 30 (.tmp 262) (.tmp 257) rfl rfl (size:=1) (off:=5) (by kernel_rfl) ((OC.setRow 1 rfl (splice (dkC gx' gg' ⟨a0,(verT (cwOf com) 0).length,c0⟩ ⟨a1,(verT (cwOf com) 1).length,c1⟩ bw bi n tick ⟨ha,hs.length,hc⟩ bs) 9 [.map (some bs')])).1.blk 1 rfl).1 (Nat.le_of_ble_eq_true rfl) rfl (cs:=[.map (some bi')]) rfl rfl (by simp [Value.oneCell']) ?_) | ((with_reducible show wpList _ _ _ _ _ _);refine wpList_store_part rfl 29 (.tmp 264) (.tmp 258) rfl rfl (size:=1) (off:=4) (by kernel_rfl) (((OC.setRow 1 rfl (splice (dkC gx' gg' ⟨a0,(verT (cwOf com) 0).length,c0⟩ ⟨a1,(verT (cwOf com) 1).length,c1⟩ bw bi n tick ⟨ha,hs.length,hc⟩ bs) 9 [.map (some bs')])).1.setRow 1 rfl (splice (dkC gx' gg' ⟨a0,(verT (cwOf com) 0).length,c0⟩ ⟨a1,(verT (cwOf com) 1).length,c1⟩ bw bi n tick ⟨ha,hs.length,hc⟩ bs') 5 [.map (some bi')])).1.blk 1 rfl).1 (Nat.le_of_ble_eq_true rfl) rfl (cs:=[.map (some bw')]) rfl rfl (by simp [Value.oneCell']) ?_))
  have HS3:=OC.setRow 1 rfl (splice (dkC gx' gg' ⟨a0,(verT (cwOf com) 0).length,c0⟩ ⟨a1,(verT (cwOf com) 1).length,c1⟩ bw bi n tick ⟨ha,hs.length,hc⟩ bs) 9 [.map (some bs')])
  have HS4:=HS3.1.setRow 1 rfl (splice (dkC gx' gg' ⟨a0,(verT (cwOf com) 0).length,c0⟩ ⟨a1,(verT (cwOf com) 1).length,c1⟩ bw bi n tick ⟨ha,hs.length,hc⟩ bs') 5 [.map (some bi')])
  have HS5:=HS4.1.setRow 1 rfl (splice (dkC gx' gg' ⟨a0,(verT (cwOf com) 0).length,c0⟩ ⟨a1,(verT (cwOf com) 1).length,c1⟩ bw bi' n tick ⟨ha,hs.length,hc⟩ bs') 4 [.map (some bw')])
  refine wp_own (show Own B _ [TxsO gx' (newX (L:Int) bx),BlkP gd 36 (dkC gx' gg' ⟨a0,(verT (cwOf com) 0).length,c0⟩ ⟨a1,(verT (cwOf com) 1).length,c1⟩ bw' bi' n tick ⟨ha,hs.length,hc⟩ bs'),RowP 93 4 a0 (verT (cwOf com) 0).length c0 (recC VerP.enc (verT (cwOf com) 0)),RowP 93 4 a1 (verT (cwOf com) 1).length c1 (recC VerP.enc (verT (cwOf com) 1)),RowP 84 5 ha hs.length hc (recC HpP.enc hs),Gr.GrpP gg' (Gr.GS.new 3 200 1 ((L:Int)+1)),ImmO G,SeenO bs' [],IntO bi' [],WrsO bw' []] from HS5.1) (((((B7.out.trans hbA).trans hbB).trans hbC).trans HS3.2).trans (HS4.2.trans HS5.2)) (fun w9 hO9 hb9=>?_)
  have O9:=Box.mk hO9
  have B9:=Box.mk hb9
  clear HS3 HS4 HS5 OA OB OC O7 B7 hbA hbB hbC hO9 hb9
  have y8:w9.cell? ⟨gd,8,none⟩=some (.slice ha hs.length hc):=(O9.out.blk 1 rfl).1.cellOf (i:=8) rfl
  go_wp2_with (first | (at_builtin;refine wpList_append_O rfl _ _ 34 34 rfl sl_hp (.inl sl_hp.ht) (O9.out.alloc _) 4 rfl rfl rfl (Src.lone w9 [.int .i64 4,.int .i64 0,.int .i64 0,.slice none 0 0,.slice none 0 0] _ rfl (by simp [Value.oneCell'])) (by omega) (by unfold maxLen;omega) ?_;intro a9 c9 w10 O10 hb10) | ((with_reducible show wpList _ _ _ _ _ _);refine wpList_lit_one (o:=⟨some 271,_,_,_,_,_⟩) rfl 34 (.tmp 270) rfl sl_hp (cs:=[.int .i64 4,.int .i64 0,.int .i64 0,.slice none 0 0,.slice none 0 0]) rfl rfl (by omega) (by omega) ?_) | ((with_reducible show wpList _ _ _ _ _ _);refine wpList_store_part rfl 34 (.tmp 274) (.tmp 272) rfl rfl (size:=1) (off:=8) (by kernel_rfl) (O10.blk 1 rfl).1 (Nat.le_of_ble_eq_true rfl) rfl (cs:=[.slice a9 (hs.length+1) c9]) rfl rfl (by simp [Value.oneCell']) ?_))
  have HS6:=O10.setRow 1 rfl (splice (dkC gx' gg' ⟨a0,(verT (cwOf com) 0).length,c0⟩ ⟨a1,(verT (cwOf com) 1).length,c1⟩ bw' bi' n tick ⟨ha,hs.length,hc⟩ bs') 8 [.slice a9 (hs.length+1) c9])
  have B10:=Box.mk (((B9.out.alloc O9.out.1 _).trans hb10).trans HS6.2)
  have hhx:(hs++[(⟨4,0,0,none,0,[],none,0,[]⟩:HpP)]).length=hs.length+1:=by rw [List.length_append];rfl
  have hrx:recC HpP.enc (hs++[(⟨4,0,0,none,0,[],none,0,[]⟩:HpP)])=recC HpP.enc hs++[.int .i64 4,.int .i64 0,.int .i64 0,.slice none 0 0,.slice none 0 0]:=by rw [recC_append];simp [recC,HpP.enc]
  obtain ⟨hx,hhx2⟩:∃hx,hs++[(⟨4,0,0,none,0,[],none,0,[]⟩:HpP)]=hx:=⟨_,rfl⟩
  rw [hhx2] at hhx hrx
  have hOx:Own B _ (TxsO gx' (newX (L:Int) bx)::BlkP gd 36 (dkC gx' gg' ⟨a0,(verT (cwOf com) 0).length,c0⟩ ⟨a1,(verT (cwOf com) 1).length,c1⟩ bw' bi' n tick ⟨a9,hs.length+1,c9⟩ bs')::RowP 93 4 a0 (verT (cwOf com) 0).length c0 (recC VerP.enc (verT (cwOf com) 0))::RowP 93 4 a1 (verT (cwOf com) 1).length c1 (recC VerP.enc (verT (cwOf com) 1))::RowP 84 5 a9 (hs.length+1) c9 (recC HpP.enc hs++[.int .i64 4,.int .i64 0,.int .i64 0,.slice none 0 0,.slice none 0 0])::[Gr.GrpP gg' (Gr.GS.new 3 200 1 ((L:Int)+1)),ImmO G,SeenO bs' [],IntO bi' [],WrsO bw' []]):=HS6.1
  refine calls_own hOx B10.out (fun w11 hO11 hb11=>?_)
  rw [← hrx,← hhx] at hO11
  have O11:=Box.mk hO11
  have HHX:=Box.mk (And.intro hhx hhx2)
  clear HS6 O10 hb10 O9 B9 hOx hO11 B10 hhx hrx hhx2 y8
  refine (see_dk (com:=cwOf com) (X:=newX (L:Int) bx) (t0:=⟨a0,(verT (cwOf com) 0).length,c0⟩) (t1:=⟨a1,(verT (cwOf com) 1).length,c1⟩) (sh:=⟨a9,hx.length,c9⟩) (hs:=hx) O11.out (by rw [List.length_map,HL.out];rfl) (by rw [List.length_map,HL.out];omega) (by have:=HHX.out.1;show hx.length≤1000;omega)).mono ?_
  rintro e w12 ⟨rfl,hb12,q9,d9,ra,rc,hO12⟩
  rw [show (cwOf com).length=com.length from List.length_map _] at hO12
  have hO13:=Own.failEnd hO12
  have O13:=Box.mk hO13
  have B13:=Box.mk (hb11.trans hb12)
  clear hO12 hO13 hb12 O11 hb11
  have y0:w12.cell? ⟨gd,0,none⟩=some (.pointer (some ⟨gx',0,none⟩)):=(O13.out.blk 1 rfl).1.cellOf (i:=0) rfl
  have y1:w12.cell? ⟨gd,1,none⟩=some (.pointer (some ⟨gg',0,none⟩)):=(O13.out.blk 1 rfl).1.cellOf (i:=1) rfl
  have hj:=HJ.out.fail (by omega) bx ra rc
  rw [HHX.out.2] at hj
  have HJ2:=Box.mk hj
  clear hj
  go_wp2_with fail
  go_ret
  exact ⟨rfl,B13.out,com,[],newX com.length bx,Gr.GS.new 3 200 1 ((com.length:Int)+1),_,_,[],[],[],n,tick,gx',gg',bw',bi',bs',a0,c0,a1,c1,q9,d9,by simp only [DkL,DkL2,List.length_append,List.length_singleton];rw [HL.out];rw [HL.out] at O13;exact O13.out,HJ2.out⟩
end
section
open Go.RowKit Go.Maps
theorem Own.immSecond {B:Nat} {w:World} {t:HP} {l:List HP} {e:TypeId} {size:Nat} {a:Option Addr} {n cap:Nat} {xs:List Value} {G:List RdD} (O:Own B w (t::RowP e size a n cap xs::l)) (i:Nat) (hi:(t::l)[i]?=some (ImmO G)):Own B w ((t::l).set i (ImmO (⟨a,n,cap,size,xs⟩::G))):=by
 have h1:(t::RowP e size a n cap xs::l).Perm ((t::l)++[RowP e size a n cap xs]):=(List.Perm.swap _ _ _).trans (List.perm_append_comm (l₁:=[RowP e size a n cap xs]) (l₂:=t::l))
 exact Own.immLast (O.perm h1) i hi
theorem DkJ.moreG {ser:Bool} {m:Nat} {com:List (Int×List WrP)} {wt:List Wtx} {X:TxP} {S:Gr.GS} {hs:List HpP} {G:List RdD} {mw:List (Int×WsS)} {mi:List (Int×Int)} {ms:List (Int×SnP)} {n tick:Int} (j:DkJ ser m com wt X S hs G mw mi ms n tick) {G':List RdD} (hG:∀r∈G,r∈G'):DkJ ser m com wt X S hs G' mw mi ms n tick :=
 j.setX (Nat.le_refl _) j.x rfl rfl rfl (fun q hq=>⟨q,hq,rfl⟩) (fun p hp=>⟨hp,fun t ht=>⟨t,ht,rfl⟩⟩) (fun t ht=>(j.lg t ht).more (Nat.le_refl _) hG) hG
theorem Own.keep10 {B:Nat} {w:World} {p0 p1 p2 p3 p4 p5 p6 p7 p8 p9:HP} {l:List HP} (O:Own B w (p0::p1::p2::p3::p4::p5::p6::p7::p8::p9::l)):Own B w [p0,p1,p2,p3,p4,p5,p6,p7,p8,p9] :=
 Own.dropL (m:=l) (O.perm (List.perm_append_comm (l₁:=[p0,p1,p2,p3,p4,p5,p6,p7,p8,p9]) (l₂:=l)))
end
end Go.Proofs.YtlfghapllmaigaaGreatDoor
