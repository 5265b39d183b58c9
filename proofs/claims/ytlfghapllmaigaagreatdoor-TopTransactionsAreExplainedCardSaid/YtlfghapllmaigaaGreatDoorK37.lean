/-
  The walk of the desk's run. Conditions: each theorem's own hypotheses.
-/
import Derived.Test.YtlfghapllmaigaaGreatDoorK36
import Derived.Deep.CutRange
set_option linter.unusedVariables false
set_option linter.unusedSimpArgs false
namespace Go.Proofs.YtlfghapllmaigaaGreatDoor
section
open Go.RowKit Go.Maps
attribute [local go_sem] Oper.semAt_some
set_option maxRecDepth 20000 in
set_option maxHeartbeats 16000000 in
theorem run_dk {Q:TxP→Prop} (hQ:∀X s k a c,Q X→X.shown≤s→s≤X.last→k≤s→(∀q∈X.act,k≤q.2.snap)→Q ((X.show_ s).less k a c)) {B:Nat} {w:World} {gd gx gg bw bi bs:Nat} {all tick:Int} {com:List (Int×List WrP)} {wt:List Wtx} {X:TxP} {S:Gr.GS} {hs:List HpP} {G:List RdD} {mw:List (Int×WsS)} {mi:List (Int×Int)} {Z:HP} {a0 a1 ha:Option Addr} {c0 c1 hc:Nat} {n:Int}
  (O:Own B w (DkL gd gx gg bw bi bs all tick com X S hs G mw mi Z a0 c0 a1 c1 ha hc)) (d:DkI com wt X S hs G mw mi n) (hq:Q X) (ht:0≤tick∧tick≤1000) :
  Calls Tryz.prog 12 #[.pointer (some ⟨gd,0,none⟩)] w fun e w'=>e=.returned (.bool true)∧Below B w w'∧∃ (m:List (Int×List WrP)) (k:Nat) (X':TxP) (S':Gr.GS) (hs':List HpP) (G':List RdD) (a0:Option Addr) (c0:Nat) (a1:Option Addr) (c1:Nat) (ha:Option Addr) (hc:Nat),
   Own B w' (DkL gd gx gg bw bi bs all tick (com++m) X' S' hs' G' mw mi Z a0 c0 a1 c1 ha hc)∧DkI (com++m) (wt.drop k) X' S' hs' G' mw mi n∧Q X'∧X'.act=X.act∧X'.begun=X.begun∧hs'.length+2 * (wt.drop k).length≤hs.length+2 * wt.length∧∀r∈G,r∈G':=by
 have HO:=Box.mk (And.intro O (And.intro d hq))
 have HQ:=Box.mk hQ
 clear O d hq hQ
 go_enter Tryz.func12,Tryz.ntmps12
 go_wp2_with fail
 go_loopg [15] wt.length (fun gz _ wr=>Box (∃ (m:List (Int×List WrP)) (k:Nat) (X':TxP) (S':Gr.GS) (hs':List HpP) (G':List RdD) (a0:Option Addr) (c0:Nat) (a1:Option Addr) (c1:Nat) (ha:Option Addr) (hc:Nat),(wt.drop k).length≤gz∧Below B w wr ∧
   Own B wr (DkL gd gx gg bw bi bs all tick (com++m) X' S' hs' G' mw mi Z a0 c0 a1 c1 ha hc)∧DkI (com++m) (wt.drop k) X' S' hs' G' mw mi n∧Q X'∧X'.act=X.act∧X'.begun=X.begun∧hs'.length+2 * (wt.drop k).length≤hs.length+2 * wt.length∧∀r∈G,r∈G'))
 case atStart=>exact ⟨[],0,X,S,hs,G,a0,c0,a1,c1,ha,hc,by simp,Below.refl _ _,by simpa using HO.out.1,by simpa using HO.out.2.1,HO.out.2.2,rfl,rfl,by simp,fun r hr=>hr⟩
 clear HO a0 a1 ha c0 c1 hc
 case round =>
  obtain ⟨m,k,X',S',hs',G',a0,c0,a1,c1,ha,hc,hkg,hB,hO,hd,hqx,hact,hbeg,hbnd,hsub⟩:=hrel.out
  have HI:=Box.mk (And.intro hd (And.intro hqx (And.intro hact (And.intro hbeg (And.intro hbnd hsub)))))
  obtain ⟨cm,hcm⟩:∃cm,com++m=cm:=⟨_,rfl⟩
  have HCM:=Box.mk hcm
  rw [hcm] at hO
  have O1:=Box.mk hO
  have B1:=Box.mk hB
  have HKG:=Box.mk hkg
  clear hrel hkg hB hO hd hqx hact hbeg hbnd hsub hcm
  obtain ⟨wt2,hwt2⟩:∃wt2,wt.drop k=wt2:=⟨_,rfl⟩
  have HWT:=Box.mk hwt2
  obtain ⟨f,hf⟩:∃f,S'.front=f:=⟨_,rfl⟩
  obtain ⟨L,hL⟩:∃L,cm.length=L:=⟨_,rfl⟩
  have HFR:=Box.mk (And.intro hf hL)
  have HD:=Box.mk (show DkI cm wt2 X' S' hs' G' mw mi n from by rw [← HCM.out,← HWT.out];exact HI.out.1)
  clear hwt2 hf hL
  obtain ⟨due,hdue⟩:∃due,S'.due tick=due:=⟨_,rfl⟩
  have HDUE:=Box.mk hdue
  have HS0:Own B wr.drew (DkL gd gx gg bw bi bs all tick cm X' S' hs' G' mw mi Z a0 c0 a1 c1 ha hc)∧Below B w wr.drew:=⟨O1.out.drew,B1.out.drew⟩
  have HDU:=Box.mk (fun (w':World) (hO:Own B w' (DkL gd gx gg bw bi bs all tick cm X' S' hs' G' mw mi Z a0 c0 a1 c1 ha hc))=>show Calls Tryz.prog 52 #[.pointer (some ⟨gg,0,none⟩),.int .i64 tick] w' (Gr.RetQ (.bool due) w') from by
   have h1:=Gr.due_own hO 5 rfl tick
   rw [hdue] at h1
   exact h1)
  have HOK:=Box.mk (Gr.own_ok O1.out 5 rfl)
  clear O1 B1 hdue
  go_wp2_with fail
  refine wp_region_held_drew (S:=fun w'=>(Own B w' (DkL gd gx gg bw bi bs all tick cm X' S' hs' G' mw mi Z a0 c0 a1 c1 ha hc)∧Below B w w')) (by kernel_rfl) HS0 (fun _=>?_)
  generalize wr.drew=wd at *
  refine tw 0 rfl HS0 ?_
  conv=>arg 8;simp [go_sem]
  refine tw 1 rfl HS0 ?_
  conv=>arg 8;simp [go_sem]
  refine tw 2 rfl HS0 ?_
  conv=>arg 8;simp [go_sem]
  refine tv 3 rfl (fun w' hS=>by have e:w'.cell? ⟨gd,1,none⟩=some (.pointer (some ⟨gg,0,none⟩)):=(hS.1.blk 1 rfl).1.cellOf (i:=1) rfl;go_simp;all_goals with_reducible rfl) HS0 ?_
  conv=>arg 8;simp [go_sem]
  refine tw 4 rfl HS0 ?_
  conv=>arg 8;simp [go_sem]
  refine tw 5 rfl HS0 ?_
  conv=>arg 8;simp [go_sem]
  refine tw 6 rfl HS0 ?_
  conv=>arg 8;simp [go_sem]
  refine tv 7 rfl (fun w' hS=>by have e:w'.cell? ⟨gd,7,none⟩=some (.int .i64 tick):=(hS.1.blk 1 rfl).1.cellOf (i:=7) rfl;go_simp;all_goals with_reducible rfl) HS0 ?_
  conv=>arg 8;simp [go_sem]
  refine ar 8 rfl fun K' hK'=>?_
  refine oper_call (by rfl) 52 [.tmp 18,.tmp 22] #[27,3] rfl (vs:=[.pointer (some ⟨gg,0,none⟩),.int .i64 tick]) rfl Tryz.func52 nm_due bd_due (HDU.out _ HS0.1) ?_
  rintro e w9 ⟨rfl,q,rfl⟩
  have HT1:=And.intro (HS0.1.drewN q) (below_drewN HS0.2 q)
  refine ⟨_,rfl,hK'.out _ _ HT1 (fun _=>?_)⟩
  clear hK' K'
  conv=>arg 8;simp [go_sem]
  refine ⟨by kernel_rfl,?_⟩
  conv =>
   arg 5
   simp [go_sem]
  cases due with
  | false =>
   go_wp2_with fail
   go_ret
   exact ⟨rfl,HT1.2,m,k,X',S',hs',G',a0,c0,a1,c1,ha,hc,by rw [HCM.out];exact HT1.1,HI.out.1,HI.out.2.1,HI.out.2.2.1,HI.out.2.2.2.1,HI.out.2.2.2.2.1,HI.out.2.2.2.2.2⟩
  | true =>
   generalize wd.drewN q=w2 at *
   have HO2:=Box.mk HT1
   clear HT1
   go_upto_region 2 with fail
   go_cut [3,4] from 15 to 136 (fun s3 s4 wx=>s4=.bool true∧Box (∃ (g3:Nat) (ba:Option Addr) (bc:Nat),s3=.pointer (some ⟨g3,0,none⟩)∧Own B wx (DkL gd gx gg bw bi bs all tick cm X' S'.cut hs' G' mw mi Z a0 c0 a1 c1 ha hc++[BlkP g3 72 [.int .i64 ((L:Int)+1),.slice ba f bc],RdP 1 ba f bc (intVals ((wt2.take f).map Wtx.tx))])∧Below B w wx))
   case first =>
    have HF0:=Box.mk (And.intro HO2.out.1.drew HO2.out.2.drew)
    have HS0:Own B w2.drew [BlkP gd 36 (dkC gx gg ⟨a0,(verT (cwOf cm) 0).length,c0⟩ ⟨a1,(verT (cwOf cm) 1).length,c1⟩ bw bi all tick ⟨ha,hs'.length,hc⟩ bs)]∧Below B w w2.drew:=⟨HF0.out.1.only 1 rfl,HF0.out.2⟩
    clear HO2
    refine wp_region_held_drew (S:=fun w'=>(Own B w' [BlkP gd 36 (dkC gx gg ⟨a0,(verT (cwOf cm) 0).length,c0⟩ ⟨a1,(verT (cwOf cm) 1).length,c1⟩ bw bi all tick ⟨ha,hs'.length,hc⟩ bs)]∧Below B w w')) (by kernel_rfl) HS0 (fun _=>?_)
    generalize w2.drew=wd2 at *
    refine tw 0 rfl HS0 ?_
    conv=>arg 8;simp [go_sem]
    refine tw 1 rfl HS0 ?_
    conv=>arg 8;simp [go_sem]
    refine tw 2 rfl HS0 ?_
    conv=>arg 8;simp [go_sem]
    refine tv 3 rfl (fun w' hS=>by have e:w'.cell? ⟨gd,1,none⟩=some (.pointer (some ⟨gg,0,none⟩)):=(hS.1.blk 0 rfl).1.cellOf (i:=1) rfl;go_simp;all_goals with_reducible rfl) HS0 ?_
    conv=>arg 8;simp [go_sem]
    refine tw 4 rfl HS0 ?_
    conv=>arg 8;simp [go_sem]
    refine tw 5 rfl HS0 ?_
    conv=>arg 8;simp [go_sem]
    refine tw 6 rfl HS0 ?_
    conv=>arg 8;simp [go_sem]
    refine tv 7 rfl (fun w' hS=>by have e:w'.cell? ⟨gd,7,none⟩=some (.int .i64 tick):=(hS.1.blk 0 rfl).1.cellOf (i:=7) rfl;go_simp;all_goals with_reducible rfl) HS0 ?_
    conv=>arg 8;simp [go_sem]
    refine wpAnyH_ready (rs:=[8,12]) (by kernel_rfl) (by simp) ?_
    refine AllReadyH.cons rfl (fun K' hK'=>?_) (AllReadyH.cons rfl (fun K' hK'=>?_) AllReadyH.nil)
    ·refine oper_call (by rfl) 53 [.tmp 28,.tmp 32] #[27,3] rfl (vs:=[.pointer (some ⟨gg,0,none⟩),.int .i64 tick]) rfl Tryz.func53 nm_cut bd_cut (cut_due HF0.out.1 5 rfl HDUE.out (by rw [HD.out.stamp,HFR.out.2]) HFR.out.1 HD.out.q) ?_
     rintro e w9 ⟨ba,bc,rfl,hO9,hb⟩
     have HF2:=Box.mk (And.intro hO9 (HF0.out.2.trans hb))
     clear hO9 hb
     have HT3:=(show (Own B _ [BlkP gd 36 (dkC gx gg ⟨a0,(verT (cwOf cm) 0).length,c0⟩ ⟨a1,(verT (cwOf cm) 1).length,c1⟩ bw bi all tick ⟨ha,hs'.length,hc⟩ bs)]∧Below B w _) from And.intro (HF2.out.1.only 1 rfl) HF2.out.2)
     refine ⟨_,rfl,hK'.out _ _ HT3 (fun _=>?_)⟩
     clear hK' K'
     conv=>arg 8;simp [go_sem]
     refine tw 9 rfl HT3 ?_
     conv=>arg 8;simp [go_sem]
     refine tw 10 rfl HT3 ?_
     conv=>arg 8;simp [go_sem]
     refine tw 11 rfl HT3 ?_
     conv=>arg 8;simp [go_sem]
     refine ar 12 rfl fun K' hK'=>?_
     obtain ⟨g3,hg3⟩:∃g3,g3=g3:=⟨0,rfl⟩
     clear hg3 g3
     refine oper_alloc (by rfl) 72 rfl (z:=.agg #[.int .i64 0,.slice none 0 0]) (zc:=#[.int .i64 0,.slice none 0 0]) (by kernel_rfl) rfl ?_
     have HF4:=Box.mk (And.intro (HF2.out.1.new [.int .i64 0,.slice none 0 0] 72) (HF2.out.2.alloc HF2.out.1.1 (.cells #[.int .i64 0,.slice none 0 0] 72)))
     have HT5:=(show (Own B _ [BlkP gd 36 (dkC gx gg ⟨a0,(verT (cwOf cm) 0).length,c0⟩ ⟨a1,(verT (cwOf cm) 1).length,c1⟩ bw bi all tick ⟨ha,hs'.length,hc⟩ bs)]∧Below B w _) from And.intro (HF4.out.1.only 1 rfl) HF4.out.2)
     refine hK'.out _ _ HT5 (fun _=>?_)
     clear hK' K'
     conv=>arg 8;simp [go_sem]
     refine ar 13 rfl fun K' hK'=>?_
     have HF6:=Box.mk (HF4.out.1.setRow 11 rfl [.int .i64 ((L:Int)+1),.slice ba f bc])
     refine oper_store_row (by rfl) 72 (.tmp 3) (.tmp 34) rfl rfl (by kernel_rfl) (HF4.out.1.blk 11 rfl).1 rfl rfl (cs:=[.int .i64 ((L:Int)+1),.slice ba f bc]) rfl rfl (by simp [Value.oneCell']) ?_
     have HQ2:=Box.mk (And.intro HF6.out.1 (HF4.out.2.trans HF6.out.2))
     have HT7:=(show (Own B _ [BlkP gd 36 (dkC gx gg ⟨a0,(verT (cwOf cm) 0).length,c0⟩ ⟨a1,(verT (cwOf cm) 1).length,c1⟩ bw bi all tick ⟨ha,hs'.length,hc⟩ bs)]∧Below B w _) from And.intro (HF6.out.1.only 1 rfl) (HF4.out.2.trans HF6.out.2))
     refine hK'.out _ _ HT7 (fun _=>?_)
     clear hK' K'
     conv=>arg 8;simp [go_sem]
     refine tw 14 rfl HT7 ?_
     conv=>arg 8;simp [go_sem]
     refine ⟨by kernel_rfl,?_⟩
     conv =>
      arg 5
      simp [go_sem]
     go_wp2_with fail
     go_meet
     exact ⟨rfl,⟨_,ba,bc,rfl,HQ2.out.1.perm (List.Perm.append_left (DkL gd gx gg bw bi bs all tick cm X' S'.cut hs' G' mw mi Z a0 c0 a1 c1 ha hc) (List.Perm.swap _ _ _)),HQ2.out.2⟩⟩
    ·obtain ⟨g3,hg3⟩:∃g3,g3=g3:=⟨0,rfl⟩
     clear hg3 g3
     refine oper_alloc (by rfl) 72 rfl (z:=.agg #[.int .i64 0,.slice none 0 0]) (zc:=#[.int .i64 0,.slice none 0 0]) (by kernel_rfl) rfl ?_
     have HF8:=Box.mk (And.intro (HF0.out.1.new [.int .i64 0,.slice none 0 0] 72) (HF0.out.2.alloc HF0.out.1.1 (.cells #[.int .i64 0,.slice none 0 0] 72)))
     have HT9:=(show (Own B _ [BlkP gd 36 (dkC gx gg ⟨a0,(verT (cwOf cm) 0).length,c0⟩ ⟨a1,(verT (cwOf cm) 1).length,c1⟩ bw bi all tick ⟨ha,hs'.length,hc⟩ bs)]∧Below B w _) from And.intro (HF8.out.1.only 1 rfl) HF8.out.2)
     refine hK'.out _ _ HT9 (fun _=>?_)
     clear hK' K'
     conv=>arg 8;simp [go_sem]
     refine ar 8 rfl fun K' hK'=>?_
     refine oper_call (by rfl) 53 [.tmp 28,.tmp 32] #[27,3] rfl (vs:=[.pointer (some ⟨gg,0,none⟩),.int .i64 tick]) rfl Tryz.func53 nm_cut bd_cut (cut_due HF8.out.1 5 rfl HDUE.out (by rw [HD.out.stamp,HFR.out.2]) HFR.out.1 HD.out.q) ?_
     rintro e w9 ⟨ba,bc,rfl,hO9,hb⟩
     have HF10:=Box.mk (And.intro hO9 (HF8.out.2.trans hb))
     clear hO9 hb
     have HT11:=(show (Own B _ [BlkP gd 36 (dkC gx gg ⟨a0,(verT (cwOf cm) 0).length,c0⟩ ⟨a1,(verT (cwOf cm) 1).length,c1⟩ bw bi all tick ⟨ha,hs'.length,hc⟩ bs)]∧Below B w _) from And.intro (HF10.out.1.only 1 rfl) HF10.out.2)
     refine ⟨_,rfl,hK'.out _ _ HT11 (fun _=>?_)⟩
     clear hK' K'
     conv=>arg 8;simp [go_sem]
     refine tw 9 rfl HT11 ?_
     conv=>arg 8;simp [go_sem]
     refine tw 10 rfl HT11 ?_
     conv=>arg 8;simp [go_sem]
     refine tw 11 rfl HT11 ?_
     conv=>arg 8;simp [go_sem]
     refine ar 13 rfl fun K' hK'=>?_
     have HF12:=Box.mk (HF10.out.1.setRow 10 rfl [.int .i64 ((L:Int)+1),.slice ba f bc])
     refine oper_store_row (by rfl) 72 (.tmp 3) (.tmp 34) rfl rfl (by kernel_rfl) (HF10.out.1.blk 10 rfl).1 rfl rfl (cs:=[.int .i64 ((L:Int)+1),.slice ba f bc]) rfl rfl (by simp [Value.oneCell']) ?_
     have HQ2:=Box.mk (And.intro HF12.out.1 (HF10.out.2.trans HF12.out.2))
     have HT13:=(show (Own B _ [BlkP gd 36 (dkC gx gg ⟨a0,(verT (cwOf cm) 0).length,c0⟩ ⟨a1,(verT (cwOf cm) 1).length,c1⟩ bw bi all tick ⟨ha,hs'.length,hc⟩ bs)]∧Below B w _) from And.intro (HF12.out.1.only 1 rfl) (HF10.out.2.trans HF12.out.2))
     refine hK'.out _ _ HT13 (fun _=>?_)
     clear hK' K'
     conv=>arg 8;simp [go_sem]
     refine tw 14 rfl HT13 ?_
     conv=>arg 8;simp [go_sem]
     refine ⟨by kernel_rfl,?_⟩
     conv =>
      arg 5
      simp [go_sem]
     go_wp2_with fail
     go_meet
     exact ⟨rfl,⟨_,ba,bc,rfl,HQ2.out.1,HQ2.out.2⟩⟩
   case rest =>
    obtain ⟨rfl,HC⟩:=hcut
    clear HO2
    obtain ⟨g3,ba,bc,rfl,hO3,hB3⟩:=HC.out
    have O3:=Box.mk hO3
    have B3:=Box.mk hB3
    clear HC hO3 hB3
    have y1:wc.cell? ⟨g3,1,none⟩=some (.slice ba f bc):=(O3.out.blk 10 rfl).1.cellOf (i:=1) rfl
    have HFW:=Box.mk (show f≤wt2.length from by
     have h2:=S'.front_le
     have h3:=congrArg List.length HD.out.q
     rw [List.length_map,List.length_map] at h3
     rw [HFR.out.1] at h2
     omega)
    go_wp2_with fail
    go_loopg [39] f (fun gi s39 wq=>∃i:Nat,i≤f∧f - i≤gi∧s39=.int .i64 i∧Box (∃a0 c0 a1 c1,Own B wq (DkL2 gd gx gg bw bi bs all tick (cm++(wt2.take i).map idw) (cm++(wt2.take i).map idw) X' S'.cut hs' G' mw mi Z a0 c0 a1 c1 ha hc++[BlkP g3 72 [.int .i64 ((L:Int)+1),.slice ba f bc],RdP 1 ba f bc (intVals ((wt2.take f).map Wtx.tx))])∧Below B w wq))
    case atStart=>exact ⟨0,Nat.zero_le _,by omega,rfl,⟨a0,c0,a1,c1,by simpa using O3.out,B3.out⟩⟩
    clear O3 B3 y1
    case round =>
     obtain ⟨i,hi,hgi,rfl,HJ⟩:=hrel
     by_cases hif:i<f
     ·obtain ⟨a0,c0,a1,c1,hO4,hB4⟩:=HJ.out
      have hil:i<wt2.length:=by have:=HFW.out;omega
      obtain ⟨x,hx⟩:∃x,wt2.getD i default=x:=⟨_,rfl⟩
      have hxm:x∈wt2:=by rw [← hx];exact getD_mem hil
      have HXP:=Box.mk (HD.out.mp x hxm)
      have HIM:=Box.mk (HD.out.imm x hxm)
      have HTW:=Box.mk (show (wt2.take (i+1)).map idw=(wt2.take i).map idw++[idw x] from by rw [take_snoc hil,List.map_append,hx];rfl)
      have hxo:((wt2.take f).map Wtx.tx).getD i 0=x.tx:=by
       rw [List.getD_eq_getElem?_getD,List.getElem?_map,List.getElem?_take_of_lt hif,List.getElem?_eq_getElem hil,← hx,List.getD_eq_getElem?_getD,List.getElem?_eq_getElem hil];rfl
      have HWOK:=Box.mk (show WsOk x.ws from (HD.out.trc.ok.mem (idw x) (List.mem_append.2 (.inr (List.mem_map.2 ⟨x,hxm,rfl⟩)))).2.2)
      have O4:=Box.mk hO4
      have B4:=Box.mk hB4
      obtain ⟨ob,ooff,hba,hco⟩:=(O4.out.rd 11 rfl).intAtD i hif
      rw [hxo] at hco
      obtain ⟨tx,id,ws,wa,wc⟩:=x
      simp only at HXP HIM HWOK hco
      clear hO4 hB4 HJ hx hxm hxo
      subst hba
      obtain ⟨wn,hwn⟩:∃wn,ws.length=wn:=⟨_,rfl⟩
      have HWN:=Box.mk hwn
      have HW8:=Box.mk (show wn≤8 from by rw [← hwn];exact HWOK.out.len8)
      clear hwn
      obtain ⟨ci,hci⟩:∃ci,(cm++(wt2.take i).map idw)=ci:=⟨_,rfl⟩
      obtain ⟨cj,hcj⟩:∃cj,(cm++(wt2.take (i+1)).map idw)=cj:=⟨_,rfl⟩
      have HCI:=Box.mk hci
      have HCJ:=Box.mk hcj
      clear hci hcj
      go_upto_region 6 with fail
      clear hco
      go_wp2_with fail
      go_loopg [44] 2 (fun gt s44 wq=>∃t:Nat,t≤2∧2 - t≤gt∧s44=.int .i64 t∧Box (∃a0 c0 a1 c1,Own B wq (DkL2 gd gx gg bw bi bs all tick (if t=0 then (cm++(wt2.take i).map idw) else (cm++(wt2.take (i+1)).map idw)) (if t=2 then (cm++(wt2.take (i+1)).map idw) else (cm++(wt2.take i).map idw)) X' S'.cut hs' G' mw mi Z a0 c0 a1 c1 ha hc++[BlkP g3 72 [.int .i64 ((L:Int)+1),.slice (some ⟨ob,ooff,none⟩) f bc],RdP 1 (some ⟨ob,ooff,none⟩) f bc (intVals ((wt2.take f).map Wtx.tx))])∧Below B w wq))
      case atStart=>exact ⟨0,Nat.zero_le _,by omega,rfl,⟨a0,c0,a1,c1,by simpa using O4.out,B4.out⟩⟩
      clear O4 B4
      case round =>
       obtain ⟨t,ht2,hgt,rfl,HT⟩:=hrel
       by_cases htl:t<2
       ·have ht3:t=0∨t=1:=by omega
        rcases ht3 with rfl | rfl
        ·obtain ⟨a0,c0,a1,c1,hO5,hB5⟩:=HT.out
         have O5:=Box.mk (show Own B wr (DkL2 gd gx gg bw bi bs all tick ci ci X' S'.cut hs' G' mw mi Z a0 c0 a1 c1 ha hc++[BlkP g3 72 [.int .i64 ((L:Int)+1),.slice (some ⟨ob,ooff,none⟩) f bc],RdP 1 (some ⟨ob,ooff,none⟩) f bc (intVals ((wt2.take f).map Wtx.tx))]) from by rw [← HCI.out];exact hO5)
         have B5:=Box.mk hB5
         clear hO5 hB5 HT
         have y4:wr.cell? ⟨gd,4,none⟩=some (.map (some bw)):=(O5.out.blk 1 rfl).1.cellOf (i:=4) rfl
         have hlook:=(O5.out.map 6 rfl).1.look (t:=29) (e:=80) K_int kI_inj und_miw z_wrs (keyI HXP.out.2.2)
         rw [HXP.out.1] at hlook
         simp only [kI,WsS.v,Option.map_some,Option.getD_some,HWN.out] at hlook
         go_wp2_with fail
         go_loopg [8,54] wn (fun gj s8 s54 wq=>∃ (j:Nat) (a8:Option Addr) (c8 p:Nat),j≤wn∧wn - j≤gj∧s54=.int .i64 j∧s8=.slice a8 p c8∧Box (p=((ws.take j).filter fun y=>decide (y.table=0)).length∧Own B wq (DkL2 gd gx gg bw bi bs all tick ci ci X' S'.cut hs' G' mw mi Z a0 c0 a1 c1 ha hc++[BlkP g3 72 [.int .i64 ((L:Int)+1),.slice (some ⟨ob,ooff,none⟩) f bc],RdP 1 (some ⟨ob,ooff,none⟩) f bc (intVals ((wt2.take f).map Wtx.tx))]++[RowP 90 4 a8 p c8 (recC WrP.enc ((ws.take j).filter fun y=>decide (y.table=0)))])∧Below B w wq))
         case atStart=>exact ⟨0,none,0,0,Nat.zero_le _,by omega,rfl,rfl,⟨rfl,by simpa [recC] using O5.out.nilRow 90 4,B5.out⟩⟩
         clear O5 B5 y4 hlook
         case round =>
          obtain ⟨j,a8,c8,p,hj,hgj,rfl,rfl,HJ⟩:=hrel
          have hpj:p≤8:=by
           have h1:=HJ.out.1
           have h2:=List.length_filter_le (fun y:WrP=>decide (y.table=0)) (ws.take j)
           rw [List.length_take] at h2
           have:=HW8.out
           omega
          by_cases hjl:j<wn
          ·have hw8:=HW8.out
           obtain ⟨ob2,ooff2,hwa,_,hcl⟩:=(show Rd wr wa wn wc 4 (recC WrP.enc ws) from by have h1:=HJ.out.2.1.imm 8 rfl HIM.out;simp only [HWN.out] at h1;exact h1).recAt WrP.enc_len (by omega) j hjl
           have HTK:=Box.mk (show ws.take (j+1)=ws.take j++[ws.getD j default] from take_snoc (by rw [HWN.out];exact hjl))
           obtain ⟨y,hy⟩:∃y,ws.getD j default=y:=⟨_,rfl⟩
           rw [hy] at hcl HTK
           obtain ⟨yt,yr,yd,ya,yc,yl⟩:=y
           have d0:=hcl 0 _ rfl
           have d1:=hcl 1 _ rfl
           have d2:=hcl 2 _ rfl
           have d3:=hcl 3 _ rfl
           simp only [Nat.add_zero] at d0 d1 d2 d3
           obtain ⟨yn,hyn⟩:∃yn,yl.length=yn:=⟨_,rfl⟩
           rw [hyn] at d3
           have HYN:=Box.mk hyn
           have O6:=Box.mk (HJ.out.2.1.new [.int .i64 yt,.int .i64 yr,.bool yd,.slice ya yn yc] 90)
           have B6:=Box.mk (HJ.out.2.2.alloc HJ.out.2.1.1 (.cells #[.int .i64 yt,.int .i64 yr,.bool yd,.slice ya yn yc] 90))
           have HPJ:=Box.mk HJ.out.1
           clear hy hcl hyn HJ
           subst hwa
           go_upto_region 13 with fail
           clear d0 d1 d2 d3
           generalize wr.heap.size=gy at *
           generalize (wr.alloc (.cells #[.int .i64 yt,.int .i64 yr,.bool yd,.slice ya yn yc] 90))=w6 at *
           have y0:=(O6.out.blk 13 rfl).1.cellOf (i:=0) rfl
           have y1:=(O6.out.blk 13 rfl).1.cellOf (i:=1) rfl
           have y2:=(O6.out.blk 13 rfl).1.cellOf (i:=2) rfl
           have y3:=(O6.out.blk 13 rfl).1.cellOf (i:=3) rfl
           by_cases hyt:yt=0
           ·subst hyt
            go_wp2_with (first | (at_builtin;refine wpList_append_O rfl _ _ 80 80 rfl sl_wr (.inl sl_wr.ht) (O6.out.alloc _) 12 rfl rfl rfl (Src.lone w6 [.int .i64 0,.int .i64 yr,.bool yd,.slice ya yn yc] _ rfl (by simp [Value.oneCell'])) (by omega) (by unfold maxLen;omega) ?_;intro a9 c9 w9 O9 hb9) | ((with_reducible show wpList _ _ _ _ _ _);refine wpList_lit_one (o:=⟨some 64,_,_,_,_,_⟩) rfl 80 (.tmp 63) rfl sl_wr (cs:=[.int .i64 0,.int .i64 yr,.bool yd,.slice ya yn yc]) rfl rfl (by omega) (by omega) ?_))
            go_roundg (wn - (j+1))
            case measure=>omega
            case rel=>exact ⟨j+1,a9,c9,p+1,by omega,by omega,by go_num,rfl,⟨by rw [HTK.out,List.filter_append,List.length_append,← HPJ.out];simp,by rw [HTK.out,List.filter_append,recC_append];simpa [recC,WrP.enc,HYN.out] using O9.drop 13,(B6.out.alloc O6.out.1 _).trans hb9⟩⟩
           ·have hq:(yt==0)=false:=by simp [hyt]
            go_wp2_with fail
            go_roundg (wn - (j+1))
            case measure=>omega
            case rel=>exact ⟨j+1,a8,c8,p,by omega,by omega,by go_num,rfl,⟨by rw [HTK.out,List.filter_append,List.length_append,← HPJ.out];simp [hyt],by rw [HTK.out,List.filter_append];simpa [hyt] using O6.out.drop 13,B6.out⟩⟩
          ·obtain rfl:j=wn:=by omega
           have HTF:=Box.mk (show ws.take j=ws from List.take_of_length_le (by rw [HWN.out];exact Nat.le_refl _))
           have O7:=HJ.out.2.1
           rw [HTF.out] at O7
           have O7:=Box.mk O7
           have B7:=Box.mk HJ.out.2.2
           have HLC:=Box.mk (show (cwOf ci).length=L+i from by rw [← HCI.out,← HFR.out.2];simp only [cwOf,List.length_map,List.length_append,List.length_take];omega)
           have HCC:=Box.mk (show cwOf ci++[ws]=cwOf cj from by rw [← HCI.out,← HCJ.out,HTW.out];simp [cwOf,idw])
           have hLb:L+i≤1000:=by have h1:=HD.out.b1;rw [HFR.out.2] at h1;omega
           have hw1:IntKind.i64.wrap ((L:Int)+1+(i:Int))=(L:Int)+1+(i:Int):=IntWalk.i64_in _ (by omega)
           have HADD:=Box.mk (fun (w':World) (hO:Own B w' (DkL2 gd gx gg bw bi bs all tick ci ci X' S'.cut hs' G' mw mi Z a0 c0 a1 c1 ha hc++[BlkP g3 72 [.int .i64 ((L:Int)+1),.slice (some ⟨ob,ooff,none⟩) f bc],RdP 1 (some ⟨ob,ooff,none⟩) f bc (intVals ((wt2.take f).map Wtx.tx))]++[RowP 90 4 a8 p c8 (recC WrP.enc (ws.filter fun y=>decide (y.table=0)))]))=>show Calls Tryz.prog 54 #[.slice a0 (verT (cwOf ci) 0).length c0,.int .i64 ((L:Int)+1+(i:Int)),.slice a8 p c8] w' (fun e w''=>Below w'.heap.size w' w''∧∃ (a:Option Addr) (c:Nat),e=.returned (.tuple #[.slice a (verT (cwOf cj) 0).length c,.int .i64 0])∧w''.ownsRow w'.heap.size 93 4 (.slice a (verT (cwOf cj) 0).length c) (verT (cwOf cj) 0).length (recC VerP.enc (verT (cwOf cj) 0))) from by
            have h1:=addT_any HWOK.out (t:=0) (com:=cwOf ci) (Rd.ofOwn (hO.row 2 rfl)) (Rd.ofOwn (hO.row 12 rfl)) (by rw [HLC.out];exact hLb)
            rw [HCC.out,show ((cwOf ci).length:Int)+1=(L:Int)+1+(i:Int) from by rw [HLC.out];omega] at h1
            exact h1)
           clear HJ
           go_upto_region 16 with fail
           have HS0:Own B wr.drew (DkL2 gd gx gg bw bi bs all tick ci ci X' S'.cut hs' G' mw mi Z a0 c0 a1 c1 ha hc++[BlkP g3 72 [.int .i64 ((L:Int)+1),.slice (some ⟨ob,ooff,none⟩) f bc],RdP 1 (some ⟨ob,ooff,none⟩) f bc (intVals ((wt2.take f).map Wtx.tx))]++[RowP 90 4 a8 p c8 (recC WrP.enc (ws.filter fun y=>decide (y.table=0)))])∧Below B w wr.drew:=⟨O7.out.drew,B7.out.drew⟩
           clear O7 B7
           refine wp_region_held_drew (S:=fun w'=>(Own B w' (DkL2 gd gx gg bw bi bs all tick ci ci X' S'.cut hs' G' mw mi Z a0 c0 a1 c1 ha hc++[BlkP g3 72 [.int .i64 ((L:Int)+1),.slice (some ⟨ob,ooff,none⟩) f bc],RdP 1 (some ⟨ob,ooff,none⟩) f bc (intVals ((wt2.take f).map Wtx.tx))]++[RowP 90 4 a8 p c8 (recC WrP.enc (ws.filter fun y=>decide (y.table=0)))])∧Below B w w')) (by kernel_rfl) HS0 (fun _=>?_)
           generalize wr.drew=wd3 at *
           refine tw 0 rfl HS0 ?_
           conv=>arg 8;simp [go_sem]
           refine tw 1 rfl HS0 ?_
           conv=>arg 8;simp [go_sem]
           refine tw 2 rfl HS0 ?_
           conv=>arg 8;simp [go_sem]
           refine tw 3 rfl HS0 ?_
           conv=>arg 8;simp [go_sem]
           refine tw 4 rfl HS0 ?_
           conv=>arg 8;simp [go_sem]
           refine tv 5 rfl (fun w' hS=>by have e:w'.cell? ⟨gd,2,none⟩=some (.slice a0 (verT (cwOf ci) 0).length c0):=(hS.1.blk 1 rfl).1.cellOf (i:=2) rfl;go_simp;all_goals with_reducible rfl) HS0 ?_
           conv=>arg 8;simp [go_sem]
           refine tw 6 rfl HS0 ?_
           conv=>arg 8;simp [go_sem]
           refine tv 7 rfl (fun w' hS=>by have e:w'.cell? ⟨g3,0,none⟩=some (.int .i64 ((L:Int)+1)):=(hS.1.blk 10 rfl).1.cellOf (i:=0) rfl;go_simp;all_goals with_reducible rfl) HS0 ?_
           conv=>arg 8;simp [go_sem]
           refine tw 8 rfl HS0 ?_
           conv=>arg 8;simp [go_sem]
           refine tk 9 (v:=.int .i64 ((L:Int)+1+(i:Int))) rfl (yieldsIf_val (by rfl) (fun w' hS=>by go_simp)) (HS0) ?_
           conv=>arg 8;simp [go_sem]
           refine tw 10 rfl HS0 ?_
           conv=>arg 8;simp [go_sem]
           refine ar 11 rfl fun K' hK'=>?_
           refine oper_call (by rfl) 54 [.tmp 73,.tmp 77,.tmp 78] #[32,3,80] rfl (vs:=[.slice a0 (verT (cwOf ci) 0).length c0,.int .i64 ((L:Int)+1+(i:Int)),.slice a8 p c8]) rfl Tryz.func54 nm_add bd_add (HADD.out _ HS0.1) ?_
           rintro e w9 ⟨hb,a9,c9,rfl,hrow⟩
           have HFA:=Box.mk (And.intro (HS0.1.newRow hb hrow (Nat.le_refl _)) (HS0.2.trans (hb.mono HS0.1.1)))
           clear hrow
           have HT15:=And.intro (HS0.1.below hb) (HS0.2.trans (hb.mono HS0.1.1))
           refine ⟨_,rfl,hK'.out _ _ HT15 (fun _=>?_)⟩
           clear hK' K'
           conv=>arg 8;simp [go_sem]
           refine tw 12 rfl HT15 ?_
           conv=>arg 8;simp [go_sem]
           refine tw 13 rfl HT15 ?_
           conv=>arg 8;simp [go_sem]
           refine tw 14 rfl HT15 ?_
           conv=>arg 8;simp [go_sem]
           refine tw 15 rfl HT15 ?_
           conv=>arg 8;simp [go_sem]
           refine tw 16 rfl HT15 ?_
           conv=>arg 8;simp [go_sem]
           refine ⟨by kernel_rfl,?_⟩
           conv =>
            arg 5
            simp [go_sem]
           have HST:=Box.mk (HFA.out.1.setRow 1 rfl (splice (dkC gx gg ⟨a0,(verT (cwOf ci) 0).length,c0⟩ ⟨a1,(verT (cwOf ci) 1).length,c1⟩ bw bi all tick ⟨ha,hs'.length,hc⟩ bs) 2 [.slice a9 (verT (cwOf cj) 0).length c9]))
           go_wp2_with ((with_reducible show wpList _ _ _ _ _ _);refine wpList_store_part rfl 32 (.tmp 89) (.tmp 86) rfl rfl (size:=1) (off:=2) (by kernel_rfl) (HFA.out.1.blk 1 rfl).1 (by simp [dkC]) rfl (cs:=[.slice a9 (verT (cwOf cj) 0).length c9]) rfl rfl (by simp [Value.oneCell']) ?_)
           have HNW:=Box.mk ((((HST.out.1.drop 12).front 12 rfl).drop 3).back (i:=2) (l:=_) rfl)
           go_roundg (2 - (0+1))
           case measure=>omega
           case rel=>exact ⟨0+1,by omega,by omega,by go_num,⟨a9,c9,a1,c1,by rw [HCI.out,HCJ.out];exact HNW.out,HFA.out.2.trans HST.out.2⟩⟩
        ·obtain ⟨a0,c0,a1,c1,hO5,hB5⟩:=HT.out
         have O5:=Box.mk (show Own B wr (DkL2 gd gx gg bw bi bs all tick cj ci X' S'.cut hs' G' mw mi Z a0 c0 a1 c1 ha hc++[BlkP g3 72 [.int .i64 ((L:Int)+1),.slice (some ⟨ob,ooff,none⟩) f bc],RdP 1 (some ⟨ob,ooff,none⟩) f bc (intVals ((wt2.take f).map Wtx.tx))]) from by rw [← HCI.out,← HCJ.out];exact hO5)
         have B5:=Box.mk hB5
         clear hO5 hB5 HT
         have y4:wr.cell? ⟨gd,4,none⟩=some (.map (some bw)):=(O5.out.blk 1 rfl).1.cellOf (i:=4) rfl
         have hlook:=(O5.out.map 6 rfl).1.look (t:=29) (e:=80) K_int kI_inj und_miw z_wrs (keyI HXP.out.2.2)
         rw [HXP.out.1] at hlook
         simp only [kI,WsS.v,Option.map_some,Option.getD_some,HWN.out] at hlook
         go_wp2_with fail
         go_loopg [8,54] wn (fun gj s8 s54 wq=>∃ (j:Nat) (a8:Option Addr) (c8 p:Nat),j≤wn∧wn - j≤gj∧s54=.int .i64 j∧s8=.slice a8 p c8∧Box (p=((ws.take j).filter fun y=>decide (y.table=1)).length∧Own B wq (DkL2 gd gx gg bw bi bs all tick cj ci X' S'.cut hs' G' mw mi Z a0 c0 a1 c1 ha hc++[BlkP g3 72 [.int .i64 ((L:Int)+1),.slice (some ⟨ob,ooff,none⟩) f bc],RdP 1 (some ⟨ob,ooff,none⟩) f bc (intVals ((wt2.take f).map Wtx.tx))]++[RowP 90 4 a8 p c8 (recC WrP.enc ((ws.take j).filter fun y=>decide (y.table=1)))])∧Below B w wq))
         case atStart=>exact ⟨0,none,0,0,Nat.zero_le _,by omega,rfl,rfl,⟨rfl,by simpa [recC] using O5.out.nilRow 90 4,B5.out⟩⟩
         clear O5 B5 y4 hlook
         case round =>
          obtain ⟨j,a8,c8,p,hj,hgj,rfl,rfl,HJ⟩:=hrel
          have hpj:p≤8:=by
           have h1:=HJ.out.1
           have h2:=List.length_filter_le (fun y:WrP=>decide (y.table=1)) (ws.take j)
           rw [List.length_take] at h2
           have:=HW8.out
           omega
          by_cases hjl:j<wn
          ·have hw8:=HW8.out
           obtain ⟨ob2,ooff2,hwa,_,hcl⟩:=(show Rd wr wa wn wc 4 (recC WrP.enc ws) from by have h1:=HJ.out.2.1.imm 8 rfl HIM.out;simp only [HWN.out] at h1;exact h1).recAt WrP.enc_len (by omega) j hjl
           have HTK:=Box.mk (show ws.take (j+1)=ws.take j++[ws.getD j default] from take_snoc (by rw [HWN.out];exact hjl))
           obtain ⟨y,hy⟩:∃y,ws.getD j default=y:=⟨_,rfl⟩
           rw [hy] at hcl HTK
           obtain ⟨yt,yr,yd,ya,yc,yl⟩:=y
           have d0:=hcl 0 _ rfl
           have d1:=hcl 1 _ rfl
           have d2:=hcl 2 _ rfl
           have d3:=hcl 3 _ rfl
           simp only [Nat.add_zero] at d0 d1 d2 d3
           obtain ⟨yn,hyn⟩:∃yn,yl.length=yn:=⟨_,rfl⟩
           rw [hyn] at d3
           have HYN:=Box.mk hyn
           have O6:=Box.mk (HJ.out.2.1.new [.int .i64 yt,.int .i64 yr,.bool yd,.slice ya yn yc] 90)
           have B6:=Box.mk (HJ.out.2.2.alloc HJ.out.2.1.1 (.cells #[.int .i64 yt,.int .i64 yr,.bool yd,.slice ya yn yc] 90))
           have HPJ:=Box.mk HJ.out.1
           clear hy hcl hyn HJ
           subst hwa
           go_upto_region 13 with fail
           clear d0 d1 d2 d3
           generalize wr.heap.size=gy at *
           generalize (wr.alloc (.cells #[.int .i64 yt,.int .i64 yr,.bool yd,.slice ya yn yc] 90))=w6 at *
           have y0:=(O6.out.blk 13 rfl).1.cellOf (i:=0) rfl
           have y1:=(O6.out.blk 13 rfl).1.cellOf (i:=1) rfl
           have y2:=(O6.out.blk 13 rfl).1.cellOf (i:=2) rfl
           have y3:=(O6.out.blk 13 rfl).1.cellOf (i:=3) rfl
           by_cases hyt:yt=1
           ·subst hyt
            go_wp2_with (first | (at_builtin;refine wpList_append_O rfl _ _ 80 80 rfl sl_wr (.inl sl_wr.ht) (O6.out.alloc _) 12 rfl rfl rfl (Src.lone w6 [.int .i64 1,.int .i64 yr,.bool yd,.slice ya yn yc] _ rfl (by simp [Value.oneCell'])) (by omega) (by unfold maxLen;omega) ?_;intro a9 c9 w9 O9 hb9) | ((with_reducible show wpList _ _ _ _ _ _);refine wpList_lit_one (o:=⟨some 64,_,_,_,_,_⟩) rfl 80 (.tmp 63) rfl sl_wr (cs:=[.int .i64 1,.int .i64 yr,.bool yd,.slice ya yn yc]) rfl rfl (by omega) (by omega) ?_))
            go_roundg (wn - (j+1))
            case measure=>omega
            case rel=>exact ⟨j+1,a9,c9,p+1,by omega,by omega,by go_num,rfl,⟨by rw [HTK.out,List.filter_append,List.length_append,← HPJ.out];simp,by rw [HTK.out,List.filter_append,recC_append];simpa [recC,WrP.enc,HYN.out] using O9.drop 13,(B6.out.alloc O6.out.1 _).trans hb9⟩⟩
           ·have hq:(yt==1)=false:=by simp [hyt]
            go_wp2_with fail
            go_roundg (wn - (j+1))
            case measure=>omega
            case rel=>exact ⟨j+1,a8,c8,p,by omega,by omega,by go_num,rfl,⟨by rw [HTK.out,List.filter_append,List.length_append,← HPJ.out];simp [hyt],by rw [HTK.out,List.filter_append];simpa [hyt] using O6.out.drop 13,B6.out⟩⟩
          ·obtain rfl:j=wn:=by omega
           have HTF:=Box.mk (show ws.take j=ws from List.take_of_length_le (by rw [HWN.out];exact Nat.le_refl _))
           have O7:=HJ.out.2.1
           rw [HTF.out] at O7
           have O7:=Box.mk O7
           have B7:=Box.mk HJ.out.2.2
           have HLC:=Box.mk (show (cwOf ci).length=L+i from by rw [← HCI.out,← HFR.out.2];simp only [cwOf,List.length_map,List.length_append,List.length_take];omega)
           have HCC:=Box.mk (show cwOf ci++[ws]=cwOf cj from by rw [← HCI.out,← HCJ.out,HTW.out];simp [cwOf,idw])
           have hLb:L+i≤1000:=by have h1:=HD.out.b1;rw [HFR.out.2] at h1;omega
           have hw1:IntKind.i64.wrap ((L:Int)+1+(i:Int))=(L:Int)+1+(i:Int):=IntWalk.i64_in _ (by omega)
           have HADD:=Box.mk (fun (w':World) (hO:Own B w' (DkL2 gd gx gg bw bi bs all tick cj ci X' S'.cut hs' G' mw mi Z a0 c0 a1 c1 ha hc++[BlkP g3 72 [.int .i64 ((L:Int)+1),.slice (some ⟨ob,ooff,none⟩) f bc],RdP 1 (some ⟨ob,ooff,none⟩) f bc (intVals ((wt2.take f).map Wtx.tx))]++[RowP 90 4 a8 p c8 (recC WrP.enc (ws.filter fun y=>decide (y.table=1)))]))=>show Calls Tryz.prog 54 #[.slice a1 (verT (cwOf ci) 1).length c1,.int .i64 ((L:Int)+1+(i:Int)),.slice a8 p c8] w' (fun e w''=>Below w'.heap.size w' w''∧∃ (a:Option Addr) (c:Nat),e=.returned (.tuple #[.slice a (verT (cwOf cj) 1).length c,.int .i64 0])∧w''.ownsRow w'.heap.size 93 4 (.slice a (verT (cwOf cj) 1).length c) (verT (cwOf cj) 1).length (recC VerP.enc (verT (cwOf cj) 1))) from by
            have h1:=addT_any HWOK.out (t:=1) (com:=cwOf ci) (Rd.ofOwn (hO.row 3 rfl)) (Rd.ofOwn (hO.row 12 rfl)) (by rw [HLC.out];exact hLb)
            rw [HCC.out,show ((cwOf ci).length:Int)+1=(L:Int)+1+(i:Int) from by rw [HLC.out];omega] at h1
            exact h1)
           clear HJ
           go_upto_region 16 with fail
           have HS0:Own B wr.drew (DkL2 gd gx gg bw bi bs all tick cj ci X' S'.cut hs' G' mw mi Z a0 c0 a1 c1 ha hc++[BlkP g3 72 [.int .i64 ((L:Int)+1),.slice (some ⟨ob,ooff,none⟩) f bc],RdP 1 (some ⟨ob,ooff,none⟩) f bc (intVals ((wt2.take f).map Wtx.tx))]++[RowP 90 4 a8 p c8 (recC WrP.enc (ws.filter fun y=>decide (y.table=1)))])∧Below B w wr.drew:=⟨O7.out.drew,B7.out.drew⟩
           clear O7 B7
           refine wp_region_held_drew (S:=fun w'=>(Own B w' (DkL2 gd gx gg bw bi bs all tick cj ci X' S'.cut hs' G' mw mi Z a0 c0 a1 c1 ha hc++[BlkP g3 72 [.int .i64 ((L:Int)+1),.slice (some ⟨ob,ooff,none⟩) f bc],RdP 1 (some ⟨ob,ooff,none⟩) f bc (intVals ((wt2.take f).map Wtx.tx))]++[RowP 90 4 a8 p c8 (recC WrP.enc (ws.filter fun y=>decide (y.table=1)))])∧Below B w w')) (by kernel_rfl) HS0 (fun _=>?_)
           generalize wr.drew=wd3 at *
           refine tw 0 rfl HS0 ?_
           conv=>arg 8;simp [go_sem]
           refine tw 1 rfl HS0 ?_
           conv=>arg 8;simp [go_sem]
           refine tw 2 rfl HS0 ?_
           conv=>arg 8;simp [go_sem]
           refine tw 3 rfl HS0 ?_
           conv=>arg 8;simp [go_sem]
           refine tw 4 rfl HS0 ?_
           conv=>arg 8;simp [go_sem]
           refine tv 5 rfl (fun w' hS=>by have e:w'.cell? ⟨gd,3,none⟩=some (.slice a1 (verT (cwOf ci) 1).length c1):=(hS.1.blk 1 rfl).1.cellOf (i:=3) rfl;go_simp;all_goals with_reducible rfl) HS0 ?_
           conv=>arg 8;simp [go_sem]
           refine tw 6 rfl HS0 ?_
           conv=>arg 8;simp [go_sem]
           refine tv 7 rfl (fun w' hS=>by have e:w'.cell? ⟨g3,0,none⟩=some (.int .i64 ((L:Int)+1)):=(hS.1.blk 10 rfl).1.cellOf (i:=0) rfl;go_simp;all_goals with_reducible rfl) HS0 ?_
           conv=>arg 8;simp [go_sem]
           refine tw 8 rfl HS0 ?_
           conv=>arg 8;simp [go_sem]
           refine tk 9 (v:=.int .i64 ((L:Int)+1+(i:Int))) rfl (yieldsIf_val (by rfl) (fun w' hS=>by go_simp)) (HS0) ?_
           conv=>arg 8;simp [go_sem]
           refine tw 10 rfl HS0 ?_
           conv=>arg 8;simp [go_sem]
           refine ar 11 rfl fun K' hK'=>?_
           refine oper_call (by rfl) 54 [.tmp 73,.tmp 77,.tmp 78] #[32,3,80] rfl (vs:=[.slice a1 (verT (cwOf ci) 1).length c1,.int .i64 ((L:Int)+1+(i:Int)),.slice a8 p c8]) rfl Tryz.func54 nm_add bd_add (HADD.out _ HS0.1) ?_
           rintro e w9 ⟨hb,a9,c9,rfl,hrow⟩
           have HFA:=Box.mk (And.intro (HS0.1.newRow hb hrow (Nat.le_refl _)) (HS0.2.trans (hb.mono HS0.1.1)))
           clear hrow
           have HT17:=And.intro (HS0.1.below hb) (HS0.2.trans (hb.mono HS0.1.1))
           refine ⟨_,rfl,hK'.out _ _ HT17 (fun _=>?_)⟩
           clear hK' K'
           conv=>arg 8;simp [go_sem]
           refine tw 12 rfl HT17 ?_
           conv=>arg 8;simp [go_sem]
           refine tw 13 rfl HT17 ?_
           conv=>arg 8;simp [go_sem]
           refine tw 14 rfl HT17 ?_
           conv=>arg 8;simp [go_sem]
           refine tw 15 rfl HT17 ?_
           conv=>arg 8;simp [go_sem]
           refine tw 16 rfl HT17 ?_
           conv=>arg 8;simp [go_sem]
           refine ⟨by kernel_rfl,?_⟩
           conv =>
            arg 5
            simp [go_sem]
           have HST:=Box.mk (HFA.out.1.setRow 1 rfl (splice (dkC gx gg ⟨a0,(verT (cwOf cj) 0).length,c0⟩ ⟨a1,(verT (cwOf ci) 1).length,c1⟩ bw bi all tick ⟨ha,hs'.length,hc⟩ bs) 3 [.slice a9 (verT (cwOf cj) 1).length c9]))
           go_wp2_with ((with_reducible show wpList _ _ _ _ _ _);refine wpList_store_part rfl 32 (.tmp 89) (.tmp 86) rfl rfl (size:=1) (off:=3) (by kernel_rfl) (HFA.out.1.blk 1 rfl).1 (by simp [dkC]) rfl (cs:=[.slice a9 (verT (cwOf cj) 1).length c9]) rfl rfl (by simp [Value.oneCell']) ?_)
           have HNW:=Box.mk ((((HST.out.1.drop 12).front 12 rfl).drop 4).back (i:=3) (l:=_) rfl)
           go_roundg (2 - (1+1))
           case measure=>omega
           case rel=>exact ⟨1+1,by omega,by omega,by go_num,⟨a0,c0,a9,c9,by rw [HCI.out,HCJ.out];exact HNW.out,HFA.out.2.trans HST.out.2⟩⟩
       ·obtain rfl:t=2:=by omega
        obtain ⟨a0,c0,a1,c1,hO5,hB5⟩:=HT.out
        have HF5:=Box.mk (And.intro hO5 hB5)
        have hLb:L+i≤1000:=by have h1:=HD.out.b1;rw [HFR.out.2] at h1;omega
        clear hO5 hB5 HT
        go_wp2_with fail
        go_roundg (f - (i+1))
        case measure=>omega
        case rel=>exact ⟨i+1,by omega,by omega,by go_num,⟨a0,c0,a1,c1,HF5.out.1,HF5.out.2⟩⟩
     ·obtain rfl:i=f:=by omega
      obtain ⟨a0,c0,a1,c1,hO4,hB4⟩:=HJ.out
      obtain ⟨cf,hcf⟩:∃cf,cm++(wt2.take i).map idw=cf:=⟨_,rfl⟩
      rw [hcf] at hO4
      have HCF:=Box.mk hcf
      have O4:=Box.mk hO4
      have B4:=Box.mk hB4
      clear hcf hO4 hB4 HJ
      have y1:wr.cell? ⟨gd,1,none⟩=some (.pointer (some ⟨gg,0,none⟩)):=(O4.out.blk 1 rfl).1.cellOf (i:=1) rfl
      have HDN:=Box.mk (done_cut O4.out 5 rfl (by rw [HD.out.stamp,HFR.out.2]) HFR.out.1 HD.out.q)
      go_wp2_with fail
      refine HDN.out.mono ?_
      rintro e w5 ⟨pa,pc,rfl,hO5,hb5⟩
      have O5:=Box.mk hO5
      have B5:=Box.mk (B4.out.trans hb5)
      clear hO5 hb5 O4 B4 y1 HDN
      have hRL:(Gr.repVals ((L:Int)+1) ((wt2.take i).map Wtx.tx) i)=recC (fun j:Nat=>[.int .i64 (((wt2.take i).map Wtx.tx).getD j 0),.int .i64 ((L:Int)+1+j)]) (List.range i):=rfl
      have hib:L+i≤1000:=by have h1:=HD.out.b1;have h2:=HFW.out;rw [HFR.out.2] at h1;omega
      have HRL:=Box.mk hRL
      clear hRL
      go_wp2_with fail
      go_loopg [98] i (fun gj s98 wq=>∃j:Nat,j≤i∧i - j≤gj∧s98=.int .i64 j∧Box (∃ha hc,Own B wq (DkL gd gx gg bw bi bs all tick cf X' S'.cut.done (hs'++repsL wt2 L j) G' mw mi Z a0 c0 a1 c1 ha hc++[BlkP g3 72 [.int .i64 ((L:Int)+1),.slice ba i bc],RdP 1 ba i bc (intVals ((wt2.take i).map Wtx.tx))]++[RowP 129 2 pa i pc (Gr.repVals ((L:Int)+1) ((wt2.take i).map Wtx.tx) i)])∧Below B w wq))
      case atStart=>exact ⟨0,Nat.zero_le _,by omega,rfl,⟨ha,hc,by simpa [repsL] using O5.out,B5.out⟩⟩
      clear O5 B5
      case round =>
       obtain ⟨j,hj,hgj,rfl,HR⟩:=hrel
       by_cases hji:j<i
       ·obtain ⟨ha,hc,hO6,hB6⟩:=HR.out
        have hrd:=Rd.ofOwn (hO6.row 12 rfl)
        rw [HRL.out] at hrd
        obtain ⟨ob2,ooff2,hpa,_,hcl⟩:=hrd.recAt (fun _=>rfl) (by omega) j hji
        have hrg:(List.range i).getD j default=j:=by rw [List.getD_eq_getElem?_getD,List.getElem?_range hji];rfl
        rw [hrg] at hcl
        have hjl2:j<wt2.length:=by have:=HFW.out;omega
        have hxo:((wt2.take i).map Wtx.tx).getD j 0=(wt2.getD j default).tx:=by
         rw [List.getD_eq_getElem?_getD,List.getElem?_map,List.getElem?_take_of_lt hji,List.getElem?_eq_getElem hjl2,List.getD_eq_getElem?_getD,List.getElem?_eq_getElem hjl2];rfl
        rw [hxo] at hcl
        have d0:=hcl 0 _ rfl
        have d1:=hcl 1 _ rfl
        simp only [Nat.add_zero] at d0 d1
        have hxm:wt2.getD j default∈wt2:=getD_mem hjl2
        have HXJ:=Box.mk (And.intro (HD.out.mp _ hxm).2.1 (HD.out.mp _ hxm).2.2)
        obtain ⟨hj,hhj⟩:∃hj,hs'++repsL wt2 L j=hj:=⟨_,rfl⟩
        have HNX:=Box.mk (show hs'++repsL wt2 L (j+1)=hj++[⟨2,(wt2.getD j default).id,(L:Int)+1+j,none,0,[],none,0,[]⟩] from by rw [repsL_succ,← List.append_assoc,hhj,show (L:Int)+j+1=(L:Int)+1+j from by omega])
        have HHL:=Box.mk (show hj.length≤1000 from by rw [← hhj,List.length_append,repsL_len];have:=HD.out.b2;omega)
        rw [hhj] at hO6
        obtain ⟨tj,htj⟩:∃tj,(wt2.getD j default).tx=tj:=⟨_,rfl⟩
        obtain ⟨ij,hij⟩:∃ij,(wt2.getD j default).id=ij:=⟨_,rfl⟩
        rw [htj,hij] at HXJ
        rw [hij] at HNX
        rw [htj] at d0
        have O6:=Box.mk (hO6.new [.int .i64 tj,.int .i64 ((L:Int)+1+j)] 129)
        have B6:=Box.mk (hB6.alloc hO6.1 (.cells #[.int .i64 tj,.int .i64 ((L:Int)+1+j)] 129))
        clear hO6 hB6 HR hrd hcl hrg hxo hxm hhj htj hij
        subst hpa
        go_upto_region 25 with fail
        clear d0 d1
        generalize wr.heap.size=gr at *
        generalize (wr.alloc (.cells #[.int .i64 tj,.int .i64 ((L:Int)+1+j)] 129))=w6 at *
        have HF0:=Box.mk (And.intro O6.out.drew B6.out.drew)
        have HS0:(∃hv:Sl,Own B w6.drew [BlkP gd 36 (dkC gx gg ⟨a0,(verT (cwOf cf) 0).length,c0⟩ ⟨a1,(verT (cwOf cf) 1).length,c1⟩ bw bi all tick hv bs),IntO bi mi,BlkP gr 129 [.int .i64 tj,.int .i64 ((L:Int)+1+j)]])∧Below B w w6.drew:=⟨⟨⟨ha,hj.length,hc⟩,(((((((((((HF0.out.1.drop 12).drop 11).drop 10).drop 9).drop 8).drop 6).drop 5).drop 4).drop 3).drop 2).drop 0)⟩,HF0.out.2⟩
        clear O6 B6
        refine wp_region_held_drew (S:=fun w'=>((∃hv:Sl,Own B w' [BlkP gd 36 (dkC gx gg ⟨a0,(verT (cwOf cf) 0).length,c0⟩ ⟨a1,(verT (cwOf cf) 1).length,c1⟩ bw bi all tick hv bs),IntO bi mi,BlkP gr 129 [.int .i64 tj,.int .i64 ((L:Int)+1+j)]])∧Below B w w')) (by kernel_rfl) HS0 (fun _=>?_)
        generalize w6.drew=wd6 at *
        refine tw 0 rfl HS0 ?_
        conv=>arg 8;simp [go_sem]
        refine tw 1 rfl HS0 ?_
        conv=>arg 8;simp [go_sem]
        refine tw 2 rfl HS0 ?_
        conv=>arg 8;simp [go_sem]
        refine tw 3 rfl HS0 ?_
        conv=>arg 8;simp [go_sem]
        refine tw 5 rfl HS0 ?_
        conv=>arg 8;simp [go_sem]
        refine tw 6 rfl HS0 ?_
        conv=>arg 8;simp [go_sem]
        refine tw 7 rfl HS0 ?_
        conv=>arg 8;simp [go_sem]
        refine tv 8 rfl (fun w' hS=>by obtain ⟨⟨hv,hO⟩,_⟩:=hS;have e:w'.cell? ⟨gd,5,none⟩=some (.map (some bi)):=(hO.blk 0 rfl).1.cellOf (i:=5) rfl;clear hO;go_simp;all_goals with_reducible rfl) HS0 ?_
        conv=>arg 8;simp [go_sem]
        refine tw 9 rfl HS0 ?_
        conv=>arg 8;simp [go_sem]
        refine tv 10 rfl (fun w' hS=>by obtain ⟨⟨hv,hO⟩,_⟩:=hS;have e:w'.cell? ⟨gr,0,none⟩=some (.int .i64 tj):=(hO.blk 2 rfl).1.cellOf (i:=0) rfl;clear hO;go_simp;all_goals with_reducible rfl) HS0 ?_
        conv=>arg 8;simp [go_sem]
        refine tv 11 rfl (fun w' hS=>by obtain ⟨⟨hv,hO⟩,_⟩:=hS;have hl:=(hO.map 1 rfl).1.look (t:=30) (e:=3) K_int kI_inj und_mii z_int (keyI HXJ.out.2);rw [HXJ.out.1] at hl;simp only [kI,Option.map_some,Option.getD_some] at hl;clear hO;go_simp;all_goals with_reducible rfl) HS0 ?_
        conv=>arg 8;simp [go_sem]
        refine tw 12 rfl HS0 ?_
        conv=>arg 8;simp [go_sem]
        refine tv 13 rfl (fun w' hS=>by obtain ⟨⟨hv,hO⟩,_⟩:=hS;have e:w'.cell? ⟨gr,1,none⟩=some (.int .i64 ((L:Int)+1+j)):=(hO.blk 2 rfl).1.cellOf (i:=1) rfl;clear hO;go_simp;all_goals with_reducible rfl) HS0 ?_
        conv=>arg 8;simp [go_sem]
        refine tw 14 rfl HS0 ?_
        conv=>arg 8;simp [go_sem]
        refine wpAnyH_ready (rs:=[4,15]) (by kernel_rfl) (by simp) ?_
        refine AllReadyH.cons rfl (fun K' hK'=>?_) (AllReadyH.cons rfl (fun K' hK'=>?_) AllReadyH.nil)
        ·refine oper_load1 (by rfl) 34 (.tmp 105) rfl (by kernel_rfl) rfl (v:=.slice ha hj.length hc) ((HF0.out.1.blk 1 rfl).1.cellOf (i:=8) rfl) ?_
         have HT18:=HS0
         refine hK'.out _ _ HT18 (fun _=>?_)
         clear hK' K'
         conv=>arg 8;simp [go_sem]
         refine ar 15 rfl fun K' hK'=>?_
         refine oper_litA (by rfl) 34 (.tmp 116) rfl sl_hp (cs:=[.int .i64 2,.int .i64 ij,.int .i64 ((L:Int)+1+j),.slice none 0 0,.slice none 0 0]) rfl rfl (by omega) (by omega) ?_
         have HF19:=Box.mk (And.intro (HF0.out.1.alloc (.cells #[.int .i64 2,.int .i64 ij,.int .i64 ((L:Int)+1+j),.slice none 0 0,.slice none 0 0] 84)) (HF0.out.2.alloc HF0.out.1.1 (.cells #[.int .i64 2,.int .i64 ij,.int .i64 ((L:Int)+1+j),.slice none 0 0,.slice none 0 0] 84)))
         have HT20:=(show ((∃hv:Sl,Own B _ [BlkP gd 36 (dkC gx gg ⟨a0,(verT (cwOf cf) 0).length,c0⟩ ⟨a1,(verT (cwOf cf) 1).length,c1⟩ bw bi all tick hv bs),IntO bi mi,BlkP gr 129 [.int .i64 tj,.int .i64 ((L:Int)+1+j)]])∧Below B w _) from let ⟨⟨hv,h1⟩,h2⟩:=HT18;⟨⟨hv,h1.alloc (.cells #[.int .i64 2,.int .i64 ij,.int .i64 ((L:Int)+1+j),.slice none 0 0,.slice none 0 0] 84)⟩,h2.alloc h1.1 (.cells #[.int .i64 2,.int .i64 ij,.int .i64 ((L:Int)+1+j),.slice none 0 0,.slice none 0 0] 84)⟩)
         refine hK'.out _ _ HT20 (fun _=>?_)
         clear hK' K'
         conv=>arg 8;simp [go_sem]
         refine ar 16 rfl fun K' hK'=>?_
         refine oper_append_O (by rfl) (.tmp 106) (.tmp 117) 34 34 rfl sl_hp (.inl sl_hp.ht) HF19.out.1 4 rfl rfl rfl (Src.lone _ [.int .i64 2,.int .i64 ij,.int .i64 ((L:Int)+1+j),.slice none 0 0,.slice none 0 0] _ rfl (by simp [Value.oneCell'])) (by have:=HHL.out;omega) (by have:=HHL.out;unfold maxLen;omega) ?_
         intro a9 c9 w9 hO9 hb9
         have O9:=Box.mk (And.intro hO9 (HF19.out.2.trans hb9))
         clear hO9 hb9
         have HT21:=(show ((∃hv:Sl,Own B w9 [BlkP gd 36 (dkC gx gg ⟨a0,(verT (cwOf cf) 0).length,c0⟩ ⟨a1,(verT (cwOf cf) 1).length,c1⟩ bw bi all tick hv bs),IntO bi mi,BlkP gr 129 [.int .i64 tj,.int .i64 ((L:Int)+1+j)]])∧Below B w w9) from ⟨⟨⟨ha,hj.length,hc⟩,(((((((((((O9.out.1.drop 12).drop 11).drop 10).drop 9).drop 8).drop 6).drop 5).drop 4).drop 3).drop 2).drop 0)⟩,O9.out.2⟩)
         refine hK'.out _ _ HT21 (fun _=>?_)
         clear hK' K'
         conv=>arg 8;simp [go_sem]
         refine tw 17 rfl HT21 ?_
         conv=>arg 8;simp [go_sem]
         refine tw 18 rfl HT21 ?_
         conv=>arg 8;simp [go_sem]
         refine ar 19 rfl fun K' hK'=>?_
         have HF9:=Box.mk (O9.out.1.setRow 1 rfl (splice (dkC gx gg ⟨a0,(verT (cwOf cf) 0).length,c0⟩ ⟨a1,(verT (cwOf cf) 1).length,c1⟩ bw bi all tick ⟨ha,hj.length,hc⟩ bs) 8 [.slice a9 (hj.length+1) c9]))
         refine oper_store_part (by rfl) 34 (.tmp 120) (.tmp 118) rfl rfl (size:=1) (off:=8) (by kernel_rfl) (O9.out.1.blk 1 rfl).1 (by simp [dkC]) rfl (cs:=[.slice a9 (hj.length+1) c9]) rfl rfl (by simp [Value.oneCell']) ?_
         have HT22:=(show ((∃hv:Sl,Own B _ [BlkP gd 36 (dkC gx gg ⟨a0,(verT (cwOf cf) 0).length,c0⟩ ⟨a1,(verT (cwOf cf) 1).length,c1⟩ bw bi all tick hv bs),IntO bi mi,BlkP gr 129 [.int .i64 tj,.int .i64 ((L:Int)+1+j)]])∧Below B w _) from ⟨⟨⟨a9,hj.length+1,c9⟩,(((((((((((HF9.out.1.drop 12).drop 11).drop 10).drop 9).drop 8).drop 6).drop 5).drop 4).drop 3).drop 2).drop 0)⟩,O9.out.2.trans HF9.out.2⟩)
         refine hK'.out _ _ HT22 (fun _=>?_)
         clear hK' K'
         conv=>arg 8;simp [go_sem]
         refine ⟨by kernel_rfl,?_⟩
         conv =>
          arg 5
          simp [go_sem]
         have HNW:=Box.mk (HF9.out.1.drop 13)
         go_wp2_with fail
         go_roundg (i - (j+1))
         case measure=>omega
         case rel=>exact ⟨j+1,by omega,by omega,by go_num,⟨a9,c9,by rw [HNX.out];simp only [DkL,DkL2,List.length_append,recC_append];exact HNW.out,O9.out.2.trans HF9.out.2⟩⟩
        ·refine oper_litA (by rfl) 34 (.tmp 116) rfl sl_hp (cs:=[.int .i64 2,.int .i64 ij,.int .i64 ((L:Int)+1+j),.slice none 0 0,.slice none 0 0]) rfl rfl (by omega) (by omega) ?_
         have HF23:=Box.mk (And.intro (HF0.out.1.alloc (.cells #[.int .i64 2,.int .i64 ij,.int .i64 ((L:Int)+1+j),.slice none 0 0,.slice none 0 0] 84)) (HF0.out.2.alloc HF0.out.1.1 (.cells #[.int .i64 2,.int .i64 ij,.int .i64 ((L:Int)+1+j),.slice none 0 0,.slice none 0 0] 84)))
         have HT24:=(show ((∃hv:Sl,Own B _ [BlkP gd 36 (dkC gx gg ⟨a0,(verT (cwOf cf) 0).length,c0⟩ ⟨a1,(verT (cwOf cf) 1).length,c1⟩ bw bi all tick hv bs),IntO bi mi,BlkP gr 129 [.int .i64 tj,.int .i64 ((L:Int)+1+j)]])∧Below B w _) from let ⟨⟨hv,h1⟩,h2⟩:=HS0;⟨⟨hv,h1.alloc (.cells #[.int .i64 2,.int .i64 ij,.int .i64 ((L:Int)+1+j),.slice none 0 0,.slice none 0 0] 84)⟩,h2.alloc h1.1 (.cells #[.int .i64 2,.int .i64 ij,.int .i64 ((L:Int)+1+j),.slice none 0 0,.slice none 0 0] 84)⟩)
         refine hK'.out _ _ HT24 (fun _=>?_)
         clear hK' K'
         conv=>arg 8;simp [go_sem]
         refine ar 4 rfl fun K' hK'=>?_
         refine oper_load1 (by rfl) 34 (.tmp 105) rfl (by kernel_rfl) rfl (v:=.slice ha hj.length hc) ((HF23.out.1.blk 1 rfl).1.cellOf (i:=8) rfl) ?_
         have HT25:=HT24
         refine hK'.out _ _ HT25 (fun _=>?_)
         clear hK' K'
         conv=>arg 8;simp [go_sem]
         refine ar 16 rfl fun K' hK'=>?_
         refine oper_append_O (by rfl) (.tmp 106) (.tmp 117) 34 34 rfl sl_hp (.inl sl_hp.ht) HF23.out.1 4 rfl rfl rfl (Src.lone _ [.int .i64 2,.int .i64 ij,.int .i64 ((L:Int)+1+j),.slice none 0 0,.slice none 0 0] _ rfl (by simp [Value.oneCell'])) (by have:=HHL.out;omega) (by have:=HHL.out;unfold maxLen;omega) ?_
         intro a9 c9 w9 hO9 hb9
         have O9:=Box.mk (And.intro hO9 (HF23.out.2.trans hb9))
         clear hO9 hb9
         have HT26:=(show ((∃hv:Sl,Own B w9 [BlkP gd 36 (dkC gx gg ⟨a0,(verT (cwOf cf) 0).length,c0⟩ ⟨a1,(verT (cwOf cf) 1).length,c1⟩ bw bi all tick hv bs),IntO bi mi,BlkP gr 129 [.int .i64 tj,.int .i64 ((L:Int)+1+j)]])∧Below B w w9) from ⟨⟨⟨ha,hj.length,hc⟩,(((((((((((O9.out.1.drop 12).drop 11).drop 10).drop 9).drop 8).drop 6).drop 5).drop 4).drop 3).drop 2).drop 0)⟩,O9.out.2⟩)
         refine hK'.out _ _ HT26 (fun _=>?_)
         clear hK' K'
         conv=>arg 8;simp [go_sem]
         refine tw 17 rfl HT26 ?_
         conv=>arg 8;simp [go_sem]
         refine tw 18 rfl HT26 ?_
         conv=>arg 8;simp [go_sem]
         refine ar 19 rfl fun K' hK'=>?_
         have HF9:=Box.mk (O9.out.1.setRow 1 rfl (splice (dkC gx gg ⟨a0,(verT (cwOf cf) 0).length,c0⟩ ⟨a1,(verT (cwOf cf) 1).length,c1⟩ bw bi all tick ⟨ha,hj.length,hc⟩ bs) 8 [.slice a9 (hj.length+1) c9]))
         refine oper_store_part (by rfl) 34 (.tmp 120) (.tmp 118) rfl rfl (size:=1) (off:=8) (by kernel_rfl) (O9.out.1.blk 1 rfl).1 (by simp [dkC]) rfl (cs:=[.slice a9 (hj.length+1) c9]) rfl rfl (by simp [Value.oneCell']) ?_
         have HT27:=(show ((∃hv:Sl,Own B _ [BlkP gd 36 (dkC gx gg ⟨a0,(verT (cwOf cf) 0).length,c0⟩ ⟨a1,(verT (cwOf cf) 1).length,c1⟩ bw bi all tick hv bs),IntO bi mi,BlkP gr 129 [.int .i64 tj,.int .i64 ((L:Int)+1+j)]])∧Below B w _) from ⟨⟨⟨a9,hj.length+1,c9⟩,(((((((((((HF9.out.1.drop 12).drop 11).drop 10).drop 9).drop 8).drop 6).drop 5).drop 4).drop 3).drop 2).drop 0)⟩,O9.out.2.trans HF9.out.2⟩)
         refine hK'.out _ _ HT27 (fun _=>?_)
         clear hK' K'
         conv=>arg 8;simp [go_sem]
         refine ⟨by kernel_rfl,?_⟩
         conv =>
          arg 5
          simp [go_sem]
         have HNW:=Box.mk (HF9.out.1.drop 13)
         go_wp2_with fail
         go_roundg (i - (j+1))
         case measure=>omega
         case rel=>exact ⟨j+1,by omega,by omega,by go_num,⟨a9,c9,by rw [HNX.out];simp only [DkL,DkL2,List.length_append,recC_append];exact HNW.out,O9.out.2.trans HF9.out.2⟩⟩
       ·obtain rfl:j=i:=by omega
        obtain ⟨ha,hc,hO6,hB6⟩:=HR.out
        obtain ⟨hj,hhj⟩:∃hj,hs'++repsL wt2 L j=hj:=⟨_,rfl⟩
        have HHJ:=Box.mk hhj
        rw [hhj] at hO6
        have O6:=Box.mk hO6
        have B6:=Box.mk hB6
        clear hO6 hB6 HR hhj
        have hw1:IntKind.i64.wrap ((L:Int)+1+(j:Int))=(L:Int)+1+(j:Int):=IntWalk.i64_in _ (by omega)
        have hw2:IntKind.i64.wrap ((L:Int)+1+(j:Int) - 1)=(L:Int)+(j:Int):=by rw [IntWalk.i64_in _ (by omega)];omega
        go_upto_region 27 with fail
        have HF0:=Box.mk (And.intro O6.out.drew B6.out.drew)
        have HS0:Own B wr.drew [BlkP gd 36 (dkC gx gg ⟨a0,(verT (cwOf cf) 0).length,c0⟩ ⟨a1,(verT (cwOf cf) 1).length,c1⟩ bw bi all tick ⟨ha,hj.length,hc⟩ bs),BlkP g3 72 [.int .i64 ((L:Int)+1),.slice ba j bc]]∧Below B w wr.drew:=⟨(((((((((((HF0.out.1.drop 12).drop 11).drop 9).drop 8).drop 7).drop 6).drop 5).drop 4).drop 3).drop 2).drop 0),HF0.out.2⟩
        clear O6 B6
        refine wp_region_held_drew (S:=fun w'=>(Own B w' [BlkP gd 36 (dkC gx gg ⟨a0,(verT (cwOf cf) 0).length,c0⟩ ⟨a1,(verT (cwOf cf) 1).length,c1⟩ bw bi all tick ⟨ha,hj.length,hc⟩ bs),BlkP g3 72 [.int .i64 ((L:Int)+1),.slice ba j bc]]∧Below B w w')) (by kernel_rfl) HS0 (fun _=>?_)
        generalize wr.drew=wd7 at *
        refine tw 0 rfl HS0 ?_
        conv=>arg 8;simp [go_sem]
        refine tw 1 rfl HS0 ?_
        conv=>arg 8;simp [go_sem]
        refine tw 2 rfl HS0 ?_
        conv=>arg 8;simp [go_sem]
        refine tv 3 rfl (fun w' hS=>by have e:w'.cell? ⟨gd,0,none⟩=some (.pointer (some ⟨gx,0,none⟩)):=(hS.1.blk 0 rfl).1.cellOf (i:=0) rfl;go_simp;all_goals with_reducible rfl) HS0 ?_
        conv=>arg 8;simp [go_sem]
        refine tw 4 rfl HS0 ?_
        conv=>arg 8;simp [go_sem]
        refine tv 5 rfl (fun w' hS=>by have e:w'.cell? ⟨g3,0,none⟩=some (.int .i64 ((L:Int)+1)):=(hS.1.blk 1 rfl).1.cellOf (i:=0) rfl;go_simp;all_goals with_reducible rfl) HS0 ?_
        conv=>arg 8;simp [go_sem]
        refine tw 6 rfl HS0 ?_
        conv=>arg 8;simp [go_sem]
        refine tv 7 rfl (fun w' hS=>by have e:w'.cell? ⟨g3,1,none⟩=some (.slice ba j bc):=(hS.1.blk 1 rfl).1.cellOf (i:=1) rfl;go_simp;all_goals with_reducible rfl) HS0 ?_
        conv=>arg 8;simp [go_sem]
        refine tw 8 rfl HS0 ?_
        conv=>arg 8;simp [go_sem]
        refine tk 9 (v:=.int .i64 ((L:Int)+1+(j:Int))) rfl (yieldsIf_val (by rfl) (fun w' hS=>by go_simp)) (HS0) ?_
        conv=>arg 8;simp [go_sem]
        refine tk 10 (v:=.int .i64 ((L:Int)+(j:Int))) rfl (yieldsIf_val (by rfl) (fun w' hS=>by go_simp)) (HS0) ?_
        conv=>arg 8;simp [go_sem]
        refine ar 11 rfl fun K' hK'=>?_
        refine oper_call (by rfl) 56 [.tmp 125,.tmp 132] #[25,3] rfl (vs:=[.pointer (some ⟨gx,0,none⟩),.int .i64 ((L:Int)+(j:Int))]) rfl Tryz.func56 nm_pub bd_pub (publish_any (show Own B _ (TxsO gx X'::_) from HF0.out.1) HD.out.txok (by rw [HD.out.shown,HFR.out.2];omega) (by rw [HD.out.last,HFR.out.2];have:=HFW.out;omega)) ?_
        rintro e w9 ⟨rfl,hb,kq,qa,qc,hkq1,hkq2,hO9⟩
        have O9:=Box.mk (And.intro hO9 (HF0.out.2.trans hb))
        have HKQ:=Box.mk (And.intro hkq1 hkq2)
        clear hO9 hkq1 hkq2
        have HT28:=(show (Own B _ [BlkP gd 36 (dkC gx gg ⟨a0,(verT (cwOf cf) 0).length,c0⟩ ⟨a1,(verT (cwOf cf) 1).length,c1⟩ bw bi all tick ⟨ha,hj.length,hc⟩ bs),BlkP g3 72 [.int .i64 ((L:Int)+1),.slice ba j bc]]∧Below B w _) from And.intro (((((((((((O9.out.1.drop 12).drop 11).drop 9).drop 8).drop 7).drop 6).drop 5).drop 4).drop 3).drop 2).drop 0) O9.out.2)
        refine ⟨_,rfl,hK'.out _ _ HT28 (fun _=>?_)⟩
        clear hK' K'
        conv=>arg 8;simp [go_sem]
        refine tw 12 rfl HT28 ?_
        conv=>arg 8;simp [go_sem]
        refine ⟨by kernel_rfl,?_⟩
        conv =>
         arg 5
         simp [go_sem]
        go_wp2_with fail
        have hcl:(cwOf cf).length=L+j:=by rw [← HCF.out,← HFR.out.2];simp only [cwOf,List.length_map,List.length_append,List.length_take];have:=HFW.out;omega
        have hcf:(cwOf cf).length=cf.length:=List.length_map _
        have hL2:=HD.out.b1
        have hH2:=HD.out.b2
        have hjl:hj.length=hs'.length+j:=by rw [← HHJ.out,List.length_append,repsL_len]
        have hwl:=HFW.out
        refine (see_dk (com:=cwOf cf) (X:=((X'.show_ ((L:Int)+(j:Int))).less kq qa qc)) (t0:=⟨a0,(verT (cwOf cf) 0).length,c0⟩) (t1:=⟨a1,(verT (cwOf cf) 1).length,c1⟩) (sh:=⟨ha,hj.length,hc⟩) (hs:=hj) O9.out.1 (by show (L:Int)+(j:Int)=_;omega) (by omega) (by show hj.length≤1000;omega)).mono ?_
        rintro e w9 ⟨rfl,hb9,a9,c9,ra,rc,hO9⟩
        rw [hcf] at hO9
        have hO10:=Own.seeEnd hO9
        have HB9:=Box.mk (O9.out.2.trans hb9)
        have HO10:=Box.mk hO10
        have hfp:=front_pos HOK.out HDUE.out
        rw [HFR.out.1] at hfp
        have hkl:=HKG.out
        have HAR:=Box.mk (show j≤wt2.length∧1≤j∧L≤100∧hs'.length+2 * wt2.length≤350∧hj.length=hs'.length+j from ⟨hwl,hfp,by have:=HFR.out.2;omega,hH2,hjl⟩)
        clear hO9 hO10 hb9 hcl hcf hL2 hH2 hjl hwl hfp hkl
        go_wp2_with fail
        go_roundg (wt.drop (k+j)).length
        case measure =>
         have h1:=HAR.out.1
         have h2:=HAR.out.2.1
         have h3:=HKG.out
         rw [← HWT.out,List.length_drop] at h1
         rw [List.length_drop] at h3 ⊢
         omega
        case rel =>
         have e1:com++(m++(wt2.take j).map idw)=cf:=by rw [← List.append_assoc,HCM.out,HCF.out]
         have e2:wt.drop (k+j)=wt2.drop j:=by rw [← HWT.out,List.drop_drop]
         have hb:=HD.out.batch (k:=j) HFR.out.1 HAR.out.1 (X':=((X'.show_ ((L:Int)+(j:Int))).less kq qa qc)) ((HD.out.txok.show_ _).sub (List.Sublist.refl _) (less_all _ _ _ _)) (by rw [HFR.out.2];rfl) rfl
         rw [HCF.out,HFR.out.2,HHJ.out] at hb
         have hq1:=HD.out.shown
         have hq2:=HD.out.last
         rw [HFR.out.2] at hq1 hq2
         refine ⟨m++(wt2.take j).map idw,k+j,((X'.show_ ((L:Int)+(j:Int))).less kq qa qc),S'.cut.done,hj++[⟨5,0,cf.length,none,0,[],ra,rc,rowsH (cwOf cf) cf.length⟩],⟨ra,(rowsH (cwOf cf) cf.length).length,rc,4,recC HdP.enc (rowsH (cwOf cf) cf.length)⟩::G',a0,c0,a1,c1,a9,c9,Nat.le_refl _,HB9.out,?_,?_,?_,HI.out.2.2.1,HI.out.2.2.2.1,?_,fun r hr=>List.mem_cons_of_mem _ (HI.out.2.2.2.2.2 r hr)⟩
         ·rw [e1]
          simp only [DkL,DkL2,List.length_append,List.length_singleton]
          exact HO10.out
         ·rw [e1,e2]
          refine hb.see ra rc ?_
          have h:=HAR.out
          rw [List.length_drop]
          omega
         ·refine HQ.out X' _ _ _ _ HI.out.2.1 ?_ ?_ HKQ.out.1 HKQ.out.2
          ·omega
          ·have:=HAR.out.1;omega
         ·have h:=HAR.out
          have h1:=HI.out.2.2.2.2.1
          rw [e2,List.length_drop,List.length_append,List.length_singleton]
          rw [HWT.out] at h1
          omega
end
end Go.Proofs.YtlfghapllmaigaaGreatDoor
