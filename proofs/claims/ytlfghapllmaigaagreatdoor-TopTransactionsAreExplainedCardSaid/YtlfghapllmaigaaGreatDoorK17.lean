/-
  The walk of forget; The walks of Publish and Abort; The walk of Begin. Conditions: each theorem's own hypotheses.
-/
import Derived.Test.YtlfghapllmaigaaGreatDoorK16
set_option linter.unusedVariables false
set_option linter.unusedSimpArgs false
namespace Go.Proofs.YtlfghapllmaigaaGreatDoor
section
open Go.RowKit Go.Maps
def TxP.less (X:TxP) (k:Int) (a:Option Addr) (c:Nat):TxP:={ X with kept:=X.kept.filter fun t=>!gone k t,ka:=a,kc:=c }
def RetForget (B g:Nat) (X:TxP) (l:List HP) (w:World) (e:Ending) (w':World):Prop:=e=.returned (.tuple #[])∧Below B w w'∧∃ (k:Int) (a:Option Addr) (c:Nat),k≤X.shown∧(∀q∈X.act,k≤q.2.snap)∧Own B w' (TxsO g (X.less k a c)::l)
def RetForgetR (B g:Nat) (X:TxP) (l:List HP) (w:World) (e:Ending) (w':World):Prop:=e=.returned (.tuple #[])∧Below B w w'∧∃ (k:Int) (a:Option Addr) (c:Nat),k≤X.shown∧(∀q∈X.act,k≤q.2.snap) ∧
 Own B w' ([BlkP g 68 (X.less k a c).cs,RowP 95 1 a (X.kept.filter fun t=>!gone k t).length c ((X.kept.filter fun t=>!gone k t).map ptrT),MapO Tryz.prog 3 kI pV X.ba X.am]++(X.kept.map TnO++((X.act.map (·.2)).map TnO++l)))
theorem Own.dropL {B:Nat} {w:World}:∀ {m l:List HP},Own B w (m++l)→Own B w l
 | [],l,O=>O
 | P::m,l,O=>Own.dropL (m:=m) (O.drop 0)
theorem Own.less {B:Nat} {w:World} {p:TnP→Bool} {l:List HP}:∀ {kept:List TnP} {m:List HP},Own B w (m++(kept.map TnO++l))→Own B w (m++((kept.filter p).map TnO++l))
 | [],m,O=>O
 | t::kept,m,O=>by
  simp only [List.map_cons,List.cons_append] at O
  have O2:Own B w ((m++[TnO t])++(kept.map TnO++l)):=by rw [List.append_assoc];exact O
  have O3:=Own.less (p:=p) (kept:=kept) O2
  by_cases h:p t=true
  ·rw [List.filter_cons,if_pos h]
   rw [List.append_assoc] at O3
   simpa using O3
  ·rw [List.filter_cons,if_neg h]
   rw [List.append_assoc] at O3
   have O4:=O3.drop m.length
   rw [List.eraseIdx_append_of_length_le (Nat.le_refl _),Nat.sub_self] at O4
   simpa using O4
theorem act_inj {X:TxP} (ok:TxOk X) {p q:Int×TnP} (hp:p∈X.act) (hq:q∈X.act) (h:p.1=q.1):p=q:=by
 have h1:=ok.asc
 rw [List.pairwise_map] at h1
 obtain ⟨i,hi,rfl⟩:=List.mem_iff_getElem.1 hp
 obtain ⟨j,hj,rfl⟩:=List.mem_iff_getElem.1 hq
 rcases Nat.lt_trichotomy i j with hij | hij | hij
 ·have:=List.pairwise_iff_getElem.1 h1 i j hi hj hij;omega
 ·subst hij;rfl
 ·have:=List.pairwise_iff_getElem.1 h1 j i hj hi hij;omega
theorem min_le {a b:Int}:min a b≤a∧min a b≤b:=⟨Int.min_le_left _ _,Int.min_le_right _ _⟩
set_option maxRecDepth 20000 in
set_option maxHeartbeats 1200000 in
theorem forget_raw {B g:Nat} {X:TxP} {w:World} {l:List HP} (O:Own B w (TxsO g X::l)) (ok:TxOk X):Calls Tryz.prog 92 #[.pointer (some ⟨g,0,none⟩)] w (RetForgetR B g X l w):=by
 have OK:=Box.mk ok
 have hal:=ok.len
 have hkl:X.kept.length≤100:=by unfold TxP.all at hal;rw [List.length_append] at hal;omega
 have hO:Own B w (TxsL g X++l):=O.open_ (TxsL.stb g X)
 obtain ⟨R,hR⟩:∃R,X.all.map TnO++l=R:=⟨_,rfl⟩
 have HT:=Box.mk (fun (W:World) (m:List HP) (O:Own B W (m++R)) (t:TnP) (ht:t∈X.all)=>O.tn (t:=t) (by rw [← hR];simp only [List.mem_append,List.mem_map];exact .inr (.inl ⟨t,ht,rfl⟩)))
 have HRR:=Box.mk hR
 have O1:=Box.mk (show Own B w (BlkP g 68 X.cs::RowP 95 1 X.ka X.kept.length X.kc (X.kept.map ptrT)::MapO Tryz.prog 3 kI pV X.ba X.am::R) from by rw [← hR];exact hO)
 clear O ok hO hR hal
 obtain ⟨kn,hkn⟩:∃n,X.kept.length=n:=⟨_,rfl⟩
 have HKN:=Box.mk hkn
 have hml:X.am.length=X.act.length:=by unfold TxP.am;rw [List.length_map]
 obtain ⟨o,hrg,hO2,hB2⟩:=O1.out.rangeM und_act 2 rfl
 have O2:=Box.mk (show Own B (w.alloc o) (BlkP g 68 X.cs::RowP 95 1 X.ka X.kept.length X.kc (X.kept.map ptrT)::MapRO Tryz.prog 3 kI pV X.ba w.heap.size X.am []::R) from hO2)
 have B2:=Box.mk hB2
 obtain ⟨x0,x1,x2,x3,x4⟩:=TxP.cells (O1.out.blk 0 rfl).1
 clear hO2 hB2 x0 x2
 rw [hkn] at x3 O2 hkl
 clear hkn
 go_enter Tryz.func92,Tryz.ntmps92
 go_wp2_with fail
 clear hrg x1 x3 x4 O1
 generalize (w.alloc o)=w2 at *
 generalize w.heap.size=gr at *
 go_loopg [2,4] X.am.length (fun gg s2 _ wr=>∃ (m:Int) (E:List (Int×Nat)),s2=.int .i64 m∧leftA X.am (E.map (·.1))≤gg ∧
  Box (Own B wr (BlkP g 68 X.cs::RowP 95 1 X.ka kn X.kc (X.kept.map ptrT)::MapRO Tryz.prog 3 kI pV X.ba gr X.am (E.map (·.1))::R)∧Below B w wr∧m≤X.shown∧(∀q∈X.act,(q.1,q.2.p)∈E→m≤q.2.snap)∧Seen X.am E))
 case atStart=>exact ⟨X.shown,[],rfl,leftA_le _ _,⟨O2.out,B2.out,Int.le_refl _,by simp,Seen.start _⟩⟩
 clear O2 B2
 case round =>
  obtain ⟨m,E,rfl,hgE,HI⟩:=hrel
  obtain ⟨hO,hB,hm1,hm2,hS⟩:=HI.out
  have O:=Box.mk hO
  have B1:=Box.mk hB
  have HM:=Box.mk (And.intro hm1 (And.intro hm2 hS))
  clear HI hO hB hm1 hm2 hS
  rcases O.out.nextM kI_inj 2 rfl 0 with ⟨hall,hnx⟩ | ⟨x,v,w2,hxm,hxS,hnx,hO2,hb2,hbt,hen⟩
  ·have hE:=HM.out.2.2.all (O.out.mapR 2 rfl).map.nodup hall
   have HK:=Box.mk (show m≤X.shown∧(∀q∈X.act,m≤q.2.snap) from ⟨HM.out.1,fun q hq=>HM.out.2.1 q hq (hE.mem_iff.2 (List.mem_map.2 ⟨q,hq,rfl⟩))⟩)
   have O3:=Box.mk (show Own B wr (BlkP g 68 X.cs::RowP 95 1 X.ka kn X.kc (X.kept.map ptrT)::MapO Tryz.prog 3 kI pV X.ba X.am::R) from O.out.unrange 2 rfl)
   clear HM O hE
   go_upto_region 6 with fail
   clear hall hnx
   have O4:=Box.mk (O3.out.newF [.int .i64 m] 3)
   have B4:=Box.mk (B1.out.alloc O3.out.1 (.cells #[.int .i64 m] 3))
   clear O3 B1
   generalize (wr.alloc (.cells #[.int .i64 m] 3))=w4 at *
   generalize wr.heap.size=gz at *
   have x3:=(TxP.cells (O4.out.blk 1 rfl).1).2.2.2.1
   rw [HKN.out] at x3
   go_wp2_with fail
   clear x3
   go_loopg [7,33] kn (fun gg _ s33 wq=>∃i:Nat,i≤kn∧kn - i≤gg∧s33=.int .i64 i ∧
    Box (∃k,Own B wq (BlkP gz 3 [.int .i64 k]::BlkP g 68 X.cs::RowP 95 1 X.ka kn X.kc (X.kept.map ptrT)::MapO Tryz.prog 3 kI pV X.ba X.am::R)∧Below B w wq∧k≤m))
   case atStart=>exact ⟨0,Nat.zero_le _,by omega,rfl,⟨m,O4.out,B4.out,Int.le_refl _⟩⟩
   clear O4 B4
   case round =>
    obtain ⟨i,hi,hgi,rfl,HI⟩:=hrel
    obtain ⟨k,hO,hB,hkm⟩:=HI.out
    have O:=Box.mk hO
    have B1:=Box.mk hB
    clear HI hO hB
    by_cases hlt:i<kn
    ·obtain ⟨b,off,ha,hc⟩:=ptAt (Rd.ofOwn (O.out.row 2 rfl)) i hlt
     obtain ⟨t,ht⟩:∃t,X.kept.getD i default=t:=⟨_,rfl⟩
     rw [ht] at hc
     have htm:t∈X.all:=List.mem_append.2 (.inl (by rw [← ht];exact getD_mem (by rw [HKN.out];exact hlt)))
     have HC:=Box.mk (fun (W:World) (m:List HP) (O:Own B W (m++R))=>TnP.cells (HT.out W m O t htm).blk)
     obtain ⟨y0,y1,y2,y3,y4,y5,y6⟩:=HC.out wr [_,_,_,_] O.out
     rw [ha]
     unfold ptrT pV at hc
     clear y0 y1 y2 y4 y5 y6 ht htm
     by_cases hst:t.stamp > m
     ·go_upto_region 10 with fail
      clear hc y3
      have HF0:=Box.mk (show Own B wr.drew (BlkP gz 3 [.int .i64 k]::BlkP g 68 X.cs::RowP 95 1 X.ka kn X.kc (X.kept.map ptrT)::MapO Tryz.prog 3 kI pV X.ba X.am::R)∧Below B w wr.drew from ⟨O.out.drew,B1.out.drew⟩)
      have HS0:Own B wr.drew (BlkP g 68 X.cs::RowP 95 1 X.ka kn X.kc (X.kept.map ptrT)::MapO Tryz.prog 3 kI pV X.ba X.am::R)∧Below B w wr.drew:=⟨HF0.out.1.drop 0,HF0.out.2⟩
      clear O B1
      refine wp_region_held_drew (S:=fun w'=>(Own B w' (BlkP g 68 X.cs::RowP 95 1 X.ka kn X.kc (X.kept.map ptrT)::MapO Tryz.prog 3 kI pV X.ba X.am::R)∧Below B w w')) (by kernel_rfl) HS0 (fun _=>?_)
      generalize wr.drew=wd at *
      refine tw 1 rfl HS0 ?_
      conv=>arg 8;simp [go_sem]
      refine tw 2 rfl HS0 ?_
      conv=>arg 8;simp [go_sem]
      refine tw 3 rfl HS0 ?_
      conv=>arg 8;simp [go_sem]
      refine tv 4 rfl (fun w' hS=>by obtain ⟨y0,y1,y2,y3,y4,y5,y6⟩:=HC.out w' [_,_,_] hS.1;clear y0 y2 y3 y4 y5 y6;go_simp;all_goals with_reducible rfl) HS0 ?_
      conv=>arg 8;simp [go_sem]
      refine wpAnyH_ready (rs:=[0]) (by kernel_rfl) (by simp) (AllReadyH.cons rfl (fun K' hK'=>oper_load1 (by rfl) 3 (.tmp 5) rfl (by kernel_rfl) rfl ((HF0.out.1.blk 0 rfl).1.cellOf (i:=0) rfl) ?_) AllReadyH.nil)
      have HT1:=HS0
      refine hK'.out _ _ HT1 (fun _=>?_)
      clear hK' K'
      conv=>arg 8;simp [go_sem]
      refine tw 5 rfl HT1 ?_
      conv=>arg 8;simp [go_sem]
      have HF9:=Box.mk (HF0.out.1.setRow 0 rfl [.int .i64 (min k t.snap)])
      refine wpAnyH_ready (rs:=[6]) (by kernel_rfl) (by simp) (AllReadyH.cons rfl (fun K' hK'=>oper_store_row (by rfl) 3 (.tmp 5) (.tmp 48) rfl rfl (by kernel_rfl) (HF0.out.1.blk 0 rfl).1 rfl rfl (cs:=[.int .i64 (min k t.snap)]) rfl rfl (by simp [Value.oneCell']) ?_) AllReadyH.nil)
      have HT2:=(show (Own _ _ _∧Below _ _ _) from And.intro (HF9.out.1.drop 0) (HF0.out.2.trans HF9.out.2))
      refine hK'.out _ _ HT2 (fun _=>?_)
      clear hK' K'
      conv=>arg 8;simp [go_sem]
      refine ⟨by kernel_rfl,?_⟩
      conv =>
       arg 5
       simp [go_sem]
      go_wp2_with fail
      rw [← ha]
      go_roundg (kn - (i+1))
      case measure=>omega
      case rel=>exact ⟨i+1,by omega,by omega,by go_num,⟨_,HF9.out.1,HF0.out.2.trans HF9.out.2,Int.le_trans min_le.1 hkm⟩⟩
     ·go_wp2_with fail
      rw [← ha]
      go_roundg (kn - (i+1))
      case measure=>omega
      case rel=>exact ⟨i+1,by omega,by omega,by go_num,⟨_,O.out,B1.out,hkm⟩⟩
    ·have hin:i=kn:=by omega
     have O5:=Box.mk (show Own B wr (RowP 95 1 X.ka X.kept.length X.kc (X.kept.map ptrT)::BlkP gz 3 [.int .i64 k]::BlkP g 68 X.cs::MapO Tryz.prog 3 kI pV X.ba X.am::R) from by rw [HKN.out];exact O.out.front 2 rfl)
     have x3:=(TxP.cells (O5.out.blk 2 rfl).1).2.2.2.1
     have HD:=Box.mk (pxDel forgetF_enters (lb:=#[.pointer (some ⟨gz,0,none⟩)]) (p:=gone k) O5.out (by rw [HKN.out];omega) (fun W a' n' c' xs' OW hbW x hx=>forgetF_any (HT.out W [_,_,_,_] OW x (List.mem_append.2 (.inl hx))) ((OW.blk 1 rfl).1.cellOf (i:=0) rfl)))
     rw [HKN.out] at x3 HD
     clear O O5
     go_wp2_with fail
     refine HD.out.mono ?_
     rintro e w6 ⟨a6,c6,rfl,hO6,hb6⟩
     have O6:=Box.mk hO6
     have B6:=Box.mk (B1.out.trans hb6)
     clear hO6 hb6 HD x3 B1
     have HF7:=Box.mk (O6.out.setRow 2 rfl (splice X.cs 3 [.slice a6 (X.kept.filter fun t=>!gone k t).length c6]))
     go_wp2_with ((with_reducible show wpList _ _ _ _ _ _);refine wpList_store_part rfl 66 (.tmp 58) (.tmp 56) rfl rfl (size:=1) (off:=3) (by kernel_rfl) (O6.out.blk 2 rfl).1 (by simp [TxP.cs]) rfl (cs:=[.slice a6 (X.kept.filter fun t=>!gone k t).length c6]) rfl rfl (by simp [Value.oneCell']) ?_)
     generalize (w6.setRow g _)=w7 at *
     go_end0
     refine ⟨rfl,B6.out.trans HF7.out.2,k,a6,c6,Int.le_trans hkm HK.out.1,fun q hq=>Int.le_trans hkm (HK.out.2 q hq),?_⟩
     have h1:=(HF7.out.1.drop 1).front 1 rfl
     have h3:=HRR.out
     unfold TxP.all at h3
     rw [List.map_append,List.append_assoc] at h3
     rw [h3]
     exact h1
  ·have hm:∃q∈X.act,(q.1,q.2.p)=(x,v):=List.mem_map.1 hxm
   obtain ⟨q,hq,hqe⟩:=hm
   simp only [Prod.mk.injEq] at hqe
   obtain ⟨hq1,hq2⟩:=hqe
   obtain ⟨hS2,_⟩:=HM.out.2.2.step hxm hxS
   have hl2:leftA X.am (x::E.map (·.1))<leftA X.am (E.map (·.1)):=leftA_lt (l:=X.am) (S:=E.map (·.1)) (mem_keysA_of hxm) hxS
   have O3:=Box.mk (show Own B w2 (BlkP g 68 X.cs::RowP 95 1 X.ka kn X.kc (X.kept.map ptrT)::MapRO Tryz.prog 3 kI pV X.ba gr X.am (x::E.map (·.1))::R) from hO2)
   have B3:=Box.mk (B1.out.trans hb2)
   have htn:=HT.out w2 [_,_,_] O3.out q.2 (List.mem_append.2 (.inr (List.mem_map.2 ⟨q,hq,rfl⟩)))
   obtain ⟨y0,y1,y2,y3,y4,y5,y6⟩:=TnP.cells htn.blk
   rw [hq2] at y1
   have HE:=Box.mk (show min m q.2.snap≤X.shown∧(∀q'∈X.act,(q'.1,q'.2.p)∈(x,v)::E→min m q.2.snap≤q'.2.snap) from ⟨Int.le_trans min_le.1 HM.out.1,fun q' hq' h=>by
    rcases List.mem_cons.1 h with h | h
    ·simp only [Prod.mk.injEq] at h
     have hnd:=OK.out.asc
     have e:q'=q:=act_inj OK.out hq' hq (h.1.trans hq1.symm)
     rw [e];exact min_le.2
    ·exact Int.le_trans min_le.1 (HM.out.2.1 q' hq' h)⟩)
   have HS2:=Box.mk hS2
   clear hO2 hb2 hbt htn y0 y2 y3 y4 y5 y6 hq hq1 HM hS2 O B1
   simp only [kI,pV] at hnx hen
   go_wp2_with fail
   go_roundg (leftA X.am (x::E.map (·.1)))
   case measure=>omega
   case rel=>exact ⟨min m q.2.snap,(x,v)::E,rfl,Nat.le_refl _,⟨O3.out,B3.out,HE.out.1,HE.out.2,HS2.out⟩⟩
theorem less_shut {B g:Nat} {X:TxP} {l:List HP} {w:World} {k:Int} {a:Option Addr} {c:Nat} (h:Own B w ([BlkP g 68 (X.less k a c).cs,RowP 95 1 a (X.kept.filter fun t=>!gone k t).length c ((X.kept.filter fun t=>!gone k t).map ptrT),MapO Tryz.prog 3 kI pV X.ba X.am]++(X.kept.map TnO++((X.act.map (·.2)).map TnO++l)))):Own B w (TxsO g (X.less k a c)::l):=by
 refine Own.shut (m:=TxsL g (X.less k a c)) ?_
 have h3:=Own.less (p:=fun t=>!gone k t) h
 unfold TxsL TxP.all
 rw [List.map_append]
 simp only [List.cons_append,List.append_assoc]
 exact h3
theorem forget_any {B g:Nat} {X:TxP} {w:World} {l:List HP} (O:Own B w (TxsO g X::l)) (ok:TxOk X):Calls Tryz.prog 92 #[.pointer (some ⟨g,0,none⟩)] w (RetForget B g X l w):=by
 refine (forget_raw O ok).mono ?_
 rintro e w' ⟨h1,h2,k,a,c,h3,h4,h5⟩
 exact ⟨h1,h2,k,a,c,h3,h4,less_shut h5⟩
end
section
open Go.RowKit Go.Maps
def RetF (v:Value) (B g:Nat) (X:TxP) (l:List HP) (w:World) (e:Ending) (w':World):Prop:=e=.returned v∧Below B w w'∧∃ (k:Int) (a:Option Addr) (c:Nat),k≤X.shown∧(∀q∈X.act,k≤q.2.snap)∧Own B w' (TxsO g (X.less k a c)::l)
theorem Own.lessG {α:Type} {f:α→HP} {B:Nat} {w:World} {p:α→Bool} {l:List HP}:∀ {kept:List α} {m:List HP},Own B w (m++(kept.map f++l))→Own B w (m++((kept.filter p).map f++l))
 | [],m,O=>O
 | t::kept,m,O=>by
  simp only [List.map_cons,List.cons_append] at O
  have O2:Own B w ((m++[f t])++(kept.map f++l)):=by rw [List.append_assoc];exact O
  have O3:=Own.lessG (p:=p) (kept:=kept) O2
  by_cases h:p t=true
  ·rw [List.filter_cons,if_pos h]
   rw [List.append_assoc] at O3
   simpa using O3
  ·rw [List.filter_cons,if_neg h]
   rw [List.append_assoc] at O3
   have O4:=O3.drop m.length
   rw [List.eraseIdx_append_of_length_le (Nat.le_refl _),Nat.sub_self] at O4
   simpa using O4
def TxP.show_ (X:TxP) (s:Int):TxP:={ X with shown:=s }
theorem TxOk.show_ {X:TxP} (ok:TxOk X) (s:Int):TxOk (X.show_ s):=⟨ok.asc,ok.i64,ok.tn,ok.nd,ok.len⟩
set_option maxRecDepth 20000 in
set_option maxHeartbeats 1000000 in
theorem publish_any {B g:Nat} {X:TxP} {w:World} {l:List HP} (O:Own B w (TxsO g X::l)) (ok:TxOk X) {s:Int} (h1:X.shown≤s) (h2:s≤X.last) :
  Calls Tryz.prog 56 #[.pointer (some ⟨g,0,none⟩),.int .i64 s] w (RetF (.int .i64 0) B g (X.show_ s) l w):=by
 have O1:=Box.mk (show Own B w (BlkP g 68 X.cs::RowP 95 1 X.ka X.kept.length X.kc (X.kept.map ptrT)::MapO Tryz.prog 3 kI pV X.ba X.am::(X.all.map TnO++l)) from O.open_ (TxsL.stb g X))
 obtain ⟨x0,x1,x2,x3,x4⟩:=TxP.cells (O1.out.blk 0 rfl).1
 have HF7:=Box.mk (O1.out.setRow 0 rfl (splice X.cs 1 [.int .i64 s]))
 have OK:=Box.mk (ok.show_ s)
 clear O x2 x3 x4 ok
 go_enter Tryz.func56,Tryz.ntmps56
 go_wp2_with ((with_reducible show wpList _ _ _ _ _ _);refine wpList_store_part rfl 3 (.tmp 22) (.tmp 20) rfl rfl (size:=1) (off:=1) (by kernel_rfl) (O1.out.blk 0 rfl).1 (by simp [TxP.cs]) rfl (cs:=[.int .i64 s]) rfl rfl (by simp [Value.oneCell']) ?_)
 generalize (w.setRow g _)=w2 at *
 have O2:Own B w2 (TxsO g (X.show_ s)::l):=Own.shut (m:=TxsL g (X.show_ s)) HF7.out.1
 refine (forget_any O2 OK.out).mono ?_
 rintro e w3 ⟨rfl,hb3,hk⟩
 have H3:=Box.mk (And.intro hb3 hk)
 clear hb3 hk
 go_wp2_with fail
 go_ret
 exact ⟨rfl,HF7.out.2.trans H3.out.1,H3.out.2⟩
def TxP.drop (X:TxP) (n:Int):TxP:={ X with act:=X.act.filter fun q=>!decide (q.1=n) }
theorem TxP.drop_all (X:TxP) (n:Int):List.Sublist (X.drop n).all X.all:=by
 unfold TxP.all TxP.drop
 exact (List.Sublist.refl _).append (List.filter_sublist.map _)
theorem TxOk.drop {X:TxP} (ok:TxOk X) (n:Int):TxOk (X.drop n) :=
 ⟨ok.asc.sublist (List.filter_sublist.map _),fun q hq=>ok.i64 q (List.mem_filter.1 hq).1,fun t ht=>ok.tn t ((X.drop_all n).subset ht),ok.nd.sublist ((X.drop_all n).map _),Nat.le_trans (X.drop_all n).length_le ok.len⟩
theorem delA_act (n:Int):∀l:List (Int×TnP),(l.map (·.1)).Pairwise (·<·)→delA (l.map fun q=>(q.1,q.2.p)) n=(l.filter fun q=>!decide (q.1=n)).map fun q=>(q.1,q.2.p)
 | [],_=>rfl
 | (k,t)::l,hp=>by
  simp only [List.map_cons,List.pairwise_cons] at hp
  have ih:=delA_act n l hp.2
  by_cases h:k=n
  ·subst h
   have hf:(l.filter fun q=>!decide (q.1=k))=l:=by
    rw [List.filter_eq_self]
    intro q hq
    have:=hp.1 q.1 (List.mem_map.2 ⟨q,hq,rfl⟩)
    simp;omega
   simp [delA,hf]
  ·rw [List.filter_cons,if_pos (by simp [h]),List.map_cons,List.map_cons,← ih]
   simp [delA,h]
set_option maxRecDepth 20000 in
set_option maxHeartbeats 1000000 in
theorem abort_any {B g:Nat} {X:TxP} {w:World} {l:List HP} (O:Own B w (TxsO g X::l)) (ok:TxOk X) {n:Int} (hn:In64 n) {t:TnP} (hf:X.find n=some t) :
  Calls Tryz.prog 34 #[.pointer (some ⟨g,0,none⟩),.int .i64 n] w (RetF (.int .i64 0) B g (X.drop n) l w):=by
 have HG:=Box.mk (get_any O.txs hn)
 rw [hf] at HG
 simp only [optV,errE,pV] at HG
 have O1:=Box.mk (show Own B w (BlkP g 68 X.cs::RowP 95 1 X.ka X.kept.length X.kc (X.kept.map ptrT)::MapO Tryz.prog 3 kI pV X.ba X.am::(X.all.map TnO++l)) from O.open_ (TxsL.stb g X))
 have OK:=Box.mk (ok.drop n)
 have hasc:=ok.asc
 clear O ok hf
 go_enter Tryz.func34,Tryz.ntmps34
 go_wp2_with fail
 refine HG.out.mono ?_
 rintro e w1 ⟨rfl,hb⟩
 have O2:=Box.mk (O1.out.below hb)
 have B2:=Box.mk (hb.mono O1.out.1)
 obtain ⟨x0,x1,x2,x3,x4⟩:=TxP.cells (O2.out.blk 0 rfl).1
 clear hb HG O1 x0 x1 x2 x3
 obtain ⟨w3,hrun,hO3,hb3,_⟩:=O2.out.delMap K_int kI_inj und_act 2 rfl (keyI hn) 0
 rw [show delA X.am n=(X.drop n).am from delA_act n X.act hasc] at hO3
 have B3:=Box.mk (B2.out.trans hb3)
 have O3:=Box.mk (show Own B w3 ([BlkP g 68 X.cs,RowP 95 1 X.ka X.kept.length X.kc (X.kept.map ptrT),MapO Tryz.prog 3 kI pV X.ba (X.drop n).am]++(X.all.map TnO++l)) from hO3)
 clear hO3 hb3 O2 B2
 simp only [kI] at hrun
 go_wp2_with fail
 have O4:Own B w3 (TxsO g (X.drop n)::l):=by
  refine Own.shut (m:=TxsL g (X.drop n)) ?_
  have h1:=O3.out
  unfold TxP.all at h1
  rw [List.map_append,List.map_map,List.append_assoc,← List.append_assoc] at h1
  have h2:=Own.lessG (p:=fun q=>!decide (q.1=n)) h1
  unfold TxsL TxP.all
  rw [List.map_append,List.map_map]
  simp only [List.cons_append,List.append_assoc,List.nil_append] at h2 ⊢
  exact h2
 refine (forget_any O4 OK.out).mono ?_
 rintro e w5 ⟨rfl,hb5,hk⟩
 have H5:=Box.mk (And.intro hb5 hk)
 clear hb5 hk
 go_wp2_with fail
 go_ret
 exact ⟨rfl,B3.out.trans H5.out.1,H5.out.2⟩
set_option maxRecDepth 20000 in
set_option maxHeartbeats 1000000 in
theorem abort_no {B g:Nat} {X:TxP} {w:World} {l:List HP} (O:Own B w (TxsO g X::l)) {n:Int} (hn:In64 n) (hf:X.find n=none) :
  Calls Tryz.prog 34 #[.pointer (some ⟨g,0,none⟩),.int .i64 n] w (RetW (.int .i64 273) B (TxsO g X::l) w):=by
 have HG:=Box.mk (get_any O.txs hn)
 have HO:=Box.mk O
 rw [hf] at HG
 simp only [optV,errE,pV] at HG
 clear hf O
 go_enter Tryz.func34,Tryz.ntmps34
 go_wp2_with fail
 refine HG.out.mono ?_
 rintro e w1 ⟨rfl,hb⟩
 go_wp2_with fail
 go_ret
 exact ⟨rfl,HO.out.below hb,hb.mono HO.out.1⟩
end
section
open Go.RowKit Go.Maps
theorem oper_makeMap {P:Program} {w:World} {ops:Array Oper} {o:Oper} {a:Act} {K:Act→World→Prop} {Q:Exit→Act→World→Prop} (hgd:Region.wanted o (yielded ops a.tmps)=true) (t:TypeId) (ho:o.op=.makeMap t none)
  (h:K (a.put o.dst (.map (some w.heap.size))) (w.alloc (.map #[] 0))):if Region.wanted o (yielded ops a.tmps)=true then Oper.wp P o a w K Q else K (a.put o.dst undef) w:=by
 rw [if_pos hgd]
 unfold Oper.wp execOp
 simp only [ho,Option.map_none,Sem.run_bind,run_makeMap,Result.andThen_ok,Sem.run_pure]
 exact h
theorem oper_box {P:Program} {w:World} {ops:Array Oper} {o:Oper} {a:Act} {K:Act→World→Prop} {Q:Exit→Act→World→Prop} (hgd:Region.wanted o (yielded ops a.tmps)=true) (t:TypeId) (x:Operand) (ho:o.op=.box t x) {cs:Array Value} (hx:(a.eval x).cells=cs)
  (h:K (a.put o.dst (.pointer (some ⟨w.heap.size,0,none⟩))) (w.alloc (.cells cs t))):if Region.wanted o (yielded ops a.tmps)=true then Oper.wp P o a w K Q else K (a.put o.dst undef) w:=by
 rw [if_pos hgd]
 subst hx
 unfold Oper.wp execOp
 simp [ho,Instr.box,newVar,newRow]
 exact h
theorem oper_update {P:Program} {w w':World} {ops:Array Oper} {o:Oper} {a:Act} {K:Act→World→Prop} {Q:Exit→Act→World→Prop} (hgd:Region.wanted o (yielded ops a.tmps)=true) (t:TypeId) (m k x:Operand) (ho:o.op=.mapUpdate t m k x) (hdst:o.dst=none)
  (hrun:(Instr.mapUpdate t (a.eval m) (a.eval k) (a.eval x)).run P w=.ok () w') (h:K a w'):if Region.wanted o (yielded ops a.tmps)=true then Oper.wp P o a w K Q else K (a.put o.dst undef) w:=by
 rw [if_pos hgd]
 unfold Oper.wp execOp
 simp only [ho,Sem.run_bind,hrun,Result.andThen_ok,Sem.run_pure]
 have hp:a.put o.dst undef=a:=by rw [hdst];rfl
 show K (a.put o.dst undef) _
 rw [hp]
 exact h
def freshT (p:Nat) (mode snap:Int) (br bw:Nat):TnP:=⟨p,mode,snap,false,0,none,0,[],br,[],bw⟩
def TxP.tick (X:TxP):TxP:={ X with begun:=X.begun+1 }
def TxP.add (X:TxP) (t:TnP):TxP:={ X with begun:=X.begun+1,act:=X.act++[(X.begun+1,t)] }
theorem TxP.add_all (X:TxP) (t:TnP):(X.add t).all=X.all++[t]:=by unfold TxP.all TxP.add;simp
theorem TxOk.add {X:TxP} (ok:TxOk X) {t:TnP} (hb:∀q∈X.act,q.1≤X.begun) (h64:In64 (X.begun+1)) (ht:TnOk t) (hp:∀s∈X.all,s.p≠t.p) (hl:X.all.length<100):TxOk (X.add t):=by
 refine ⟨?_,fun q hq=>?_,fun s hs=>?_,?_,?_⟩
 ·unfold TxP.add
  simp only [List.map_append,List.map_cons,List.map_nil]
  rw [List.pairwise_append]
  refine ⟨ok.asc,List.pairwise_singleton _ _,fun a ha b hb2=>?_⟩
  obtain ⟨q,hq,rfl⟩:=List.mem_map.1 ha
  have:=hb q hq
  simp at hb2;omega
 ·rcases List.mem_append.1 hq with h | h
  ·exact ok.i64 q h
  ·simp at h;rw [h];exact h64
 ·rw [X.add_all] at hs
  rcases List.mem_append.1 hs with h | h
  ·exact ok.tn s h
  ·simp at h;rw [h];exact ht
 ·rw [X.add_all,List.map_append,List.nodup_append]
  refine ⟨ok.nd,by simp,fun a ha b hb2=>?_⟩
  obtain ⟨s,hs,rfl⟩:=List.mem_map.1 ha
  simp at hb2;rw [hb2];exact hp s hs
 ·rw [X.add_all,List.length_append];simp;omega
theorem am_add {X:TxP} {p br bw:Nat} {mode snap:Int} (hb:∀q∈X.act,q.1≤X.begun):putA X.am (X.begun+1) p=(X.add (freshT p mode snap br bw)).am:=by
 rw [putA_new (fun h=>by
  rw [keysA_am] at h
  obtain ⟨q,hq,e⟩:=List.mem_map.1 h
  have:=hb q hq;omega)]
 unfold TxP.am TxP.add;simp [freshT]
theorem gather {B:Nat} {w:World} {L:List HP} {a b c d:HP} (O:Own B w (((L++[a])++[b])++[c]++[d])):Own B w (Seps [c,d,a,b]::L):=by
 refine Own.shut (m:=[c,d,a,b]) (O.perm ?_)
 simp only [List.append_assoc]
 exact (List.perm_append_comm).trans (List.Perm.append_right L (List.perm_append_comm (l₁:=[a,b]) (l₂:=[c,d])))
theorem gather2 {B:Nat} {w:World} {L:List HP} {a b c d:HP} (O:Own B w (((L++[b])++[a])++[c]++[d])):Own B w (Seps [c,d,a,b]::L):=by
 refine Own.shut (m:=[c,d,a,b]) (O.perm ?_)
 simp only [List.append_assoc]
 exact (List.perm_append_comm).trans (List.Perm.append_right L ((List.perm_append_comm (l₁:=[b,a]) (l₂:=[c,d])).trans (List.Perm.append_left [c,d] (List.Perm.swap a b []))))
def RetBegin (mode:Int) (B g:Nat) (X:TxP) (l:List HP) (w:World) (e:Ending) (w':World):Prop:=e=.returned (.tuple #[.int .i64 (X.begun+1),.int .i64 0])∧Below B w w' ∧
 ∃ (p br bw:Nat) (k:Int) (a:Option Addr) (c:Nat),TxOk (X.add (freshT p mode X.shown br bw))∧k≤X.shown∧(∀q∈X.act,k≤q.2.snap)∧Own B w' (TxsO g ((X.add (freshT p mode X.shown br bw)).less k a c)::l)
theorem begin_end {mode:Int} {B g:Nat} {X:TxP} {l:List HP} {w:World} {p br bw:Nat} (O:Own B w (TnO (freshT p mode X.shown br bw)::BlkP g 68 X.tick.cs::RowP 95 1 X.ka X.kept.length X.kc (X.kept.map ptrT)::MapO Tryz.prog 3 kI pV X.ba (X.add (freshT p mode X.shown br bw)).am::(X.all.map TnO++l))):Own B w (TxsO g (X.add (freshT p mode X.shown br bw))::l):=by
 refine Own.shut (m:=TxsL g (X.add (freshT p mode X.shown br bw))) (O.perm ?_)
 unfold TxsL
 rw [X.add_all,List.map_append]
 simp only [List.cons_append,List.append_assoc,List.map_cons,List.map_nil,List.nil_append]
 refine (List.Perm.swap _ _ _).trans (List.Perm.cons _ ((List.Perm.swap _ _ _).trans (List.Perm.cons _ ((List.Perm.swap _ _ _).trans (List.Perm.cons _ ?_)))))
 exact List.perm_middle.symm
set_option maxRecDepth 20000 in
set_option maxHeartbeats 2000000 in
theorem begin_any {mode:Int} {B g:Nat} {X:TxP} {w:World} {l:List HP} (O:Own B w (TxsO g X::l)) (ok:TxOk X) (hm:0≤mode∧mode≤1) (hb:∀q∈X.act,q.1≤X.begun) (hb2:0≤X.begun∧X.begun≤1000000) (h1:X.act.length<16) (h2:X.all.length<40) :
  Calls Tryz.prog 27 #[.pointer (some ⟨g,0,none⟩),.int .i64 mode] w (RetBegin mode B g X l w):=by
 have O1:=Box.mk (show Own B w (BlkP g 68 X.cs::RowP 95 1 X.ka X.kept.length X.kc (X.kept.map ptrT)::MapO Tryz.prog 3 kI pV X.ba X.am::(X.all.map TnO++l)) from O.open_ (TxsL.stb g X))
 have OT:=Box.mk O.txs
 have OK:=Box.mk ok
 have HBG:=Box.mk (And.intro hb hb2)
 have HL:=Box.mk h2
 have hla:X.am.length=X.act.length:=by unfold TxP.am;rw [List.length_map]
 have hlk:X.kept.length+X.act.length<40:=by have:=h2;unfold TxP.all at this;rw [List.length_append,List.length_map] at this;exact this
 obtain ⟨x0,x1,x2,x3,x4⟩:=TxP.cells (O1.out.blk 0 rfl).1
 have hlen:=fun q ty=>((O1.out.map 2 rfl).1.eq (w':=w.drewN q) rfl).len und_act ty
 rw [hla] at hlen
 clear O ok hb h2
 obtain ⟨R,hR⟩:∃R,X.all.map TnO++l=R:=⟨_,rfl⟩
 rw [hR] at O1
 have HRR:=Box.mk hR
 obtain ⟨na,hna⟩:∃n,X.act.length=n:=⟨_,rfl⟩
 obtain ⟨nk,hnk⟩:∃n,X.kept.length=n:=⟨_,rfl⟩
 rw [hnk] at x3 hlk
 rw [hna] at hlen hlk h1
 have hx2:=x2
 clear hR hna hla x0 x1
 go_enter Tryz.func27,Tryz.ntmps27
 have hd1:decide ((16:Int)≤na)=false:=by simp;omega
 have hd2:decide ((40:Int)≤nk+na)=false:=by simp;omega
 go_upto_region 3 with fail
 go_quiet (fail)
 clear hlen x2 x3 x4 hx2 hd1 hd2 h1 hlk
 have O2:=Box.mk (O1.out.drewN nq)
 have B2:=Box.mk (below_drewN (Below.refl B w) nq)
 clear O1
 generalize (w.drewN nq)=w2 at *
 have x2:=(TxP.cells (O2.out.blk 0 rfl).1).2.2.1
 have hbg:=HBG.out.2
 have HF3:=Box.mk (O2.out.setRow 0 rfl (splice X.cs 2 [.int .i64 (X.begun+1)]))
 go_upto_region 6 with ((with_reducible show wpList _ _ _ _ _ _);refine wpList_store_part rfl 3 (.tmp 38) (.tmp 36) rfl rfl (size:=1) (off:=2) (by kernel_rfl) (O2.out.blk 0 rfl).1 (by simp [TxP.cs]) rfl (cs:=[.int .i64 (X.begun+1)]) rfl rfl (by simp [Value.oneCell']) ?_)
 generalize (w2.setRow g _)=w3 at *
 have B3:=Box.mk (B2.out.trans HF3.out.2)
 have HF0:=Box.mk (And.intro (show Own B w3.drew (BlkP g 68 X.tick.cs::RowP 95 1 X.ka X.kept.length X.kc (X.kept.map ptrT)::MapO Tryz.prog 3 kI pV X.ba X.am::R) from HF3.out.1.drew) B3.out.drew)
 have HS0:Own B w3.drew (BlkP g 68 X.tick.cs::RowP 95 1 X.ka X.kept.length X.kc (X.kept.map ptrT)::R)∧Below B w w3.drew:=⟨HF0.out.1.drop 2,HF0.out.2⟩
 have HSZ:=Box.mk (show w.heap.size≤w3.drew.heap.size from HF0.out.2.size)
 clear O2 B2 HF3 B3 x2
 refine wp_region_held_drew (S:=fun w'=>(Own B w' (BlkP g 68 X.tick.cs::RowP 95 1 X.ka X.kept.length X.kc (X.kept.map ptrT)::R)∧Below B w w')) (by kernel_rfl) HS0 (fun _=>?_)
 generalize w3.drew=wd at *
 refine tw 0 rfl HS0 ?_
 conv=>arg 8;simp [go_sem]
 refine tw 1 rfl HS0 ?_
 conv=>arg 8;simp [go_sem]
 refine tw 2 rfl HS0 ?_
 conv=>arg 8;simp [go_sem]
 refine tv 3 rfl (fun w' hS=>by have q:=(hS.1.blk 0 rfl).1.cellOf (i:=4) rfl;go_simp;all_goals with_reducible rfl) HS0 ?_
 conv=>arg 8;simp [go_sem]
 refine tw 4 rfl HS0 ?_
 conv=>arg 8;simp [go_sem]
 refine tw 5 rfl HS0 ?_
 conv=>arg 8;simp [go_sem]
 refine tw 6 rfl HS0 ?_
 conv=>arg 8;simp [go_sem]
 refine tv 7 rfl (fun w' hS=>by have q:=(hS.1.blk 0 rfl).1.cellOf (i:=2) rfl;go_simp;all_goals with_reducible rfl) HS0 ?_
 conv=>arg 8;simp [go_sem]
 refine tw 8 rfl HS0 ?_
 conv=>arg 8;simp [go_sem]
 refine tw 9 rfl HS0 ?_
 conv=>arg 8;simp [go_sem]
 refine tw 10 rfl HS0 ?_
 conv=>arg 8;simp [go_sem]
 refine tw 11 rfl HS0 ?_
 conv=>arg 8;simp [go_sem]
 refine tv 12 rfl (fun w' hS=>by have q:=(hS.1.blk 0 rfl).1.cellOf (i:=1) rfl;go_simp;all_goals with_reducible rfl) HS0 ?_
 conv=>arg 8;simp [go_sem]
 refine wpAnyH_ready (rs:=[13,14]) (by kernel_rfl) (by simp) ?_
 refine AllReadyH.cons rfl (fun K' hK'=>?_) (AllReadyH.cons rfl (fun K' hK'=>?_) AllReadyH.nil)
 ·refine oper_makeMap (by rfl) 97 rfl ?_
  have hz:=HF0.out.1.newMap (P:=Tryz.prog) (k:=104) (ek:=ekR) (ev:=Value.bool)
  have HM1:=Box.mk (And.intro hz (HF0.out.2.alloc HF0.out.1.1 (.map #[] 0)))
  clear hz
  have HT2:=And.intro (HS0.1.alloc (.map #[] 0)) (HS0.2.alloc HS0.1.1 (.map #[] 0))
  refine hK'.out _ _ HT2 (fun _=>?_)
  clear hK' K'
  conv=>arg 8;simp [go_sem]
  refine ar 14 rfl fun K' hK'=>?_
  refine oper_makeMap (by rfl) 98 rfl ?_
  have hz:=HM1.out.1.newMap (P:=Tryz.prog) (k:=3) (ek:=kI) (ev:=Value.bool)
  rw [show ((wd.alloc (.map #[] 0))).heap.size=wd.heap.size+1 from by simp] at hz
  have HM3:=Box.mk (And.intro hz (HM1.out.2.alloc HM1.out.1.1 (.map #[] 0)))
  clear hz
  have HT4:=And.intro (HT2.1.alloc (.map #[] 0)) (HT2.2.alloc HT2.1.1 (.map #[] 0))
  refine hK'.out _ _ HT4 (fun _=>?_)
  clear hK' K'
  conv=>arg 8;simp [go_sem]
  refine tw 15 rfl HT4 ?_
  conv=>arg 8;simp [go_sem]
  refine ar 16 rfl fun K' hK'=>?_
  refine oper_box (by rfl) 100 (.tmp 54) rfl (cs:=((freshT (wd.heap.size+2) mode X.shown wd.heap.size (wd.heap.size+1)).cs).toArray) rfl ?_
  have hz:=HM3.out.1.new ((freshT (wd.heap.size+2) mode X.shown wd.heap.size (wd.heap.size+1)).cs) 100
  rw [show (((wd.alloc (.map #[] 0)).alloc (.map #[] 0))).heap.size=wd.heap.size+2 from by simp] at hz
  have HM5:=Box.mk (And.intro hz (HM3.out.2.alloc HM3.out.1.1 (.cells ((freshT (wd.heap.size+2) mode X.shown wd.heap.size (wd.heap.size+1)).cs).toArray 100)))
  clear hz
  have HT6:=And.intro (HT4.1.alloc (.cells ((freshT (wd.heap.size+2) mode X.shown wd.heap.size (wd.heap.size+1)).cs).toArray 100)) (HT4.2.alloc HT4.1.1 (.cells ((freshT (wd.heap.size+2) mode X.shown wd.heap.size (wd.heap.size+1)).cs).toArray 100))
  refine hK'.out _ _ HT6 (fun _=>?_)
  clear hK' K'
  conv=>arg 8;simp [go_sem]
  refine ar 17 rfl fun K' hK'=>?_
  obtain ⟨w9,hrun,hO9,hb9,_⟩:=HM5.out.1.putMap K_int kI_inj und_act 2 rfl (keyI (show In64 (X.begun+1) from by have:=HBG.out.2;unfold In64;omega)) (wd.heap.size+2)
  rw [show putA X.am (X.begun+1) (wd.heap.size+2)=(X.add (freshT (wd.heap.size+2) mode X.shown wd.heap.size (wd.heap.size+1))).am from am_add HBG.out.1] at hO9
  have HO9:=Box.mk (And.intro (show Own B w9 ((((BlkP g 68 X.tick.cs::RowP 95 1 X.ka X.kept.length X.kc (X.kept.map ptrT)::MapO Tryz.prog 3 kI pV X.ba (X.add (freshT (wd.heap.size+2) mode X.shown wd.heap.size (wd.heap.size+1))).am::R)++[MapO Tryz.prog 104 ekR Value.bool wd.heap.size ([]:List ((Int×Int)×Bool))])++[MapO Tryz.prog 3 kI Value.bool (wd.heap.size+1) ([]:List (Int×Bool))])++[BlkP (wd.heap.size+2) 100 (freshT (wd.heap.size+2) mode X.shown wd.heap.size (wd.heap.size+1)).cs]) from hO9) (HM5.out.2.trans hb9))
  clear hO9 hb9
  refine oper_update (by rfl) 65 (.tmp 42) (.tmp 46) (.tmp 55) rfl rfl hrun ?_
  have HT7:=(show (Own _ _ _∧Below _ _ _) from And.intro (HO9.out.1.pop.pop.pop.drop 2) HO9.out.2)
  refine hK'.out _ _ HT7 (fun _=>?_)
  clear hK' K'
  conv=>arg 8;simp [go_sem]
  refine ⟨by kernel_rfl,?_⟩
  conv =>
   arg 5
   simp [go_sem]
  have O6:=Box.mk (begin_end (X:=X) (l:=l) (show Own B w9 (TnO (freshT (wd.heap.size+2) mode X.shown wd.heap.size (wd.heap.size+1))::BlkP g 68 X.tick.cs::RowP 95 1 X.ka X.kept.length X.kc (X.kept.map ptrT)::MapO Tryz.prog 3 kI pV X.ba (X.add (freshT (wd.heap.size+2) mode X.shown wd.heap.size (wd.heap.size+1))).am::(X.all.map TnO++l)) from by rw [HRR.out];exact gather (HO9.out.1.nilRow 90 4)))
  have OK2:=Box.mk (OK.out.add (t:=(freshT (wd.heap.size+2) mode X.shown wd.heap.size (wd.heap.size+1))) HBG.out.1 (by have:=HBG.out.2;unfold In64;omega) ⟨by simp [freshT],by simp [freshT],by simp [freshT],by simp [freshT]⟩ (fun s hs=>by have h1:=(Array.getElem?_eq_some_iff.1 (OT.out.tn s hs).blk).1;have h2:=HSZ.out;show s.p≠wd.heap.size+2;omega) (by have:=HL.out;omega))
  have HB9:=Box.mk HO9.out.2
  clear HO9 hrun
  go_wp2_with fail
  refine (forget_any O6.out OK2.out).mono ?_
  rintro e w10 ⟨rfl,hb10,k,a,c,hk1,hk2,hO10⟩
  have O10:=Box.mk hO10
  have HK:=Box.mk (And.intro hb10 (And.intro hk1 hk2))
  clear hb10 hk1 hk2 hO10
  have x2:=(TxP.cells ((O10.out.open_ (TxsL.stb g _)).blk 0 rfl).1).2.2.1
  go_wp2_with fail
  go_ret2
  exact ⟨rfl,HB9.out.trans HK.out.1,_,_,_,k,a,c,OK2.out,HK.out.2.1,fun q hq=>HK.out.2.2 q (List.mem_append.2 (.inl hq)),O10.out⟩
 ·refine oper_makeMap (by rfl) 98 rfl ?_
  have hz:=HF0.out.1.newMap (P:=Tryz.prog) (k:=3) (ek:=kI) (ev:=Value.bool)
  have HM8:=Box.mk (And.intro hz (HF0.out.2.alloc HF0.out.1.1 (.map #[] 0)))
  clear hz
  have HT9:=And.intro (HS0.1.alloc (.map #[] 0)) (HS0.2.alloc HS0.1.1 (.map #[] 0))
  refine hK'.out _ _ HT9 (fun _=>?_)
  clear hK' K'
  conv=>arg 8;simp [go_sem]
  refine ar 13 rfl fun K' hK'=>?_
  refine oper_makeMap (by rfl) 97 rfl ?_
  have hz:=HM8.out.1.newMap (P:=Tryz.prog) (k:=104) (ek:=ekR) (ev:=Value.bool)
  rw [show ((wd.alloc (.map #[] 0))).heap.size=wd.heap.size+1 from by simp] at hz
  have HM10:=Box.mk (And.intro hz (HM8.out.2.alloc HM8.out.1.1 (.map #[] 0)))
  clear hz
  have HT11:=And.intro (HT9.1.alloc (.map #[] 0)) (HT9.2.alloc HT9.1.1 (.map #[] 0))
  refine hK'.out _ _ HT11 (fun _=>?_)
  clear hK' K'
  conv=>arg 8;simp [go_sem]
  refine tw 15 rfl HT11 ?_
  conv=>arg 8;simp [go_sem]
  refine ar 16 rfl fun K' hK'=>?_
  refine oper_box (by rfl) 100 (.tmp 54) rfl (cs:=((freshT (wd.heap.size+2) mode X.shown (wd.heap.size+1) wd.heap.size).cs).toArray) rfl ?_
  have hz:=HM10.out.1.new ((freshT (wd.heap.size+2) mode X.shown (wd.heap.size+1) wd.heap.size).cs) 100
  rw [show (((wd.alloc (.map #[] 0)).alloc (.map #[] 0))).heap.size=wd.heap.size+2 from by simp] at hz
  have HM12:=Box.mk (And.intro hz (HM10.out.2.alloc HM10.out.1.1 (.cells ((freshT (wd.heap.size+2) mode X.shown (wd.heap.size+1) wd.heap.size).cs).toArray 100)))
  clear hz
  have HT13:=And.intro (HT11.1.alloc (.cells ((freshT (wd.heap.size+2) mode X.shown (wd.heap.size+1) wd.heap.size).cs).toArray 100)) (HT11.2.alloc HT11.1.1 (.cells ((freshT (wd.heap.size+2) mode X.shown (wd.heap.size+1) wd.heap.size).cs).toArray 100))
  refine hK'.out _ _ HT13 (fun _=>?_)
  clear hK' K'
  conv=>arg 8;simp [go_sem]
  refine ar 17 rfl fun K' hK'=>?_
  obtain ⟨w9,hrun,hO9,hb9,_⟩:=HM12.out.1.putMap K_int kI_inj und_act 2 rfl (keyI (show In64 (X.begun+1) from by have:=HBG.out.2;unfold In64;omega)) (wd.heap.size+2)
  rw [show putA X.am (X.begun+1) (wd.heap.size+2)=(X.add (freshT (wd.heap.size+2) mode X.shown (wd.heap.size+1) wd.heap.size)).am from am_add HBG.out.1] at hO9
  have HO9:=Box.mk (And.intro (show Own B w9 ((((BlkP g 68 X.tick.cs::RowP 95 1 X.ka X.kept.length X.kc (X.kept.map ptrT)::MapO Tryz.prog 3 kI pV X.ba (X.add (freshT (wd.heap.size+2) mode X.shown (wd.heap.size+1) wd.heap.size)).am::R)++[MapO Tryz.prog 3 kI Value.bool wd.heap.size ([]:List (Int×Bool))])++[MapO Tryz.prog 104 ekR Value.bool (wd.heap.size+1) ([]:List ((Int×Int)×Bool))])++[BlkP (wd.heap.size+2) 100 (freshT (wd.heap.size+2) mode X.shown (wd.heap.size+1) wd.heap.size).cs]) from hO9) (HM12.out.2.trans hb9))
  clear hO9 hb9
  refine oper_update (by rfl) 65 (.tmp 42) (.tmp 46) (.tmp 55) rfl rfl hrun ?_
  have HT14:=(show (Own _ _ _∧Below _ _ _) from And.intro (HO9.out.1.pop.pop.pop.drop 2) HO9.out.2)
  refine hK'.out _ _ HT14 (fun _=>?_)
  clear hK' K'
  conv=>arg 8;simp [go_sem]
  refine ⟨by kernel_rfl,?_⟩
  conv =>
   arg 5
   simp [go_sem]
  have O6:=Box.mk (begin_end (X:=X) (l:=l) (show Own B w9 (TnO (freshT (wd.heap.size+2) mode X.shown (wd.heap.size+1) wd.heap.size)::BlkP g 68 X.tick.cs::RowP 95 1 X.ka X.kept.length X.kc (X.kept.map ptrT)::MapO Tryz.prog 3 kI pV X.ba (X.add (freshT (wd.heap.size+2) mode X.shown (wd.heap.size+1) wd.heap.size)).am::(X.all.map TnO++l)) from by rw [HRR.out];exact gather2 (HO9.out.1.nilRow 90 4)))
  have OK2:=Box.mk (OK.out.add (t:=(freshT (wd.heap.size+2) mode X.shown (wd.heap.size+1) wd.heap.size)) HBG.out.1 (by have:=HBG.out.2;unfold In64;omega) ⟨by simp [freshT],by simp [freshT],by simp [freshT],by simp [freshT]⟩ (fun s hs=>by have h1:=(Array.getElem?_eq_some_iff.1 (OT.out.tn s hs).blk).1;have h2:=HSZ.out;show s.p≠wd.heap.size+2;omega) (by have:=HL.out;omega))
  have HB9:=Box.mk HO9.out.2
  clear HO9 hrun
  go_wp2_with fail
  refine (forget_any O6.out OK2.out).mono ?_
  rintro e w10 ⟨rfl,hb10,k,a,c,hk1,hk2,hO10⟩
  have O10:=Box.mk hO10
  have HK:=Box.mk (And.intro hb10 (And.intro hk1 hk2))
  clear hb10 hk1 hk2 hO10
  have x2:=(TxP.cells ((O10.out.open_ (TxsL.stb g _)).blk 0 rfl).1).2.2.1
  go_wp2_with fail
  go_ret2
  exact ⟨rfl,HB9.out.trans HK.out.1,_,_,_,k,a,c,OK2.out,HK.out.2.1,fun q hq=>HK.out.2.2 q (List.mem_append.2 (.inl hq)),O10.out⟩
 all_goals skip
end
end Go.Proofs.YtlfghapllmaigaaGreatDoor
