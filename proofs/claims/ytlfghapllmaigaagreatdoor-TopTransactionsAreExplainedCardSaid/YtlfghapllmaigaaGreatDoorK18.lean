/-
  The walks of Begin without room, New, Index at []*txn; The walk of Commit; The walks of Commit where there is no such transaction; a transaction that is changed, plainly; The walk of Read. Conditions: each theorem's own hypotheses.
-/
import Derived.Test.YtlfghapllmaigaaGreatDoorK17
set_option linter.unusedVariables false
set_option linter.unusedSimpArgs false
namespace Go.Proofs.YtlfghapllmaigaaGreatDoor
section
open Go.RowKit Go.Maps
set_option maxRecDepth 20000 in
set_option maxHeartbeats 2000000 in
theorem begin_no {mode:Int} {B g:Nat} {X:TxP} {w:World} {l:List HP} (O:Own B w (TxsO g X::l)) (ok:TxOk X) (hm:0≤mode∧mode≤1) (h1:16≤X.act.length∨40≤X.all.length) :
  Calls Tryz.prog 27 #[.pointer (some ⟨g,0,none⟩),.int .i64 mode] w (RetW (.tuple #[.int .i64 0,.int .i64 2]) B (TxsO g X::l) w):=by
 have OT:=Box.mk O.txs
 have HO:=Box.mk O
 have hla:X.am.length=X.act.length:=by unfold TxP.am;rw [List.length_map]
 have hlk:X.all.length=X.kept.length+X.act.length:=by unfold TxP.all;rw [List.length_append,List.length_map]
 have hl1:=ok.len
 rw [hlk] at h1 hl1
 obtain ⟨x0,x1,x2,x3,x4⟩:=TxP.cells OT.out.blk
 have hlen:=fun q ty=>(OT.out.mp.eq (w':=w.drewN q) rfl).len und_act ty
 rw [hla] at hlen
 clear O ok
 obtain ⟨na,hna⟩:∃n,X.act.length=n:=⟨_,rfl⟩
 obtain ⟨nk,hnk⟩:∃n,X.kept.length=n:=⟨_,rfl⟩
 rw [hnk] at x3 h1 hl1
 rw [hna] at hlen h1 hl1
 clear hna hla x0 x1 hlk hnk
 by_cases h2:16≤na
 ·have hd1:decide ((16:Int)≤na)=true:=by simp;omega
  go_enter Tryz.func27,Tryz.ntmps27
  go_upto_region 3 with fail
  go_quiet (fail)
  go_wp2_with fail
  go_ret2
  exact ⟨rfl,HO.out.drewN _,below_drewN (Below.refl _ _) _⟩
 ·have hd1:decide ((16:Int)≤na)=false:=by simp;omega
  have hd2:decide ((40:Int)≤nk+na)=true:=by simp;omega
  go_enter Tryz.func27,Tryz.ntmps27
  go_upto_region 3 with fail
  go_quiet (fail)
  go_wp2_with fail
  go_ret2
  exact ⟨rfl,HO.out.drewN _,below_drewN (Below.refl _ _) _⟩
def newX (s:Int) (b:Nat):TxP:=⟨s,s,0,none,0,[],b,[]⟩
theorem newX_ok (s:Int) (b:Nat):TxOk (newX s b):=⟨List.Pairwise.nil,by simp [newX],by simp [newX,TxP.all],by simp [newX,TxP.all],by simp [newX,TxP.all]⟩
set_option maxRecDepth 20000 in
set_option maxHeartbeats 1000000 in
theorem newtx_any {s:Int} (h1:0≤s) (h2:s≤1073741824) {B:Nat} {w:World} {l:List HP} (O:Own B w l):Calls Tryz.prog 5 #[.int .i64 s] w fun e w'=>∃g b,e=.returned (.pointer (some ⟨g,0,none⟩))∧Own B w' (TxsO g (newX s b)::l)∧Below B w w':=by
 have hmm:=@run_makeMap Tryz.prog
 have O1:=Box.mk (((O.newMap (P:=Tryz.prog) (k:=3) (ek:=kI) (ev:=pV)).new (newX s w.heap.size).cs 68).nilRow 95 1)
 have B1:=Box.mk (((Below.refl B w).alloc O.1 (.map #[] 0)).alloc (by simp;have:=O.1;omega) (.cells (newX s w.heap.size).cs.toArray 68))
 clear O
 go_enter Tryz.func5,Tryz.ntmps5
 go_wp2_with fail
 go_ret
 refine ⟨_,w.heap.size,rfl,?_,B1.out⟩
 have O2:=O1.out
 rw [show (w.alloc (Obj.map #[] 0)).heap.size=w.heap.size+1 from by simp] at O2
 refine Own.shut (m:=TxsL (w.heap.size+1) (newX s w.heap.size)) (O2.perm ?_)
 simp only [List.append_assoc]
 refine (List.perm_append_comm).trans (List.Perm.append_right l ?_)
 exact (List.Perm.swap _ _ _).trans (List.Perm.cons _ (List.Perm.swap _ _ _))
theorem idx_ptr {X:List TnP} (hn:(X.map TnP.p).Nodup) {t:TnP} {k:Nat} (hk:k<X.length) (ht:X.getD k default=t):∀j,j<k→(X.getD j default).p≠t.p:=by
 intro j hj e
 have h1:=List.pairwise_iff_getElem.1 (List.pairwise_map.1 hn) j k (by omega) hk hj
 rw [getD_eq (by omega)] at e
 rw [getD_eq hk] at ht
 rw [ht] at h1
 exact h1 e
set_option maxRecDepth 20000 in
set_option maxHeartbeats 1000000 in
theorem idxtx_any {zs:List TnP} {a:Option Addr} {n c:Nat} {w:World} (hr:Rd w a n c 1 (zs.map ptrT)) (htn:∀s∈zs,TnRd w s) {t:TnP} {k:Nat} (hk:k<n) (hn:n≤100000) (ht:zs.getD k default=t) (hne:∀j,j<k→(zs.getD j default).p≠t.p) :
  Calls Tryz.prog 96 #[.slice a n c,.pointer (some ⟨t.p,0,none⟩)] w (RetV (.int .i64 k) w):=by
 have hln:zs.length=n:=by have:=hr.hlen;simpa using this
 have R:=Box.mk hr
 have HT:=Box.mk htn
 have HNE:=Box.mk (And.intro ht hne)
 have htr:TnRd w t:=htn t (by rw [← ht];exact getD_mem (by omega))
 have HTR:=Box.mk htr
 clear hr htn ht hne htr
 go_enter Tryz.func96,Tryz.ntmps96
 go_wp2_with fail
 go_loopg [5,8] n (fun gg _ s8 wr=>∃j:Nat,j≤k∧n - j≤gg∧s8=.int .i64 j∧wr=w)
 case atStart=>exact ⟨0,Nat.zero_le _,by omega,rfl,rfl⟩
 case round =>
  obtain ⟨j,hj,hg,rfl,rfl⟩:=hrel
  obtain ⟨b,off,rfl,hc⟩:=ptAt R.out j (by omega)
  obtain ⟨s,hs⟩:∃s,zs.getD j default=s:=⟨_,rfl⟩
  rw [hs] at hc
  unfold ptrT pV at hc
  have heq:=eq_ptx HTR.out (HT.out s (by rw [← hs];exact getD_mem (by omega)))
  by_cases hjk:j=k
  ·subst hjk
   have hst:s=t:=by rw [← hs];exact HNE.out.1
   rw [hst] at hc heq
   rw [decide_eq_true rfl] at heq
   clear hs hst
   go_wp2_with fail
   go_ret
   exact ⟨rfl,Below.refl _ _⟩
  ·have hst:¬ (t.p=s.p):=fun e=>HNE.out.2 j (by omega) (by rw [hs];exact e.symm)
   rw [decide_eq_false hst] at heq
   clear hs hst
   go_wp2_with fail
   go_roundg (n - (j+1))
   case measure=>omega
   case rel=>exact ⟨j+1,by omega,by omega,by go_num,rfl⟩
end
section
open Go.RowKit Go.Maps
theorem find_split {X:TxP} (ok:TxOk X) {n:Int} {t:TnP} (h:X.find n=some t):∃A1 A2,X.act=A1++(n,t)::A2∧(X.drop n).act=A1++A2:=by
 obtain ⟨A1,A2,hA⟩:=List.append_of_mem (TxP.find_mem h).1
 refine ⟨A1,A2,hA,?_⟩
 have h1:=ok.asc
 rw [hA,List.map_append,List.map_cons,List.pairwise_append] at h1
 obtain ⟨_,h2,h3⟩:=h1
 rw [List.pairwise_cons] at h2
 show X.act.filter _=_
 rw [hA,List.filter_append,List.filter_cons,if_neg (by simp)]
 congr 1
 ·rw [List.filter_eq_self]
  intro q hq
  have:=h3 q.1 (List.mem_map.2 ⟨q,hq,rfl⟩) n (by simp)
  simp;omega
 ·rw [List.filter_eq_self]
  intro q hq
  have:=h2.1 q.1 (List.mem_map.2 ⟨q,hq,rfl⟩)
  simp;omega
theorem all_split {X:TxP} {n:Int} {t:TnP} {A1 A2:List (Int×TnP)} (h1:X.act=A1++(n,t)::A2) (h2:(X.drop n).act=A1++A2):X.all.Perm (t::(X.drop n).all)∧X.kept.length+A1.length<X.all.length∧X.all.getD (X.kept.length+A1.length) default=t:=by
 have e1:X.all=(X.kept++A1.map (·.2))++t::A2.map (·.2):=by unfold TxP.all;rw [h1];simp
 have e2:(X.drop n).all=(X.kept++A1.map (·.2))++A2.map (·.2):=by unfold TxP.all;rw [h2];simp [TxP.drop]
 refine ⟨?_,?_,?_⟩
 ·rw [e1,e2];exact List.perm_middle
 ·rw [e1];simp
 ·rw [e1,List.getD_eq_getElem?_getD,List.getElem?_append_right (by simp)]
  simp
def TnP.fin (t:TnP) (s:Int):TnP:={ t with done:=true,stamp:=s }
def TxP.fin (X:TxP) (n:Int) (t:TnP) (s:Int) (a:Option Addr) (c:Nat):TxP:={ X with last:=if 0<s then s else X.last,kept:=X.kept++[t.fin s],ka:=a,kc:=c,act:=(X.drop n).act }
theorem fin_all {X:TxP} {n:Int} {t:TnP} {s:Int} {a:Option Addr} {c:Nat}:(X.fin n t s a c).all.Perm (t.fin s::(X.drop n).all):=by
 unfold TxP.all TxP.fin
 simp only [List.append_assoc,List.singleton_append]
 exact List.perm_middle
theorem TxOk.fin {X:TxP} (ok:TxOk X) {n:Int} {t:TnP} (h:X.find n=some t) (s:Int) (a:Option Addr) (c:Nat):TxOk (X.fin n t s a c):=by
 obtain ⟨A1,A2,h1,h2⟩:=find_split ok h
 obtain ⟨hp,_,_⟩:=all_split h1 h2
 have od:=ok.drop n
 have htm:=(TxP.find_mem h).2
 refine ⟨od.asc,od.i64,fun u hu=>?_,?_,?_⟩
 ·rcases List.mem_cons.1 (fin_all.mem_iff.1 hu) with rfl | hu
  ·have:=ok.tn t htm;exact ⟨this.log,this.rows,this.len,this.rlen⟩
  ·exact od.tn u hu
 ·refine ((fin_all (X:=X) (n:=n) (t:=t) (s:=s) (a:=a) (c:=c)).map TnP.p).nodup_iff.2 ?_
  exact (hp.map TnP.p).nodup_iff.1 ok.nd
 ·rw [fin_all.length_eq,List.length_cons]
  have:=hp.length_eq
  rw [List.length_cons] at this
  have:=ok.len;omega
def RetCommit (n:Int) (t:TnP) (B g:Nat) (X:TxP) (l:List HP) (w:World) (e:Ending) (w':World):Prop:=Below B w w' ∧
 ((∃ (er k:Int) (a:Option Addr) (c:Nat),er≠0∧e=.returned (.tuple #[.int .i64 0,.slice none 0 0,.int .i64 er])∧k≤X.shown∧(∀q∈(X.drop n).act,k≤q.2.snap)∧Own B w' (TxsO g ((X.drop n).less k a c)::l)) ∨
  (∃ (s k:Int) (a0:Option Addr) (c0:Nat) (a:Option Addr) (c:Nat) (wa:Option Addr) (wc:Nat) (hs:List AccP) (i:Nat),e=.returned (.tuple #[.int .i64 s,.slice wa (wsOf t.log).length wc,.int .i64 0])∧hs.map AccP.pl=X.all.map TnP.pl∧i<X.all.length∧X.all.getD i default=t∧Admits hs i s ∧
   k≤X.shown∧(∀q∈(X.drop n).act,k≤q.2.snap)∧Own B w' (TxsO g ((X.fin n t s a0 c0).less k a c)::RowP 90 4 wa (wsOf t.log).length wc (recC WrP.enc (wsOf t.log))::l)))
theorem pl_done {hs:List AccP} {ts:List TnP} (h:hs.map AccP.pl=ts.map TnP.pl) {i:Nat} (hi:i<ts.length) {t:TnP} (ht:ts.getD i default=t):(hs.getD i default).pl=t.pl:=by
 have hl:hs.length=ts.length:=by have:=congrArg List.length h;simpa using this
 have h1:(hs.map AccP.pl)[i]?=(ts.map TnP.pl)[i]?:=by rw [h]
 rw [List.getElem?_map,List.getElem?_map,List.getElem?_eq_getElem (by omega),List.getElem?_eq_getElem hi] at h1
 simp only [Option.map_some,Option.some.injEq] at h1
 rw [getD_eq (by omega),h1,← ht,getD_eq hi]
theorem fin_shut {B g:Nat} {X:TxP} {n s:Int} {t:TnP} {l:List HP} {w:World} {a:Option Addr} {c:Nat}
  (O:Own B w (BlkP t.p 100 (t.fin s).cs::RowP 90 4 t.la t.log.length t.lc (recC WrP.enc t.log)::MapO Tryz.prog 104 ekR Value.bool t.br t.rows::MapO Tryz.prog 3 kI Value.bool t.bw ([]:List (Int×Bool))::BlkP g 68 [.int .i64 (if 0<s then s else X.last),.int .i64 X.shown,.int .i64 X.begun,.slice a (X.kept.length+1) c,.map (some X.ba)]::RowP 95 1 a (X.kept.length+1) c (X.kept.map ptrT++[.pointer (some ⟨t.p,0,none⟩)])::MapO Tryz.prog 3 kI pV X.ba (X.drop n).am::((X.drop n).all.map TnO++l))) :
  Own B w (TxsO g (X.fin n t s a c)::l):=by
 have O1:Own B w (TnO (t.fin s)::([BlkP g 68 [.int .i64 (if 0<s then s else X.last),.int .i64 X.shown,.int .i64 X.begun,.slice a (X.kept.length+1) c,.map (some X.ba)],RowP 95 1 a (X.kept.length+1) c (X.kept.map ptrT++[.pointer (some ⟨t.p,0,none⟩)]),MapO Tryz.prog 3 kI pV X.ba (X.drop n).am]++((X.drop n).all.map TnO++l))):=Own.shut (m:=TnL (t.fin s)) O
 have O2:=O1.perm (List.perm_middle (l₁:=[BlkP g 68 [.int .i64 (if 0<s then s else X.last),.int .i64 X.shown,.int .i64 X.begun,.slice a (X.kept.length+1) c,.map (some X.ba)],RowP 95 1 a (X.kept.length+1) c (X.kept.map ptrT++[.pointer (some ⟨t.p,0,none⟩)]),MapO Tryz.prog 3 kI pV X.ba (X.drop n).am])).symm
 have O3:=O2.perm (List.Perm.append_left _ (List.Perm.append_right l ((fin_all (X:=X) (n:=n) (t:=t) (s:=s) (a:=a) (c:=c)).map TnO).symm))
 refine Own.shut (m:=TxsL g (X.fin n t s a c)) ?_
 unfold TxsL
 have e1:(X.fin n t s a c).cs=[.int .i64 (if 0<s then s else X.last),.int .i64 X.shown,.int .i64 X.begun,.slice a (X.kept.length+1) c,.map (some X.ba)]:=by simp [TxP.cs,TxP.fin]
 have e2:(X.fin n t s a c).kept.length=X.kept.length+1:=by simp [TxP.fin]
 have e3:(X.fin n t s a c).kept.map ptrT=X.kept.map ptrT++[.pointer (some ⟨t.p,0,none⟩)]:=by simp [TxP.fin,ptrT,pV,TnP.fin]
 rw [e1,e2,e3]
 exact O3
set_option maxRecDepth 20000 in
set_option maxHeartbeats 1200000 in
theorem commit_any {B g:Nat} {X:TxP} {w:World} {l:List HP} (O:Own B w (TxsO g X::l)) (ok:TxOk X) {n:Int} (hn:In64 n) {t:TnP} (hf:X.find n=some t) (hd:t.done=false) (hv:∀hs:List AccP,hs.map AccP.pl=X.all.map TnP.pl→HOk hs) :
  Calls Tryz.prog 30 #[.pointer (some ⟨g,0,none⟩),.int .i64 n] w (RetCommit n t B g X l w):=by
 obtain ⟨A1,A2,hA1,hA2⟩:=find_split ok hf
 have HA:=Box.mk (all_split hA1 hA2)
 have HG:=Box.mk (get_any O.txs hn)
 rw [hf] at HG
 simp only [optV,errE,pV] at HG
 have O0:=Box.mk O
 have OK:=Box.mk ok
 have OKD:=Box.mk (ok.drop n)
 have OKF:=Box.mk (fun s a c=>ok.fin hf s a c)
 have HV:=Box.mk (And.intro hv hd)
 have hasc:=ok.asc
 have HL:=Box.mk ok.len
 have HTO:=Box.mk (ok.tn t (TxP.find_mem hf).2)
 obtain ⟨i,hi⟩:∃i,X.kept.length+A1.length=i:=⟨_,rfl⟩
 rw [hi] at HA
 clear O ok hf hv hd hA1 hA2 hi
 go_enter Tryz.func30,Tryz.ntmps30
 go_wp2_with fail
 refine HG.out.mono ?_
 rintro e w1 ⟨rfl,hb⟩
 have O1:=Box.mk (O0.out.below hb)
 have B1:=Box.mk (hb.mono O0.out.1)
 clear hb HG O0
 go_wp2_with fail
 refine (all_any O1.out.txs OK.out).mono ?_
 rintro e w2 ⟨hb,a2,c2,rfl,hrow⟩
 have O2:=Box.mk (O1.out.below hb)
 have B2:=Box.mk (B1.out.trans (hb.mono O1.out.1))
 have HR2:=Box.mk (Rd.ofOwn hrow)
 clear hb hrow O1 B1
 go_wp2_with fail
 refine (idxtx_any HR2.out (fun s hs=>O2.out.txs.tn s hs) HA.out.2.1 (by have:=HL.out;omega) HA.out.2.2 (idx_ptr OK.out.nd HA.out.2.1 HA.out.2.2)).mono ?_
 rintro e w3 ⟨rfl,hb⟩
 have O3:=Box.mk (O2.out.below hb)
 have B3:=Box.mk (B2.out.trans (hb.mono O2.out.1))
 clear hb HR2 O2 B2
 go_wp2_with fail
 refine (history_any O3.out.txs OK.out).mono ?_
 rintro e w4 ⟨hb,hs,a4,c4,rfl,hrd,hpl⟩
 have O4:=Box.mk (O3.out.below hb)
 have B4:=Box.mk (B3.out.trans (hb.mono O3.out.1))
 have hln:hs.length=X.all.length:=by have:=congrArg List.length hpl;simpa using this
 have HAD:=Box.mk (admit_any hrd (HV.out.1 hs hpl) (i:=i) (by rw [hln];exact HA.out.2.1) (by have:=congrArg PAcc.done (pl_done hpl HA.out.2.1 HA.out.2.2);exact this.trans HV.out.2))
 have HPL:=Box.mk hpl
 clear hb hrd hpl hln O3 B3
 go_wp2_with fail
 refine HAD.out.mono ?_
 rintro e w5 ⟨hb,s,er,rfl,had⟩
 have O5:=Box.mk (show Own B w5 (BlkP g 68 X.cs::RowP 95 1 X.ka X.kept.length X.kc (X.kept.map ptrT)::MapO Tryz.prog 3 kI pV X.ba X.am::(X.all.map TnO++l)) from (O4.out.below hb).open_ (TxsL.stb g X))
 have B5:=Box.mk (B4.out.trans (hb.mono O4.out.1))
 have HAD2:=Box.mk had
 obtain ⟨x0,x1,x2,x3,x4⟩:=TxP.cells (O5.out.blk 0 rfl).1
 clear hb HAD had O4 B4 x0 x1 x2 x3
 obtain ⟨w6,hrun,hO6,hb6,_⟩:=O5.out.delMap K_int kI_inj und_act 2 rfl (keyI hn) 0
 rw [show delA X.am n=(X.drop n).am from delA_act n X.act hasc] at hO6
 have B6:=Box.mk (B5.out.trans hb6)
 have O6:=Box.mk (show Own B w6 (TnO t::BlkP g 68 X.cs::RowP 95 1 X.ka X.kept.length X.kc (X.kept.map ptrT)::MapO Tryz.prog 3 kI pV X.ba (X.drop n).am::((X.drop n).all.map TnO++l)) from by
  refine Own.perm (l:=[BlkP g 68 X.cs,RowP 95 1 X.ka X.kept.length X.kc (X.kept.map ptrT),MapO Tryz.prog 3 kI pV X.ba (X.drop n).am]++(X.all.map TnO++l)) hO6 ?_
  refine (List.Perm.append_left _ (List.Perm.append_right l (HA.out.1.map TnO))).trans ?_
  exact List.perm_middle (l₁:=[BlkP g 68 X.cs,RowP 95 1 X.ka X.kept.length X.kc (X.kept.map ptrT),MapO Tryz.prog 3 kI pV X.ba (X.drop n).am]))
 clear hO6 hb6 O5 B5
 simp only [kI] at hrun
 by_cases her:er=0
 ·subst her
  have HAD3:=Box.mk (HAD2.out rfl)
  clear HAD2
  obtain ⟨lst,hlst⟩:∃L,(if 0<s then s else X.last)=L:=⟨_,rfl⟩
  have HLS:=Box.mk hlst
  clear hlst
  by_cases hs0:0<s
  ·have HF7:=Box.mk (O6.out.setRow 1 rfl (splice X.cs 0 [.int .i64 s]))
   go_upto_region 12 with ((with_reducible show wpList _ _ _ _ _ _);refine wpList_store_part rfl 3 (.tmp 46) (.tmp 44) rfl rfl (size:=1) (off:=0) (by kernel_rfl) (O6.out.blk 1 rfl).1 (by simp [TxP.cs]) rfl (cs:=[.int .i64 s]) rfl rfl (by simp [Value.oneCell']) ?_)
   generalize (w6.setRow g _)=w7 at *
   have O7:=Box.mk (show Own B w7 (TnO t::BlkP g 68 [.int .i64 lst,.int .i64 X.shown,.int .i64 X.begun,.slice X.ka X.kept.length X.kc,.map (some X.ba)]::RowP 95 1 X.ka X.kept.length X.kc (X.kept.map ptrT)::MapO Tryz.prog 3 kI pV X.ba (X.drop n).am::((X.drop n).all.map TnO++l)) from by rw [← HLS.out,if_pos hs0];exact HF7.out.1)
   have B7:=Box.mk (B6.out.trans HF7.out.2)
   clear HF7 O6 B6 x4 hrun
   have O8:=Box.mk (show Own B w7 (BlkP t.p 100 t.cs::RowP 90 4 t.la t.log.length t.lc (recC WrP.enc t.log)::MapO Tryz.prog 104 ekR Value.bool t.br t.rows::MapO Tryz.prog 3 kI Value.bool t.bw ([]:List (Int×Bool))::BlkP g 68 [.int .i64 lst,.int .i64 X.shown,.int .i64 X.begun,.slice X.ka X.kept.length X.kc,.map (some X.ba)]::RowP 95 1 X.ka X.kept.length X.kc (X.kept.map ptrT)::MapO Tryz.prog 3 kI pV X.ba (X.drop n).am::((X.drop n).all.map TnO++l)) from O7.out.open_ (TnL.stb t))
   have HS1:=Box.mk (O8.out.setRow 0 rfl (splice t.cs 2 [.bool true]))
   have HS2:=Box.mk (HS1.out.1.setRow 0 rfl (splice (splice t.cs 2 [.bool true]) 3 [.int .i64 s]))
   go_upto_region 13 with ((with_reducible show wpList _ _ _ _ _ _);first | (refine wpList_store_part rfl 4 (.tmp 51) (.const (.bool true)) rfl rfl (size:=1) (off:=2) (by kernel_rfl) (O8.out.blk 0 rfl).1 (by simp [TnP.cs]) rfl (cs:=[.bool true]) rfl rfl (by simp [Value.oneCell']) ?_) | (refine wpList_store_part rfl 3 (.tmp 53) (.tmp 49) rfl rfl (size:=1) (off:=3) (by kernel_rfl) (HS1.out.1.blk 0 rfl).1 (by simp [TnP.cs,splice]) rfl (cs:=[.int .i64 s]) rfl rfl (by simp [Value.oneCell']) ?_))
   have O9:=Box.mk HS2.out.1
   have B9:=Box.mk ((B7.out.trans HS1.out.2).trans HS2.out.2)
   clear O8 HS1 HS2 B7 O7
   generalize ((w7.setRow t.p _).setRow t.p _)=w9 at *
   have O9:=Box.mk (show Own B w9 (BlkP t.p 100 (t.fin s).cs::RowP 90 4 t.la t.log.length t.lc (recC WrP.enc t.log)::MapO Tryz.prog 104 ekR Value.bool t.br t.rows::MapO Tryz.prog 3 kI Value.bool t.bw ([]:List (Int×Bool))::BlkP g 68 [.int .i64 lst,.int .i64 X.shown,.int .i64 X.begun,.slice X.ka X.kept.length X.kc,.map (some X.ba)]::RowP 95 1 X.ka X.kept.length X.kc (X.kept.map ptrT)::MapO Tryz.prog 3 kI pV X.ba (X.drop n).am::((X.drop n).all.map TnO++l)) from O9.out)
   have x3:=(O9.out.blk 4 rfl).1.cellOf (i:=3) rfl
   have hkl:X.kept.length≤100:=by have h1:=HL.out;unfold TxP.all at h1;rw [List.length_append] at h1;omega
   go_wp2_with (first | (at_builtin;refine wpList_append_O rfl _ _ 66 66 rfl sl_ptx (.inl sl_ptx.ht) (O9.out.alloc _) 5 rfl rfl rfl (Src.oneNew _ _ _ rfl) (by omega) (by unfold maxLen;omega) ?_;intro a10 c10 w10 hO10 hb10) | ((with_reducible show wpList _ _ _ _ _ _);refine wpList_store_part rfl 66 (.tmp 63) (.tmp 61) rfl rfl (size:=1) (off:=3) (by kernel_rfl) (hO10.blk 4 rfl).1 (by simp) rfl (cs:=[.slice a10 (X.kept.length+1) c10]) rfl rfl (by simp [Value.oneCell']) ?_))
   obtain ⟨hO11,hb11⟩:=hO10.setRow 4 rfl (splice [.int .i64 lst,.int .i64 X.shown,.int .i64 X.begun,.slice X.ka X.kept.length X.kc,.map (some X.ba)] 3 [.slice a10 (X.kept.length+1) c10])
   have B11:=Box.mk ((B9.out.trans (((Below.refl B w9).alloc O9.out.1 (.cells #[.pointer (some ⟨t.p,0,none⟩)] 95)).trans hb10)).trans hb11)
   generalize (w10.setRow g _)=w11 at *
   have hO11:Own B w11 (BlkP t.p 100 (t.fin s).cs::RowP 90 4 t.la t.log.length t.lc (recC WrP.enc t.log)::MapO Tryz.prog 104 ekR Value.bool t.br t.rows::MapO Tryz.prog 3 kI Value.bool t.bw ([]:List (Int×Bool))::BlkP g 68 [.int .i64 lst,.int .i64 X.shown,.int .i64 X.begun,.slice a10 (X.kept.length+1) c10,.map (some X.ba)]::RowP 95 1 a10 (X.kept.length+1) c10 (X.kept.map ptrT++[.pointer (some ⟨t.p,0,none⟩)])::MapO Tryz.prog 3 kI pV X.ba (X.drop n).am::((X.drop n).all.map TnO++l)):=hO11
   have O12:=Box.mk (fin_shut (a:=a10) (c:=c10) (by rw [HLS.out];exact hO11))
   clear hO10 hb10 hO11 hb11 x3 O9 B9
   refine (forget_raw O12.out (OKF.out s a10 c10)).mono ?_
   rintro e w12 ⟨rfl,hb12,k,a,c,hk1,hk2,hO13⟩
   have O13:=Box.mk hO13
   have B13:=Box.mk (B11.out.trans hb12)
   have HK:=Box.mk (And.intro hk1 hk2)
   have HTW:=Box.mk (writes_t (t:=t.fin s) (O13.out.tn (by simp [TxP.fin])) ⟨HTO.out.log,HTO.out.rows,HTO.out.len,HTO.out.rlen⟩)
   clear hb12 hk1 hk2 hO13 O12 B11
   go_wp2_with fail
   refine HTW.out.mono ?_
   rintro e w14 ⟨hb14,wa,wc,rfl,hrow⟩
   have O14:=Box.mk (O13.out.newRow hb14 hrow (Nat.le_refl _))
   have B14:=Box.mk (B13.out.trans (hb14.mono O13.out.1))
   clear hb14 hrow HTW O13 B13
   go_wp2_with fail
   go_ret3
   refine ⟨B14.out,.inr ⟨s,k,a10,c10,a,c,wa,wc,hs,i,rfl,HPL.out,HA.out.2.1,HA.out.2.2,HAD3.out,HK.out.1,HK.out.2,less_shut ?_⟩⟩
   refine O14.out.perm ?_
   simp only [List.append_assoc]
   exact List.Perm.append_left _ (List.Perm.append_left _ (List.Perm.append_left _ (List.perm_append_comm (l₁:=l) (l₂:=[_]))))
  ·have O7:=Box.mk (show Own B w6 (TnO t::BlkP g 68 [.int .i64 lst,.int .i64 X.shown,.int .i64 X.begun,.slice X.ka X.kept.length X.kc,.map (some X.ba)]::RowP 95 1 X.ka X.kept.length X.kc (X.kept.map ptrT)::MapO Tryz.prog 3 kI pV X.ba (X.drop n).am::((X.drop n).all.map TnO++l)) from by rw [← HLS.out,if_neg hs0];exact O6.out)
   go_upto_region 12 with fail
   have B7:=Box.mk B6.out
   clear O6 B6 x4 hrun
   generalize w6=w7 at *
   have O8:=Box.mk (show Own B w7 (BlkP t.p 100 t.cs::RowP 90 4 t.la t.log.length t.lc (recC WrP.enc t.log)::MapO Tryz.prog 104 ekR Value.bool t.br t.rows::MapO Tryz.prog 3 kI Value.bool t.bw ([]:List (Int×Bool))::BlkP g 68 [.int .i64 lst,.int .i64 X.shown,.int .i64 X.begun,.slice X.ka X.kept.length X.kc,.map (some X.ba)]::RowP 95 1 X.ka X.kept.length X.kc (X.kept.map ptrT)::MapO Tryz.prog 3 kI pV X.ba (X.drop n).am::((X.drop n).all.map TnO++l)) from O7.out.open_ (TnL.stb t))
   have HS1:=Box.mk (O8.out.setRow 0 rfl (splice t.cs 2 [.bool true]))
   have HS2:=Box.mk (HS1.out.1.setRow 0 rfl (splice (splice t.cs 2 [.bool true]) 3 [.int .i64 s]))
   go_upto_region 13 with ((with_reducible show wpList _ _ _ _ _ _);first | (refine wpList_store_part rfl 4 (.tmp 51) (.const (.bool true)) rfl rfl (size:=1) (off:=2) (by kernel_rfl) (O8.out.blk 0 rfl).1 (by simp [TnP.cs]) rfl (cs:=[.bool true]) rfl rfl (by simp [Value.oneCell']) ?_) | (refine wpList_store_part rfl 3 (.tmp 53) (.tmp 49) rfl rfl (size:=1) (off:=3) (by kernel_rfl) (HS1.out.1.blk 0 rfl).1 (by simp [TnP.cs,splice]) rfl (cs:=[.int .i64 s]) rfl rfl (by simp [Value.oneCell']) ?_))
   have O9:=Box.mk HS2.out.1
   have B9:=Box.mk ((B7.out.trans HS1.out.2).trans HS2.out.2)
   clear O8 HS1 HS2 B7 O7
   generalize ((w7.setRow t.p _).setRow t.p _)=w9 at *
   have O9:=Box.mk (show Own B w9 (BlkP t.p 100 (t.fin s).cs::RowP 90 4 t.la t.log.length t.lc (recC WrP.enc t.log)::MapO Tryz.prog 104 ekR Value.bool t.br t.rows::MapO Tryz.prog 3 kI Value.bool t.bw ([]:List (Int×Bool))::BlkP g 68 [.int .i64 lst,.int .i64 X.shown,.int .i64 X.begun,.slice X.ka X.kept.length X.kc,.map (some X.ba)]::RowP 95 1 X.ka X.kept.length X.kc (X.kept.map ptrT)::MapO Tryz.prog 3 kI pV X.ba (X.drop n).am::((X.drop n).all.map TnO++l)) from O9.out)
   have x3:=(O9.out.blk 4 rfl).1.cellOf (i:=3) rfl
   have hkl:X.kept.length≤100:=by have h1:=HL.out;unfold TxP.all at h1;rw [List.length_append] at h1;omega
   go_wp2_with (first | (at_builtin;refine wpList_append_O rfl _ _ 66 66 rfl sl_ptx (.inl sl_ptx.ht) (O9.out.alloc _) 5 rfl rfl rfl (Src.oneNew _ _ _ rfl) (by omega) (by unfold maxLen;omega) ?_;intro a10 c10 w10 hO10 hb10) | ((with_reducible show wpList _ _ _ _ _ _);refine wpList_store_part rfl 66 (.tmp 63) (.tmp 61) rfl rfl (size:=1) (off:=3) (by kernel_rfl) (hO10.blk 4 rfl).1 (by simp) rfl (cs:=[.slice a10 (X.kept.length+1) c10]) rfl rfl (by simp [Value.oneCell']) ?_))
   obtain ⟨hO11,hb11⟩:=hO10.setRow 4 rfl (splice [.int .i64 lst,.int .i64 X.shown,.int .i64 X.begun,.slice X.ka X.kept.length X.kc,.map (some X.ba)] 3 [.slice a10 (X.kept.length+1) c10])
   have B11:=Box.mk ((B9.out.trans (((Below.refl B w9).alloc O9.out.1 (.cells #[.pointer (some ⟨t.p,0,none⟩)] 95)).trans hb10)).trans hb11)
   generalize (w10.setRow g _)=w11 at *
   have hO11:Own B w11 (BlkP t.p 100 (t.fin s).cs::RowP 90 4 t.la t.log.length t.lc (recC WrP.enc t.log)::MapO Tryz.prog 104 ekR Value.bool t.br t.rows::MapO Tryz.prog 3 kI Value.bool t.bw ([]:List (Int×Bool))::BlkP g 68 [.int .i64 lst,.int .i64 X.shown,.int .i64 X.begun,.slice a10 (X.kept.length+1) c10,.map (some X.ba)]::RowP 95 1 a10 (X.kept.length+1) c10 (X.kept.map ptrT++[.pointer (some ⟨t.p,0,none⟩)])::MapO Tryz.prog 3 kI pV X.ba (X.drop n).am::((X.drop n).all.map TnO++l)):=hO11
   have O12:=Box.mk (fin_shut (a:=a10) (c:=c10) (by rw [HLS.out];exact hO11))
   clear hO10 hb10 hO11 hb11 x3 O9 B9
   refine (forget_raw O12.out (OKF.out s a10 c10)).mono ?_
   rintro e w12 ⟨rfl,hb12,k,a,c,hk1,hk2,hO13⟩
   have O13:=Box.mk hO13
   have B13:=Box.mk (B11.out.trans hb12)
   have HK:=Box.mk (And.intro hk1 hk2)
   have HTW:=Box.mk (writes_t (t:=t.fin s) (O13.out.tn (by simp [TxP.fin])) ⟨HTO.out.log,HTO.out.rows,HTO.out.len,HTO.out.rlen⟩)
   clear hb12 hk1 hk2 hO13 O12 B11
   go_wp2_with fail
   refine HTW.out.mono ?_
   rintro e w14 ⟨hb14,wa,wc,rfl,hrow⟩
   have O14:=Box.mk (O13.out.newRow hb14 hrow (Nat.le_refl _))
   have B14:=Box.mk (B13.out.trans (hb14.mono O13.out.1))
   clear hb14 hrow HTW O13 B13
   go_wp2_with fail
   go_ret3
   refine ⟨B14.out,.inr ⟨s,k,a10,c10,a,c,wa,wc,hs,i,rfl,HPL.out,HA.out.2.1,HA.out.2.2,HAD3.out,HK.out.1,HK.out.2,less_shut ?_⟩⟩
   refine O14.out.perm ?_
   simp only [List.append_assoc]
   exact List.Perm.append_left _ (List.Perm.append_left _ (List.Perm.append_left _ (List.perm_append_comm (l₁:=l) (l₂:=[_]))))
 ·go_wp2_with fail
  have O7:Own B w6 (TxsO g (X.drop n)::l):=Own.shut (m:=TxsL g (X.drop n)) (O6.out.drop 0)
  refine (forget_any O7 OKD.out).mono ?_
  rintro e w8 ⟨rfl,hb8,k,a,c,hk1,hk2,hO8⟩
  have H8:=Box.mk (And.intro hb8 (And.intro hk1 (And.intro hk2 hO8)))
  clear hb8 hk1 hk2 hO8 O7
  go_wp2_with fail
  go_ret3
  exact ⟨B6.out.trans H8.out.1,.inl ⟨er,k,a,c,her,rfl,H8.out.2.1,H8.out.2.2.1,H8.out.2.2.2⟩⟩
end
section
open Go.RowKit Go.Maps
set_option maxRecDepth 20000 in
set_option maxHeartbeats 1000000 in
theorem commit_no {B g:Nat} {X:TxP} {w:World} {l:List HP} (O:Own B w (TxsO g X::l)) {n:Int} (hn:In64 n) (hf:X.find n=none) :
  Calls Tryz.prog 30 #[.pointer (some ⟨g,0,none⟩),.int .i64 n] w (RetW (.tuple #[.int .i64 0,.slice none 0 0,.int .i64 273]) B (TxsO g X::l) w):=by
 have HG:=Box.mk (get_any O.txs hn)
 have HO:=Box.mk O
 rw [hf] at HG
 simp only [optV,errE,pV] at HG
 clear hf O
 go_enter Tryz.func30,Tryz.ntmps30
 go_wp2_with fail
 refine HG.out.mono ?_
 rintro e w1 ⟨rfl,hb⟩
 go_wp2_with fail
 go_ret3
 exact ⟨rfl,HO.out.below hb,hb.mono HO.out.1⟩
set_option maxRecDepth 20000 in
set_option maxHeartbeats 1000000 in
theorem read_no {B g:Nat} {X:TxP} {w:World} {l:List HP} (O:Own B w (TxsO g X::l)) {n:Int} (hn:In64 n) (hf:X.find n=none) (a b:Int) :
  Calls Tryz.prog 35 #[.pointer (some ⟨g,0,none⟩),.int .i64 n,.int .i64 a,.int .i64 b] w (RetW (.int .i64 273) B (TxsO g X::l) w):=by
 have O1:=Box.mk (O.alloc (.cells #[.int .i64 a] 3))
 have B1:=Box.mk ((Below.refl B w).alloc O.1 (.cells #[.int .i64 a] 3))
 have HG:=Box.mk (get_any O1.out.txs hn)
 rw [hf] at HG
 simp only [optV,errE,pV] at HG
 clear hf O
 go_enter Tryz.func35,Tryz.ntmps35
 go_wp2_with fail
 refine HG.out.mono ?_
 rintro e w1 ⟨rfl,hb⟩
 go_wp2_with fail
 go_ret
 exact ⟨rfl,O1.out.below hb,B1.out.trans (hb.mono O1.out.1)⟩
def TxP.upd (X:TxP) (n:Int) (t:TnP):TxP:={ X with act:=X.act.map fun q=>if q.1=n then (q.1,t) else q }
theorem upd_split {X:TxP} (ok:TxOk X) {n:Int} {t:TnP} (h:X.find n=some t) (t':TnP):∃A1 A2,X.act=A1++(n,t)::A2∧(X.drop n).act=A1++A2∧(X.upd n t').act=A1++(n,t')::A2:=by
 obtain ⟨A1,A2,h1,h2⟩:=find_split ok h
 refine ⟨A1,A2,h1,h2,?_⟩
 have hne:∀q∈A1++A2,q.1≠n:=fun q hq=>by
  rw [← h2] at hq
  have:=(List.mem_filter.1 hq).2
  simpa using this
 have hm:∀L:List (Int×TnP),(∀q∈L,q.1≠n)→L.map (fun q=>if q.1=n then (q.1,t') else q)=L:=fun L hL=>by
  conv=>rhs;rw [← List.map_id L]
  exact List.map_congr_left fun q hq=>by rw [if_neg (hL q hq)];rfl
 show X.act.map _=_
 rw [h1,List.map_append,List.map_cons,hm A1 (fun q hq=>hne q (List.mem_append.2 (.inl hq))),hm A2 (fun q hq=>hne q (List.mem_append.2 (.inr hq)))]
 simp
theorem upd_all {X:TxP} (ok:TxOk X) {n:Int} {t:TnP} (h:X.find n=some t) (t':TnP):(X.upd n t').all.Perm (t'::(X.drop n).all):=by
 obtain ⟨A1,A2,h1,h2,h3⟩:=upd_split ok h t'
 unfold TxP.all
 rw [h2,h3]
 simp only [List.map_append,List.map_cons]
 rw [← List.append_assoc]
 refine List.perm_middle.trans ?_
 simp [TxP.drop,TxP.upd]
theorem upd_am {X:TxP} (ok:TxOk X) {n:Int} {t:TnP} (h:X.find n=some t) {t':TnP} (hp:t'.p=t.p):(X.upd n t').am=X.am:=by
 obtain ⟨A1,A2,h1,h2,h3⟩:=upd_split ok h t'
 unfold TxP.am
 rw [h1,h3];simp [hp]
theorem TxOk.upd {X:TxP} (ok:TxOk X) {n:Int} {t:TnP} (h:X.find n=some t) {t':TnP} (hp:t'.p=t.p) (ht:TnOk t'):TxOk (X.upd n t'):=by
 obtain ⟨A1,A2,h1,h2,h3⟩:=upd_split ok h t'
 have hk:(X.upd n t').act.map (·.1)=X.act.map (·.1):=by rw [h1,h3];simp
 have ha:=upd_all ok h t'
 obtain ⟨hp1,_,_⟩:=all_split h1 h2
 refine ⟨by rw [hk];exact ok.asc,fun q hq=>?_,fun s hs=>?_,?_,?_⟩
 ·have:q.1∈(X.upd n t').act.map (·.1):=List.mem_map.2 ⟨q,hq,rfl⟩
  rw [hk] at this
  obtain ⟨q',hq',e⟩:=List.mem_map.1 this
  have:=ok.i64 q' hq'
  rw [← e];exact this
 ·rcases List.mem_cons.1 (ha.mem_iff.1 hs) with rfl | hs
  ·exact ht
  ·exact (ok.drop n).tn s hs
 ·refine ((ha.map TnP.p).nodup_iff).2 ?_
  have:=((hp1.map TnP.p).nodup_iff).1 ok.nd
  simp only [List.map_cons] at this ⊢
  rw [hp];exact this
 ·rw [ha.length_eq,List.length_cons]
  have:=hp1.length_eq
  rw [List.length_cons] at this
  have:=ok.len;omega
theorem Own.takeT {B g:Nat} {X:TxP} {w:World} {l:List HP} (O:Own B w (TxsO g X::l)) (ok:TxOk X) {n:Int} {t:TnP} (h:X.find n=some t) :
  Own B w (TnL t++([BlkP g 68 X.cs,RowP 95 1 X.ka X.kept.length X.kc (X.kept.map ptrT),MapO Tryz.prog 3 kI pV X.ba X.am]++((X.drop n).all.map TnO++l))):=by
 obtain ⟨A1,A2,h1,h2⟩:=find_split ok h
 obtain ⟨hp1,_,_⟩:=all_split h1 h2
 have O1:Own B w ([BlkP g 68 X.cs,RowP 95 1 X.ka X.kept.length X.kc (X.kept.map ptrT),MapO Tryz.prog 3 kI pV X.ba X.am]++(X.all.map TnO++l)):=O.open_ (TxsL.stb g X)
 have O2:=O1.perm (List.Perm.append_left _ (List.Perm.append_right l (hp1.map TnO)))
 have O3:=O2.perm (List.perm_middle (l₁:=[BlkP g 68 X.cs,RowP 95 1 X.ka X.kept.length X.kc (X.kept.map ptrT),MapO Tryz.prog 3 kI pV X.ba X.am]))
 exact O3.open_ (TnL.stb t)
theorem Own.giveT {B g:Nat} {X:TxP} {w:World} {l:List HP} (ok:TxOk X) {n:Int} {t t':TnP} (h:X.find n=some t) (hp:t'.p=t.p)
  (O:Own B w (TnL t'++([BlkP g 68 X.cs,RowP 95 1 X.ka X.kept.length X.kc (X.kept.map ptrT),MapO Tryz.prog 3 kI pV X.ba X.am]++((X.drop n).all.map TnO++l)))):Own B w (TxsO g (X.upd n t')::l):=by
 have O1:Own B w (TnO t'::([BlkP g 68 X.cs,RowP 95 1 X.ka X.kept.length X.kc (X.kept.map ptrT),MapO Tryz.prog 3 kI pV X.ba X.am]++((X.drop n).all.map TnO++l))):=Own.shut (m:=TnL t') O
 have O2:=O1.perm (List.perm_middle (l₁:=[BlkP g 68 X.cs,RowP 95 1 X.ka X.kept.length X.kc (X.kept.map ptrT),MapO Tryz.prog 3 kI pV X.ba X.am])).symm
 have O3:=O2.perm (List.Perm.append_left _ (List.Perm.append_right l ((upd_all ok h t').map TnO).symm))
 refine Own.shut (m:=TxsL g (X.upd n t')) ?_
 unfold TxsL
 rw [upd_am ok h hp]
 exact O3
theorem nodup_len {α:Type} [DecidableEq α]:∀ {l m:List α},l.Nodup→(∀x∈l,x∈m)→l.length≤m.length
 | [],m,_,_=>Nat.zero_le _
 | x::l,m,hn,h=>by
  rw [List.nodup_cons] at hn
  have hx:=h x (by simp)
  have ih:=nodup_len (m:=m.erase x) hn.2 (fun y hy=>(List.mem_erase_of_ne (fun e=>hn.1 (by rw [← e];exact hy))).2 (h y (by simp [hy])))
  rw [List.length_erase_of_mem hx] at ih
  have:=List.length_pos_of_mem hx
  simp only [List.length_cons];omega
theorem rows_le {t:TnP} (ok:TnOk t) (hn:(keysA t.rows).Nodup):t.rows.length≤8:=by
 have h1:(keysA t.rows).length≤spots.length:=nodup_len hn (fun s hs=>by
  obtain ⟨p,hp,rfl⟩:=List.mem_map.1 hs
  exact (ok.rows p hp).1)
 unfold keysA at h1
 rw [List.length_map] at h1
 exact h1
theorem putA_self {t:TnP} (ok:TnOk t) {s:Int×Int} (h:s∈keysA t.rows):putA t.rows s true=t.rows:=by
 have hr:=ok.rows
 generalize t.rows=m at *
 clear ok
 induction m with
 | nil=>simp [keysA] at h
 | cons p m ih =>
  obtain ⟨a,b⟩:=p
  have hb:b=true:=(hr (a,b) (by simp)).2
  unfold putA
  by_cases e:a=s
  ·rw [if_pos e,hb,e]
  ·rw [if_neg e,ih (by simp only [keysA,List.map_cons,List.mem_cons] at h ⊢;rcases h with h | h;exact absurd h.symm e;exact h) (fun p hp=>hr p (by simp [hp]))]
end
section
open Go.RowKit Go.Maps
theorem add0 (g j:Nat):(⟨g,0,none⟩:Addr).add j=⟨g,j,none⟩:=by
 simp only [Addr.add]
 split<;>simp_all
theorem aggRow:AggT Tryz.prog 104 2:=⟨by kernel_rfl,by kernel_rfl⟩
theorem sl_rw:SlT Tryz.prog 250 104 (.agg #[.int .i64 0,.int .i64 0]) 2 16:=⟨by kernel_rfl,by kernel_rfl,rfl⟩
theorem nm_addr:(Tryz.f98.name == "runtime.NumGoroutine")=false:=by kernel_rfl
theorem bd_addr:Tryz.f98.body.isNone=false:=by kernel_rfl
def TnP.read (t:TnP) (s:Int×Int):TnP:={ t with rows:=putA t.rows s true }
theorem TnOk.read {t:TnP} (ok:TnOk t) (hn:(keysA t.rows).Nodup) {s:Int×Int} (hs:s∈spots):TnOk (t.read s):=by
 refine ⟨ok.log,fun p hp=>?_,ok.len,?_⟩
 ·rcases mem_putA hp with rfl | hp
  ·exact ⟨hs,rfl⟩
  ·exact ok.rows p hp
 ·have h1:=rows_le ok hn
  have h2:=putA_len t.rows s true
  show (putA t.rows s true).length≤_
  omega
theorem Own.dropSnd {B:Nat} {w:World} {P Q:HP} {l:List HP} (O:Own B w (P::Q::l)):Own B w (P::l):=O.drop 1
set_option maxRecDepth 20000 in
set_option maxHeartbeats 1500000 in
theorem read_any {B g:Nat} {X:TxP} {w:World} {l:List HP} (O:Own B w (TxsO g X::l)) (ok:TxOk X) {n:Int} (hn:In64 n) {t:TnP} (hf:X.find n=some t) {s:Int×Int} (hs:s∈spots) :
  Calls Tryz.prog 35 #[.pointer (some ⟨g,0,none⟩),.int .i64 n,.int .i64 s.1,.int .i64 s.2] w (RetW (.int .i64 0) B (TxsO g (X.upd n (t.read s))::l) w):=by
 have h4:=spots_iff.1 hs
 have hto:=ok.tn t (TxP.find_mem hf).2
 have OK:=Box.mk (And.intro ok (And.intro hf (And.intro hs hto)))
 have hi64:=spot_i64 hs
 obtain ⟨xa,xb⟩:=s
 simp only at h4 ⊢
 have O1:=Box.mk (O.newF [.int .i64 xa] 3)
 have B1:=Box.mk ((Below.refl B w).alloc O.1 (.cells #[.int .i64 xa] 3))
 have HG:=Box.mk (get_any (O.alloc (.cells #[.int .i64 xa] 3)).txs hn)
 rw [hf] at HG
 simp only [optV,errE,pV] at HG
 clear O ok hf hs hto
 go_enter Tryz.func35,Tryz.ntmps35
 go_wp2_with fail
 refine HG.out.mono ?_
 rintro e w1 ⟨rfl,hb⟩
 obtain ⟨R,hR⟩:∃R,[BlkP g 68 X.cs,RowP 95 1 X.ka X.kept.length X.kc (X.kept.map ptrT),MapO Tryz.prog 3 kI pV X.ba X.am]++((X.drop n).all.map TnO++(BlkP w.heap.size 3 [.int .i64 xa]::l))=R:=⟨_,rfl⟩
 have HRR:=Box.mk hR
 have O2:=Box.mk (show Own B w1 (BlkP t.p 100 t.cs::RowP 90 4 t.la t.log.length t.lc (recC WrP.enc t.log)::MapO Tryz.prog 104 ekR Value.bool t.br t.rows::MapO Tryz.prog 3 kI Value.bool t.bw ([]:List (Int×Bool))::R) from by rw [← hR];exact ((O1.out.below hb).front 1 rfl).takeT OK.out.1 OK.out.2.1)
 have B2:=Box.mk (B1.out.trans (hb.mono O1.out.1))
 generalize w.heap.size=gb at *
 have HGB:=Box.mk (fun (W:World) (m:List HP) (O:Own B W (m++R))=>show W.cell? ⟨gb,0,none⟩=some (.int .i64 xa) from by
  obtain ⟨F,hF,_⟩:=O.mem (P:=BlkP gb 3 [.int .i64 xa]) (by rw [← hR];simp)
  exact hF.cellOf rfl)
 clear hb HG O1 B1 hR
 have y0:=HGB.out w1 [_,_,_,_] O2.out
 go_upto_region 7 with fail
 have O3:=Box.mk (show Own B _ (BlkP w1.heap.size 104 [.int .i64 xa,.int .i64 xb]::BlkP t.p 100 t.cs::RowP 90 4 t.la t.log.length t.lc (recC WrP.enc t.log)::MapO Tryz.prog 104 ekR Value.bool t.br t.rows::MapO Tryz.prog 3 kI Value.bool t.bw ([]:List (Int×Bool))::R) from O2.out.newF [.int .i64 xa,.int .i64 xb] 104)
 have B3:=Box.mk (B2.out.alloc O2.out.1 (.cells #[.int .i64 xa,.int .i64 xb] 104))
 clear O2 B2 y0
 generalize (w1.alloc (.cells #[.int .i64 xa,.int .i64 xb] 104))=w3 at *
 generalize w1.heap.size=gx at *
 have y0:=HGB.out w3 [_,_,_,_,_] O3.out
 obtain ⟨x0,x1,x2,x3,x4,x5,x6⟩:=TnP.cells (O3.out.blk 1 rfl).1
 have k0:=(O3.out.blk 0 rfl).1.cellOf (i:=0) rfl
 have k1:=(O3.out.blk 0 rfl).1.cellOf (i:=1) rfl
 have hl1:=fun q=>((O3.out.map 4 rfl).1.eq (w':=World.drewN w3 q) rfl).look (t:=98) (e:=4) K_int kI_inj und_tset z_bool (keyI hi64.1)
 obtain ⟨kl,hkl⟩:=keyR (q:=(xa,xb)) hi64.1 hi64.2
 have hl2:=fun q=>((O3.out.map 3 rfl).1.eq (w':=World.drewN w3 q) rfl).look (t:=97) (e:=4) K_row ekR_inj und_rset z_bool hkl
 have hnd:=(O3.out.map 3 rfl).1.nodup
 have HND:=Box.mk hnd
 simp only [kI,ekR] at hl1 hl2
 clear x0 x1 x2 x3 x4 hkl
 by_cases hin:(xa,xb)∈keysA t.rows
 ·have hg:getA t.rows (xa,xb)=some true:=by
   cases hgg:getA t.rows (xa,xb) with
   | none=>exact absurd hin (getA_none.1 hgg)
   | some v=>exact congrArg some ((OK.out.2.2.2).rows _ (getA_mem hgg)).2
  rw [hg] at hl2
  have HIN:=Box.mk hin
  clear hin hg hnd
  go_quiet (fail)
  go_wp2_with fail
  go_ret
  refine ⟨rfl,?_,below_drewN B3.out _⟩
  have e1:t.read (xa,xb)=t:=by unfold TnP.read;rw [putA_self OK.out.2.2.2 HIN.out]
  rw [e1]
  have O4:=(O3.out.drop 0).drewN nq
  rw [← HRR.out] at O4
  exact (Own.giveT OK.out.1 OK.out.2.1 rfl O4).dropSnd
 ·rw [getA_none.2 hin] at hl2
  clear hin hnd
  go_quiet (fail)
  clear hl1 hl2 k0 k1 x5 x6 y0
  have O4:=Box.mk (O3.out.drewN nq)
  have B4:=Box.mk (below_drewN B3.out nq)
  clear O3 B3
  generalize (World.drewN w3 nq)=w4 at *
  have hlen:=fun ty=>(O4.out.map 3 rfl).1.len und_rset ty
  have hl8:=rows_le OK.out.2.2.2 HND.out
  obtain ⟨nr,hnr⟩:∃m,t.rows.length=m:=⟨_,rfl⟩
  rw [hnr] at hlen hl8
  have x5:=(TnP.cells (O4.out.blk 1 rfl).1).2.2.2.2.2.1
  clear hnr
  go_upto_region 10 with fail
  clear hlen x5
  have HF0:=Box.mk (And.intro (show Own B w4.drew (BlkP gx 104 [.int .i64 xa,.int .i64 xb]::BlkP t.p 100 t.cs::RowP 90 4 t.la t.log.length t.lc (recC WrP.enc t.log)::MapO Tryz.prog 104 ekR Value.bool t.br t.rows::MapO Tryz.prog 3 kI Value.bool t.bw ([]:List (Int×Bool))::R) from O4.out.drew) B4.out.drew)
  have HS0:Own B w4.drew (BlkP gx 104 [.int .i64 xa,.int .i64 xb]::BlkP t.p 100 t.cs::RowP 90 4 t.la t.log.length t.lc (recC WrP.enc t.log)::MapO Tryz.prog 3 kI Value.bool t.bw ([]:List (Int×Bool))::R)∧Below B w w4.drew:=⟨HF0.out.1.drop 3,HF0.out.2⟩
  clear O4 B4
  refine wp_region_held_drew (S:=fun w'=>(Own B w' (BlkP gx 104 [.int .i64 xa,.int .i64 xb]::BlkP t.p 100 t.cs::RowP 90 4 t.la t.log.length t.lc (recC WrP.enc t.log)::MapO Tryz.prog 3 kI Value.bool t.bw ([]:List (Int×Bool))::R)∧Below B w w')) (by kernel_rfl) HS0 (fun _=>?_)
  generalize w4.drew=wd at *
  refine tw 0 rfl HS0 ?_
  conv=>arg 8;simp [go_sem]
  refine tw 1 rfl HS0 ?_
  conv=>arg 8;simp [go_sem]
  refine tw 2 rfl HS0 ?_
  conv=>arg 8;simp [go_sem]
  refine tv 3 rfl (fun w' hS=>by have q:=(hS.1.blk 1 rfl).1.cellOf (i:=5) rfl;go_simp;all_goals with_reducible rfl) HS0 ?_
  conv=>arg 8;simp [go_sem]
  refine tk 4 (v:=.agg #[.int .i64 xa,.int .i64 xb]) rfl (yieldsIf_load_agg (by rfl) 104 (.tmp 11) rfl aggRow rfl (cs:=[.int .i64 xa,.int .i64 xb]) rfl (fun w' hS j u h=>by rw [add0];exact (hS.1.blk 0 rfl).1.cellOf h)) (HS0) ?_
  conv=>arg 8;simp [go_sem]
  refine ar 5 rfl fun K' hK'=>?_
  refine oper_litA (by rfl) 250 (.tmp 66) rfl sl_rw (cs:=[.int .i64 xa,.int .i64 xb]) rfl rfl (by omega) (by omega) ?_
  have HF1:=Box.mk (And.intro (HF0.out.1.alloc (.cells #[.int .i64 xa,.int .i64 xb] 104)) (HF0.out.2.alloc HF0.out.1.1 (.cells #[.int .i64 xa,.int .i64 xb] 104)))
  have HT2:=And.intro (HS0.1.alloc (.cells #[.int .i64 xa,.int .i64 xb] 104)) (HS0.2.alloc HS0.1.1 (.cells #[.int .i64 xa,.int .i64 xb] 104))
  refine hK'.out _ _ HT2 (fun _=>?_)
  clear hK' K'
  conv=>arg 8;simp [go_sem]
  refine ar 6 rfl fun K' hK'=>?_
  refine oper_call (by rfl) 98 [.tmp 65,.tmp 67] #[97,250] rfl (vs:=[.map (some t.br),.slice (some ⟨wd.heap.size,0,none⟩) 1 1]) rfl Tryz.func98 nm_addr bd_addr (addr_one (x:=(xa,xb)) HF1.out.1 3 rfl hi64 (Blk.new (w:=wd) (k:=wd.heap.size) (ty:=104) (arr:=#[.int .i64 xa,.int .i64 xb]) (cs:=[.int .i64 xa,.int .i64 xb]) rfl rfl)) ?_
  rintro e w9 ⟨rfl,hO9,hb9⟩
  have O9:=Box.mk (show Own B w9 (BlkP gx 104 [.int .i64 xa,.int .i64 xb]::BlkP t.p 100 t.cs::RowP 90 4 t.la t.log.length t.lc (recC WrP.enc t.log)::MapO Tryz.prog 104 ekR Value.bool t.br (putA t.rows (xa,xb) true)::MapO Tryz.prog 3 kI Value.bool t.bw ([]:List (Int×Bool))::R) from hO9)
  have B9:=Box.mk (HF1.out.2.trans hb9)
  clear hO9 hb9
  have HT3:=(show (Own _ _ _∧Below _ _ _) from And.intro (O9.out.drop 3) B9.out)
  refine ⟨_,rfl,hK'.out _ _ HT3 (fun _=>?_)⟩
  clear hK' K'
  conv=>arg 8;simp [go_sem]
  refine ⟨by kernel_rfl,?_⟩
  conv =>
   arg 5
   simp [go_sem]
  go_wp2_with fail
  go_ret
  refine ⟨rfl,?_,B9.out⟩
  have O4:=O9.out.drop 0
  rw [← HRR.out] at O4
  exact (Own.giveT (t':=t.read (xa,xb)) OK.out.1 OK.out.2.1 rfl O4).dropSnd
  all_goals skip
end
end Go.Proofs.YtlfghapllmaigaaGreatDoor
