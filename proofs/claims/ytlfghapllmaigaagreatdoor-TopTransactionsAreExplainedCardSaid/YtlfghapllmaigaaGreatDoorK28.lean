/-
  The walk of history's State; The walks of slices.Equal at rows, of history's same; The iterator of slices.Backward; the walks of Check's closures; The walks of Check's closures; the first loop of Check. Conditions: each theorem's own hypotheses.
-/
import Derived.Test.YtlfghapllmaigaaGreatDoorK27
import Derived.Test.YtlfghapllmaigaaGreatDoorK23
set_option linter.unusedVariables false
set_option linter.unusedSimpArgs false
namespace Go.Proofs.YtlfghapllmaigaaGreatDoor
section
open Go.RowKit Go.Maps
def stepH (cur:Int×Int→Option HdP) (ws:List WrP) (s:Int) (q:Int×Int):Option HdP:=match wAt ws q with
 | some w=>if w.dead then none else some (w.held s)
 | none=>cur q
theorem seeH_zero (com:List (List WrP)) (q:Int×Int):seeH com 0 q=none:=rfl
theorem seeH_succ {com:List (List WrP)} {k:Nat} (hk:k<com.length) (q:Int×Int):seeH com (k+1) q=stepH (seeH com k) (com.getD k []) ((k:Int)+1) q:=by
 unfold seeH stepH
 rw [lastC_succ hk]
 cases wAt (com.getD k []) q with
 | none=>simp
 | some w=>simp
theorem wAt_snoc (ws:List WrP) (x:WrP) (q:Int×Int):wAt (ws++[x]) q=(wAt ws q).or (if x.key=q then some x else none):=by
 unfold wAt
 rw [List.find?_append]
 congr 1
 by_cases h:x.key=q<;>simp [h]
theorem stepH_step {ws:List WrP} (ok:WsOk ws) {j:Nat} (hj:j<ws.length) (cur:Int×Int→Option HdP) (s:Int) (q:Int×Int) :
  stepH cur (ws.take (j+1)) s q=if (ws.getD j default).key=q then (if (ws.getD j default).dead then none else some ((ws.getD j default).held s)) else stepH cur (ws.take j) s q:=by
 have e:ws.take (j+1)=ws.take j++[ws.getD j default]:=take_snoc hj
 unfold stepH
 rw [e,wAt_snoc]
 by_cases h:(ws.getD j default).key=q
 ·rw [if_pos h,if_pos h]
  have hn:wAt (ws.take j) q=none:=by
   cases hw:wAt (ws.take j) q with
   | none=>rfl
   | some w =>
    obtain ⟨h1,h2⟩:=wAt_key hw
    exfalso
    have h3:=ok.keys_nd
    rw [← List.take_append_drop j ws,List.map_append,List.nodup_append] at h3
    refine h3.2.2 w.key (List.mem_map.2 ⟨w,h2,rfl⟩) (ws.getD j default).key (List.mem_map.2 ⟨_,?_,rfl⟩) (by rw [h1,h])
    rw [List.getD_eq_getElem?_getD,List.getElem?_eq_getElem hj]
    exact List.mem_of_getElem? (i:=0) (by rw [List.getElem?_drop];simp [hj])
  rw [hn];rfl
 ·rw [if_neg h,if_neg h]
  cases wAt (ws.take j) q<;>rfl
theorem stepH_zero (cur:Int×Int→Option HdP) (s:Int) (q:Int×Int):stepH cur [] s q=cur q:=rfl
structure RowsM (M:List ((Int×Int)×HdP)) (P:Int×Int→Option HdP):Prop where
 get:∀q,getA M q=P q
 ok:∀q x,P q=some x→x.key=q∧q∈spots
theorem stepH_spot {cur:Int×Int→Option HdP} (hcur:∀q x,cur q=some x→x.key=q∧q∈spots) {ws:List WrP} (hs:∀x∈ws,x.key∈spots) {s:Int}:∀q x,stepH cur ws s q=some x→x.key=q∧q∈spots:=by
 intro q x h
 unfold stepH at h
 cases hw:wAt ws q with
 | none=>rw [hw] at h;exact hcur q x h
 | some w =>
  rw [hw] at h
  obtain ⟨h1,h2⟩:=wAt_key hw
  simp only at h
  split at h
  ·cases h
  ·cases h;exact ⟨h1,by rw [← h1];exact hs w h2⟩
theorem RowsM.canonH {M:List ((Int×Int)×HdP)} {com:List (List WrP)} {k:Nat} (hM:RowsM M (seeH com k)) (hn:(keysA M).Nodup) {ys xs:List HdP} (hp:ys.Perm xs) (hx:xs.Perm (M.map (·.2))) (ho:ys.Pairwise (Le2 HdP.table HdP.row)):ys=rowsH com k:=by
 have hmem:∀p∈M,p.2.key=p.1∧p.1∈spots:=fun p hpm=>by
  have h1:=getA_of_mem hn (show (p.1,p.2)∈M from hpm)
  rw [hM.get] at h1
  exact hM.ok _ _ h1
 have h:=canon HdP.key hn (fun q hq=>by
  obtain ⟨p,hpm,rfl⟩:=List.mem_map.1 hq
  exact (hmem p hpm).2) (fun p hpm=>(hmem p hpm).1) hp hx ho
 rw [h,show getA M=seeH com k from funext hM.get];rfl
abbrev HdO (b:Nat) (m:List ((Int×Int)×HdP)):HP:=MapO Tryz.prog 162 ekR HdP.v b m
theorem RowsM.len {M:List ((Int×Int)×HdP)} {P:Int×Int→Option HdP} (hM:RowsM M P) (hn:(keysA M).Nodup):M.length≤8:=by
 have h3:=nodup_len hn (m:=spots) (fun q hq=>by
  obtain ⟨p,hpm,rfl⟩:=List.mem_map.1 hq
  have h1:=getA_of_mem hn (show (p.1,p.2)∈M from hpm)
  rw [hM.get] at h1
  exact (hM.ok _ _ h1).2)
 unfold keysA at h3
 rw [List.length_map] at h3
 exact h3
set_option maxRecDepth 20000 in
set_option maxHeartbeats 8000000 in
theorem state_any {h:List HpP} {f:Nat→Sg} (r:Run h f) {a:Option Addr} {n c:Nat} {w:World} (hr:HsRd w a n c h) (hn:n≤1000) {oa:Option Addr} {om oc:Nat} (ho:Rd w oa om oc 1 (intVals ((f n).ids.take om))) (hom:om≤(f n).com.length) {kk:Nat} (hkk:kk≤om) :
  Calls Tryz.prog 18 #[.slice a n c,.slice oa om oc,.int .i64 kk] w (RetOwn 136 4 (rowsH (f n).cw kk).length (recC HdP.enc (rowsH (f n).cw kk)) w):=by
 have HR:=Box.mk hr
 have HL:=Box.mk hr.len
 have RU:=Box.mk r
 have HO:=Box.mk ho
 have hcap:=ho.hcap
 have hok:=r.ok n (by rw [hr.len];exact Nat.le_refl _)
 have hcl:=(r.len n (by rw [hr.len];exact Nat.le_refl _)).2
 have HSG:=Box.mk (And.intro hok (And.intro hom hcl))
 have HAS:=Box.mk (asks_any r hr hn)
 have hmm:=@run_makeMap Tryz.prog
 clear hr r ho hok hom
 go_enter Tryz.func18,Tryz.ntmps18
 go_wp2_with fail
 refine HAS.out.mono ?_
 rintro e w1 ⟨hb1,ba,ma,rfl,hO1,hA⟩
 have O2:=Box.mk (show Own w.heap.size (w1.alloc (.map #[] 0)) [IntO ba ma,HdO w1.heap.size []] from Own.newMap (P:=Tryz.prog) (k:=162) (ek:=ekR) (ev:=HdP.v) hO1)
 have B2:=Box.mk (hb1.alloc hb1.size (.map #[] 0))
 have HA:=Box.mk hA
 have hmin:min (kk:Int) (om:Int)=(kk:Int):=by omega
 have hmax:max (0:Int) (kk:Int)=(kk:Int):=by omega
 have hkc:kk≤oc:=by omega
 clear hb1 hO1 hA HAS
 go_wp2_with fail
 generalize hbm:w1.heap.size=bm at *
 generalize (w1.alloc (.map #[] 0))=w2 at *
 clear hbm hmin hmax
 go_loopg [27] kk (fun gg s27 wr=>∃i:Nat,i≤kk∧kk - i≤gg∧s27=.int .i64 i∧Box (∃M,Own w.heap.size wr [IntO ba ma,HdO bm M]∧Below w.heap.size w wr∧RowsM M (seeH (f n).cw i)))
 case atStart=>exact ⟨0,Nat.zero_le _,by omega,rfl,⟨[],O2.out,B2.out,⟨fun q=>rfl,fun q x e=>by rw [seeH_zero] at e;cases e⟩⟩⟩
 clear O2 B2
 case round =>
  obtain ⟨i,hi,hg,rfl,HI⟩:=hrel
  obtain ⟨M,hOM,hBM,hRM⟩:=HI.out
  have HI:=Box.mk (And.intro hOM (And.intro hBM hRM))
  clear hOM hBM hRM
  by_cases hlt:i<kk
  ·obtain ⟨ob,ooff,rfl,hco⟩:=(HO.out.below HI.out.2.1 (Nat.le_refl _)).intAtD i (by omega)
   have hic:i<(f n).com.length:=by have:=HSG.out.2.1;omega
   have hp:((f n).ids.take om).getD i 0=((f n).com[i]).1:=by
    rw [List.getD_eq_getElem?_getD,List.getElem?_take_of_lt (by omega)]
    unfold Sg.ids
    rw [List.getElem?_map,List.getElem?_eq_getElem hic];rfl
   have hws:(f n).cw.getD i []=((f n).com[i]).2:=by
    unfold Sg.cw
    rw [List.getD_eq_getElem?_getD,List.getElem?_map,List.getElem?_eq_getElem hic];rfl
   have t:=RU.out.trc n (by rw [HL.out];exact Nat.le_refl _)
   rw [List.take_of_length_le (by rw [HL.out];exact Nat.le_refl _)] at t
   obtain ⟨j,hj,hj1,hj2,hj3⟩:=t.asked ((f n).com[i]) (List.mem_append.2 (.inl (List.getElem_mem hic)))
   rw [HL.out] at hj
   have hmem:=HSG.out.1.mem ((f n).com[i]) (List.mem_append.2 (.inl (List.getElem_mem hic)))
   have hnn:=(RU.out.len n (by rw [HL.out];exact Nat.le_refl _)).1
   rw [hp] at hco
   have hga:=HA.out.fwd j hj hj1
   rw [hj2] at hga
   have htx:In64 ((f n).com[i]).1:=by unfold In64;omega
   have HSEE:=Box.mk (fun q=>seeH_succ (com:=(f n).cw) (k:=i) (by unfold Sg.cw;rw [List.length_map];exact hic) q)
   have HWS:=Box.mk hws
   have HWOK:=Box.mk hmem.2.2
   clear hmem hnn hp hws
   obtain ⟨b,off,x,rfl,hx,hxm,hxr,c0,c1,c2',c3',c4'⟩:=(HR.out.below HI.out.2.1 (Nat.le_refl _)).at j hj
   rw [hx] at hj3
   obtain ⟨tx,htx2⟩:∃tx,((f n).com[i]).1=tx:=⟨_,rfl⟩
   obtain ⟨ws,hws2⟩:∃ws,((f n).com[i]).2=ws:=⟨_,rfl⟩
   rw [htx2] at hga htx hco
   rw [hws2] at hj3 HWS HWOK
   have hlook:=(HI.out.1.map 0 rfl).1.look2 (t:=30) (e:=3) K_int kI_inj und_mii z_int (keyI htx)
   rw [hga] at hlook
   simp only [kI,Option.map_some,Option.getD_some,Option.isSome_some] at hlook
   have HWR:=Box.mk (HR.out.hp _ hxm).wr
   have hw8:=HWOK.out.len8
   obtain ⟨xk,xt,xs,wa,wc,ws',ra,rc,rs⟩:=x
   simp only at c3' hj3 HWR
   subst hj3
   obtain ⟨wm,hwm⟩:∃wm,ws'.length=wm:=⟨_,rfl⟩
   rw [hwm] at c3' HWR hw8
   have HWM:=Box.mk hwm
   clear hwm c0 c1 c2' c4' hx hxm hxr htx2 hws2 hga t hj1 hj2 htx
   have HI:=Box.mk HI.out
   go_upto_region 8 with fail
   clear c3' hco hlook
   go_wp2_with fail
   go_loopg [46] wm (fun gg s46 wq=>∃jj:Nat,jj≤wm∧wm - jj≤gg∧s46=.int .i64 jj∧Box (∃M,Own w.heap.size wq [IntO ba ma,HdO bm M]∧Below w.heap.size w wq∧RowsM M (stepH (seeH (f n).cw i) (ws'.take jj) ((i:Int)+1))))
   case atStart=>exact ⟨0,Nat.zero_le _,by omega,rfl,⟨M,HI.out.1,HI.out.2.1,⟨fun q=>by rw [List.take_zero,stepH_zero];exact HI.out.2.2.get q,fun q x e=>by rw [List.take_zero,stepH_zero] at e;exact HI.out.2.2.ok q x e⟩⟩⟩
   case round =>
    obtain ⟨jj,hjj,hgj,rfl,HJ⟩:=hrel
    obtain ⟨M2,hO2,hBw,hRM2⟩:=HJ.out
    have HJ:=Box.mk (And.intro hO2 (And.intro hBw hRM2))
    clear hO2 hBw hRM2
    by_cases hjl:jj<wm
    ·obtain ⟨vb,voff,rfl,_,hcl⟩:=(HWR.out.below HJ.out.2.1 (Nat.le_refl _)).recAt WrP.enc_len (by omega) jj hjl
     have hst:=fun q=>stepH_step HWOK.out (j:=jj) (by rw [HWM.out];exact hjl) (seeH (f n).cw i) ((i:Int)+1) q
     obtain ⟨y,hy⟩:∃y,ws'.getD jj default=y:=⟨_,rfl⟩
     have hym:y∈ws':=by rw [← hy];exact getD_mem (by rw [HWM.out];exact hjl)
     have hsp:=HWOK.out.spot y hym
     rw [hy] at hcl
     simp only [hy] at hst
     have HSTEP:=Box.mk hst
     have hspot:=fun (jj:Nat)=>stepH_spot (s:=(i:Int)+1) HI.out.2.2.ok (ws:=ws'.take jj) (fun x hx=>HWOK.out.spot x (List.mem_of_mem_take hx))
     have HSP:=Box.mk (fun jj q x (e:stepH (seeH (f n).cw i) (ws'.take jj) ((i:Int)+1) q=some x)=>hspot jj q x (by
      have:(fun q=>getA M q)=seeH (f n).cw i:=funext HI.out.2.2.get
      exact e))
     clear hspot hst hy hym
     obtain ⟨xt,xr,xd,va,vc,xl⟩:=y
     unfold WrP.key at hsp
     have hsp4:=spots_iff.1 hsp
     simp only at hsp4
     have c0:=hcl 0 _ rfl
     have c1:=hcl 1 _ rfl
     have c2':=hcl 2 _ rfl
     have c3':=hcl 3 _ rfl
     simp only [Nat.add_zero] at c0 c1 c2' c3'
     obtain ⟨xn,hxn⟩:∃xn,xl.length=xn:=⟨_,rfl⟩
     rw [hxn] at c3'
     have HXN:=Box.mk hxn
     clear hxn hcl
     have O4:=Box.mk (HJ.out.1.new [.int .i64 xt,.int .i64 xr,.bool xd,.slice va xn vc] 90)
     have B4:=Box.mk (HJ.out.2.1.alloc HJ.out.2.1.size (.cells #[.int .i64 xt,.int .i64 xr,.bool xd,.slice va xn vc] 90))
     have HRM:=Box.mk HJ.out.2.2
     clear HJ
     go_upto_region 10 with fail
     clear c0 c1 c2' c3'
     generalize wr.heap.size=gx at *
     generalize (wr.alloc (.cells #[.int .i64 xt,.int .i64 xr,.bool xd,.slice va xn vc] 90))=w6 at *
     have y0:=(O4.out.blk 2 rfl).1.cellOf (i:=0) rfl
     have y1:=(O4.out.blk 2 rfl).1.cellOf (i:=1) rfl
     have O5:=Box.mk (O4.out.new [.int .i64 xt,.int .i64 xr] 162)
     have B5:=Box.mk (B4.out.alloc B4.out.size (.cells #[.int .i64 xt,.int .i64 xr] 162))
     go_upto_region 11 with fail
     clear y0 y1 O4 B4
     generalize w6.heap.size=gy at *
     generalize (w6.alloc (.cells #[.int .i64 xt,.int .i64 xr] 162))=w7 at *
     have y0:=(O5.out.blk 2 rfl).1.cellOf (i:=0) rfl
     have y1:=(O5.out.blk 2 rfl).1.cellOf (i:=1) rfl
     have y2:=(O5.out.blk 2 rfl).1.cellOf (i:=2) rfl
     have y3:=(O5.out.blk 2 rfl).1.cellOf (i:=3) rfl
     have v0:=(O5.out.blk 3 rfl).1.cellOf (i:=0) rfl
     have v1:=(O5.out.blk 3 rfl).1.cellOf (i:=1) rfl
     obtain ⟨kl,hkl⟩:=keyS (q:=(xt,xr)) (by unfold In64;omega) (by unfold In64;omega)
     have HND:=Box.mk (O5.out.map 1 rfl).1.nodup
     cases xd with
     | true =>
      obtain ⟨w8,hrun,O6,hb6,_⟩:=O5.out.delMap K_spot ekR_inj und_spot 1 rfl hkl 0
      have O6:=Box.mk (And.intro (show Own w.heap.size w8 [IntO ba ma,HdO bm (delA M2 (xt,xr))] from (O6.drop 2).drop 2) (B5.out.trans hb6))
      have HRN:=Box.mk (show RowsM (delA M2 (xt,xr)) (stepH (seeH (f n).cw i) (ws'.take (jj+1)) ((i:Int)+1)) from ⟨fun q=>by
       rw [getA_delA HND.out,HSTEP.out q,HRM.out.get q]
       unfold WrP.key
       by_cases e:((xt,xr):Int×Int)=q<;>simp [e],fun q x e=>HSP.out _ q x e⟩)
      simp only [ekR] at hrun
      clear hb6 O5 B5 hkl hsp
      go_wp2_with fail
      go_roundg (wm - (jj+1))
      case measure=>omega
      case rel=>exact ⟨jj+1,by omega,by omega,by go_num,⟨_,O6.out.1,O6.out.2,HRN.out⟩⟩
     | false =>
      obtain ⟨w8,hrun,O6,hb6,_⟩:=O5.out.putMap K_spot ekR_inj und_spot 1 rfl hkl (⟨xt,xr,(i:Int)+1,va,vc,xl⟩:HdP)
      have O6:=Box.mk (And.intro (show Own w.heap.size w8 [IntO ba ma,HdO bm (putA M2 (xt,xr) ⟨xt,xr,(i:Int)+1,va,vc,xl⟩)] from (O6.drop 2).drop 2) (B5.out.trans hb6))
      have HRN:=Box.mk (show RowsM (putA M2 (xt,xr) ⟨xt,xr,(i:Int)+1,va,vc,xl⟩) (stepH (seeH (f n).cw i) (ws'.take (jj+1)) ((i:Int)+1)) from ⟨fun q=>by
       rw [getA_putA,HSTEP.out q,HRM.out.get q]
       unfold WrP.key WrP.held
       by_cases e:((xt,xr):Int×Int)=q<;>simp [e],fun q x e=>HSP.out _ q x e⟩)
      simp only [ekR,HdP.v,HXN.out] at hrun
      clear hb6 O5 B5 hkl hsp
      go_wp2_with fail
      go_roundg (wm - (jj+1))
      case measure=>omega
      case rel=>exact ⟨jj+1,by omega,by omega,by go_num,⟨_,O6.out.1,O6.out.2,HRN.out⟩⟩
    ·obtain rfl:jj=wm:=by omega
     have HTK:=Box.mk (show ws'.take jj=ws' from List.take_of_length_le (by rw [HWM.out];exact Nat.le_refl _))
     have HNX:=Box.mk (show RowsM M2 (seeH (f n).cw (i+1)) from by
      have h1:=HJ.out.2.2
      rw [HTK.out] at h1
      have e:seeH (f n).cw (i+1)=stepH (seeH (f n).cw i) ws' ((i:Int)+1):=funext fun q=>by rw [HSEE.out q,HWS.out]
      rw [e];exact h1)
     go_wp2_with fail
     go_roundg (kk - (i+1))
     case measure=>omega
     case rel=>exact ⟨i+1,by omega,by omega,by go_num,⟨M2,HJ.out.1,HJ.out.2.1,HNX.out⟩⟩
  ·obtain rfl:i=kk:=by omega
   have HM8:=Box.mk (HI.out.2.2.len (HI.out.1.map 1 rfl).1.nodup)
   have HCN:=Box.mk (fun ys xs (hp:List.Perm ys xs) (hx:xs.Perm (M.map (·.2))) (ho:ys.Pairwise (Le2 HdP.table HdP.row))=>HI.out.2.2.canonH (HI.out.1.map 1 rfl).1.nodup hp hx ho)
   go_wp2_with fail
   refine (mk_hd bm wr).mono ?_
   rintro e w3 ⟨rfl,rfl⟩
   have hIt:=it_hd (w:=wr.alloc (.cells #[.map (some bm)] 161)) (g:=wr.heap.size) ekR_inj und_spot ((HI.out.1.map 1 rfl).1.below ((Below.refl wr.heap.size wr).alloc (Nat.le_refl _) _) (Nat.le_refl _)) ((Blk.new (w:=wr) (k:=wr.heap.size) (ty:=161) (arr:=#[.map (some bm)]) (cs:=[.map (some bm)]) rfl rfl).cellOf (i:=0) rfl)
   have HS:=Box.mk (srtd_hd en_hd hIt (by have:=HM8.out;omega) (fun xs hxs=>by have:=hxs.length_eq;rw [List.length_map] at this;have:=HM8.out;omega))
   have HB:=Box.mk (HI.out.2.1.new (Nat.le_refl _) (.cells #[.map (some bm)] 161))
   clear hIt
   go_wp2_with fail
   refine HS.out.mono ?_
   rintro e w4 ⟨hb4,ys,a4,c4,⟨hso,xs,hx,hp⟩,rfl,hrow⟩
   obtain rfl:=HCN.out ys xs hp hx hso
   have HF:=Box.mk (And.intro (HB.out.trans (hb4.mono HB.out.size)) (own_base hrow HB.out.size))
   clear hb4 hrow hp hx hso
   go_wp2_with fail
   go_ret
   exact ⟨HF.out.1,a4,c4,rfl,HF.out.2⟩
end
section
open Go.RowKit Go.Maps
theorem run_neqS (xk xn:Int) (xs:List UInt8) (w:World):(binOp .neq 64 (.agg #[.int .i64 xk,.int .i64 xn,.string ⟨xs.toArray⟩]) (.agg #[.int .i64 xk,.int .i64 xn,.string ⟨xs.toArray⟩])).run Tryz.prog w=.ok (.bool false) w:=by
 go_simp
set_option maxRecDepth 20000 in
set_option maxHeartbeats 2000000 in
theorem equal_any {l:List Val} {a b:Option Addr} {n cap cap2:Nat} {w:World} (h1:Rd w a n cap 3 (recC Val.enc l)) (h2:Rd w b n cap2 3 (recC Val.enc l)) :
  Calls Tryz.prog 125 #[.slice a n cap,.slice b n cap2] w (RetV (.bool true) w):=by
 have mx:=h1.lenMax
 have R1:=Box.mk h1;have R2:=Box.mk h2
 clear h1 h2
 go_enter Tryz.func125,Tryz.ntmps125
 go_wp2_with fail
 go_loopw [13] (fun i wr=>∃k:Nat,k≤n∧i=.int .i64 k∧∃q,wr=w.drewN q) (fun i _=>n - (intOf i).toNat)
 case atStart=>exact ⟨0,Nat.zero_le _,rfl,0,rfl⟩
 case round =>
  obtain ⟨k,hk,rfl,q,rfl⟩:=hrel
  by_cases hl:k<n
  ·obtain ⟨g,off,rfl,_,hc⟩:=R1.out.recAt Val.enc_len (by omega) k hl
   obtain ⟨g2,off2,rfl,_,hc2⟩:=R2.out.recAt Val.enc_len (by omega) k hl
   generalize l.getD k default=x at *
   obtain ⟨xk,xn,xs⟩:=x
   have hq:=run_neqS xk xn xs
   have c0:=hc 0 _ rfl
   have c1:=hc 1 _ rfl
   have c2:=hc 2 _ rfl
   have d0:=hc2 0 _ rfl
   have d1:=hc2 1 _ rfl
   have d2:=hc2 2 _ rfl
   simp only [Nat.add_zero] at c0 c1 c2 d0 d1 d2
   clear hc hc2
   go_wp2_with fail
   go_quiet (fail)
   go_wp2_with fail
   go_roundw
   case rel=>exact ⟨k+1,by omega,by go_num,_,rfl⟩
   case measure=>simp [intOf];omega
  ·go_wp2_with fail
   go_ret
   exact ⟨rfl,below_drewN (Below.refl _ _) _⟩
theorem sameF_enters (args:Array Value) (w:World):(callFunc 124 args).run Tryz.prog w=.ok (.enter 124 args) w:=enters_fn Tryz.func124 (by kernel_rfl) (by kernel_rfl) args w
set_option maxRecDepth 20000 in
set_option maxHeartbeats 2000000 in
theorem sameF_any {x:HdP} {w:World} (hv:Rd w x.va x.vals.length x.vc 3 (recC Val.enc x.vals)):Calls Tryz.prog 124 #[x.v,x.v] w (RetV (.bool true) w):=by
 have HC:=Box.mk (fun w=>cmp_hd x x w)
 have hc0:cmp2 x.table x.row x.table x.row=0:=by unfold cmp2 or2I cmpI;simp
 rw [hc0] at HC
 clear hc0
 obtain ⟨xt,xr,xs,va,vc,xl⟩:=x
 simp only [HdP.v] at HC hv ⊢
 obtain ⟨xn,hxn⟩:∃xn,xl.length=xn:=⟨_,rfl⟩
 rw [hxn] at HC hv ⊢
 have HV:=Box.mk hv
 clear hxn hv
 have O2:=Box.mk ((((Own.start w).new [.int .i64 xt,.int .i64 xr,.int .i64 xs,.slice va xn vc] 136)).new [.int .i64 xt,.int .i64 xr,.int .i64 xs,.slice va xn vc] 136)
 have B2:=Box.mk (((Below.refl w.heap.size w).alloc (Nat.le_refl _) (.cells #[.int .i64 xt,.int .i64 xr,.int .i64 xs,.slice va xn vc] 136)).alloc (by simp) (.cells #[.int .i64 xt,.int .i64 xr,.int .i64 xs,.slice va xn vc] 136))
 simp only [World.size_alloc,List.nil_append,List.cons_append] at O2
 go_enter Tryz.func124,Tryz.ntmps124
 go_upto_region 1 with fail
 generalize ((w.alloc (.cells #[.int .i64 xt,.int .i64 xr,.int .i64 xs,.slice va xn vc] 136)).alloc (.cells #[.int .i64 xt,.int .i64 xr,.int .i64 xs,.slice va xn vc] 136))=w2 at *
 have x0:=(O2.out.blk 0 rfl).1.cellOf (i:=0) rfl
 have x1:=(O2.out.blk 0 rfl).1.cellOf (i:=1) rfl
 have x2:=(O2.out.blk 0 rfl).1.cellOf (i:=2) rfl
 have x3:=(O2.out.blk 0 rfl).1.cellOf (i:=3) rfl
 have y0:=(O2.out.blk 1 rfl).1.cellOf (i:=0) rfl
 have y1:=(O2.out.blk 1 rfl).1.cellOf (i:=1) rfl
 have y2:=(O2.out.blk 1 rfl).1.cellOf (i:=2) rfl
 have y3:=(O2.out.blk 1 rfl).1.cellOf (i:=3) rfl
 go_wp2_with fail
 refine (HC.out _).mono ?_
 rintro e w3 ⟨rfl,hg3⟩
 have O3:=Box.mk (O2.out.below hg3.below)
 have B3:=Box.mk (B2.out.trans (hg3.below.mono O2.out.1))
 clear x0 x1 x2 x3 y0 y1 y2 y3 O2 B2 hg3
 have x2:=(O3.out.blk 0 rfl).1.cellOf (i:=2) rfl
 have x3:=(O3.out.blk 0 rfl).1.cellOf (i:=3) rfl
 have y2:=(O3.out.blk 1 rfl).1.cellOf (i:=2) rfl
 have y3:=(O3.out.blk 1 rfl).1.cellOf (i:=3) rfl
 have HE:=Box.mk (equal_any (HV.out.below B3.out (Nat.le_refl _)) (HV.out.below B3.out (Nat.le_refl _)))
 go_wp2_with fail
 refine HE.out.mono ?_
 rintro e w4 ⟨rfl,hb4⟩
 have B4:=Box.mk (B3.out.trans (hb4.mono B3.out.size))
 clear hb4
 go_wp2_with fail
 go_ret
 exact ⟨rfl,B4.out⟩
set_option maxRecDepth 20000 in
set_option maxHeartbeats 2000000 in
theorem eqf_any {xs:List HdP} {a b:Option Addr} {n c c2:Nat} {w:World} (h1:Rd w a n c 4 (recC HdP.enc xs)) (h2:Rd w b n c2 4 (recC HdP.enc xs)) (hv:∀x∈xs,Rd w x.va x.vals.length x.vc 3 (recC Val.enc x.vals)) :
  Calls Tryz.prog 123 #[.slice a n c,.slice b n c2,.func (.func 124) #[] #[]] w (RetV (.bool true) w):=by
 have mx:=h1.lenMax
 have hln:=h1.rlen HdP.enc_len (by omega)
 have R1:=Box.mk h1;have R2:=Box.mk h2
 have HV:=Box.mk hv
 have HL:=Box.mk hln
 have hen:=sameF_enters
 clear h1 h2 hv hln
 go_enter Tryz.func123,Tryz.ntmps123
 go_wp2_with fail
 go_loopw [17] (fun i wr=>∃k:Nat,k≤n∧i=.int .i64 k∧Box (Below w.heap.size w wr)) (fun i _=>n - (intOf i).toNat)
 case atStart=>exact ⟨0,Nat.zero_le _,rfl,⟨Below.refl _ _⟩⟩
 case round =>
  obtain ⟨k,hk,rfl,HI⟩:=hrel
  by_cases hl:k<n
  ·obtain ⟨g,off,rfl,_,hc⟩:=(R1.out.below HI.out (Nat.le_refl _)).recAt HdP.enc_len (by omega) k hl
   obtain ⟨g2,off2,rfl,_,hc2⟩:=(R2.out.below HI.out (Nat.le_refl _)).recAt HdP.enc_len (by omega) k hl
   have hxm:xs.getD k default∈xs:=getD_mem (by rw [HL.out];exact hl)
   generalize xs.getD k default=x at *
   have HX:=Box.mk (HV.out x hxm)
   have HCL:=Box.mk (fun w' (hb:Below w.heap.size w w')=>sameF_any (x:=x) (HX.out.below hb (Nat.le_refl _)))
   obtain ⟨xt,xr,xss,va,vc,xl⟩:=x
   have c0:=hc 0 _ rfl
   have c1:=hc 1 _ rfl
   have c2:=hc 2 _ rfl
   have c3:=hc 3 _ rfl
   have d0:=hc2 0 _ rfl
   have d1:=hc2 1 _ rfl
   have d2:=hc2 2 _ rfl
   have d3:=hc2 3 _ rfl
   simp only [Nat.add_zero] at c0 c1 c2 c3 d0 d1 d2 d3
   simp only [HdP.v] at HCL
   generalize xl.length=xn at *
   clear hc hc2 hxm HX
   have O4:=Box.mk (((Own.start wr).new [.int .i64 xt,.int .i64 xr,.int .i64 xss,.slice va xn vc] 136).new [.int .i64 xt,.int .i64 xr,.int .i64 xss,.slice va xn vc] 136)
   have B4:=Box.mk ((HI.out.alloc HI.out.size (.cells #[.int .i64 xt,.int .i64 xr,.int .i64 xss,.slice va xn vc] 136)).alloc (by have:=HI.out.size;simp;omega) (.cells #[.int .i64 xt,.int .i64 xr,.int .i64 xss,.slice va xn vc] 136))
   simp only [World.size_alloc,List.nil_append,List.cons_append] at O4
   go_upto_region 7 with fail
   clear c0 c1 c2 c3 d0 d1 d2 d3
   generalize ((wr.alloc (.cells #[.int .i64 xt,.int .i64 xr,.int .i64 xss,.slice va xn vc] 136)).alloc (.cells #[.int .i64 xt,.int .i64 xr,.int .i64 xss,.slice va xn vc] 136))=w4 at *
   have x0:=(O4.out.blk 0 rfl).1.cellOf (i:=0) rfl
   have x1:=(O4.out.blk 0 rfl).1.cellOf (i:=1) rfl
   have x2:=(O4.out.blk 0 rfl).1.cellOf (i:=2) rfl
   have x3:=(O4.out.blk 0 rfl).1.cellOf (i:=3) rfl
   have y0:=(O4.out.blk 1 rfl).1.cellOf (i:=0) rfl
   have y1:=(O4.out.blk 1 rfl).1.cellOf (i:=1) rfl
   have y2:=(O4.out.blk 1 rfl).1.cellOf (i:=2) rfl
   have y3:=(O4.out.blk 1 rfl).1.cellOf (i:=3) rfl
   go_wp2_with fail
   refine (HCL.out _ B4.out).mono ?_
   rintro e w5 ⟨rfl,hb5⟩
   have B5:=Box.mk (B4.out.trans (hb5.mono B4.out.size))
   clear hb5 x0 x1 x2 x3 y0 y1 y2 y3
   go_wp2_with fail
   go_roundw
   case rel=>exact ⟨k+1,by omega,by go_num,B5⟩
   case measure=>simp [intOf];omega
  ·go_wp2_with fail
   go_ret
   exact ⟨rfl,HI.out⟩
set_option maxRecDepth 20000 in
set_option maxHeartbeats 1000000 in
theorem same_any {xs:List HdP} {a b:Option Addr} {n c c2:Nat} {w:World} (h1:Rd w a n c 4 (recC HdP.enc xs)) (h2:Rd w b n c2 4 (recC HdP.enc xs)) (hv:∀x∈xs,Rd w x.va x.vals.length x.vc 3 (recC Val.enc x.vals)) :
  Calls Tryz.prog 70 #[.slice a n c,.slice b n c2] w (RetV (.bool true) w):=by
 have HE:=Box.mk (eqf_any h1 h2 hv)
 clear h1 h2 hv
 go_enter Tryz.func70,Tryz.ntmps70
 go_wp2_with fail
 refine HE.out.mono ?_
 rintro e w1 ⟨rfl,hb1⟩
 go_wp2_with fail
 go_ret
 exact ⟨rfl,hb1⟩
end
section
open Go.RowKit Go.Maps
attribute [local go_sem] Oper.semAt_some
set_option maxRecDepth 20000 in
theorem mk_back (a:Option Addr) (n c:Nat) (w:World):Calls Tryz.prog 74 #[.slice a n c] w fun e w'=>e=.returned (.func (.func 127) #[] #[.pointer (some ⟨w.heap.size,0,none⟩)])∧w'=w.alloc (.cells #[.slice a n c] 44):=by
 go_enter Tryz.func74,Tryz.ntmps74
 go_wp2_with fail
 go_ret
 exact ⟨rfl,rfl⟩
theorem en_back (args:Array Value) (w:World):(callFunc 127 args).run Tryz.prog w=.ok (.enter 127 args) w:=enters_fn Tryz.func127 (by kernel_rfl) (by kernel_rfl) args w
def backL (l:List Int) (k:Nat):List (Nat×Int):=(List.range k).map fun i=>(l.length - 1 - i,l.getD (l.length - 1 - i) 0)
theorem backL_succ (l:List Int) (k:Nat):backL l (k+1)=backL l k++[(l.length - 1 - k,l.getD (l.length - 1 - k) 0)]:=by
 unfold backL
 rw [List.range_succ,List.map_append];rfl
set_option maxRecDepth 100000 in
set_option maxHeartbeats 2000000 in
theorem it_back {w w0:World} {g B:Nat} {a:Option Addr} {n c:Nat} {l:List Int} (hr:Rd w0 a n c 1 (intVals l)) (hw0:w0.heap.size≤B) (hn:n≤1000000) (hb:Below B w0 w) :
  IterO 127 #[.pointer (some ⟨g,0,none⟩)] (fun x:Nat×Int=>#[.int .i64 x.1,.int .i64 x.2]) (fun _=>[]) (fun x=>x.1<l.length∧x.2=l.getD x.1 0) (fun xs=>xs=backL l n) n B [BlkP g 44 [.slice a n c]] w:=by
 intro ll Mine W hW O hY
 have HL:=Box.mk hr.ilen
 have HR:=Box.mk (And.intro hr hw0)
 have HB:=Box.mk (And.intro (hb.trans hW) (Below.refl B W))
 have O1:=Box.mk (show Own B W (Mine []++ImmO []::[BlkP g 44 [.slice a n c]]) from by
  have h1:=O.immStart
  rw [List.append_assoc] at h1
  exact h1.perm ((List.perm_append_comm (l₁:=[BlkP g 44 [.slice a n c]]) (l₂:=[ImmO []])).append_left _))
 have hcW:=(O.blk (Mine []).length (g:=g) (ty:=44) (cs:=[.slice a n c]) (by simp)).1.cellOf (i:=0) rfl
 clear hr hw0 hb hW O
 refine callsIn_of_wp Tryz.func127 rfl trivial ?_ rfl
 simp only [Tryz.ntmps127,List.size_toArray,List.length_cons,List.length_nil,Nat.reduceAdd,Nat.reduceSub,Array.replicate_succ,Array.replicate_zero,List.push_toArray,List.append_toArray,List.nil_append,List.cons_append]
 gi_wp2
 gi_loopg [3] n (fun gg s3 wr=>∃k:Nat,k≤n∧n - k≤gg∧s3=.int .i64 ((n:Int) - 1 - k)∧Box (Own B wr (Mine (backL l k)++ImmO []::[BlkP g 44 [.slice a n c]])∧Below B W wr))
 case atStart=>exact ⟨0,Nat.zero_le _,by omega,by simp,⟨O1.out,HB.out.2⟩⟩
 case round =>
  obtain ⟨k,hk,hg,rfl,HI⟩:=hrel
  by_cases hlt:k<n
  ·obtain ⟨i,hi⟩:∃i,n - 1 - k=i:=⟨_,rfl⟩
   have hii:(n:Int) - 1 - (k:Int)=(i:Int):=by omega
   rw [hii]
   obtain ⟨b,off,rfl,hc⟩:=(HR.out.1.below (HB.out.1.trans HI.out.2) HR.out.2).intAtD i (by omega)
   have hcg:=(HI.out.1.blk ((Mine (backL l k)).length+1) (g:=g) (ty:=44) (cs:=[.slice (some ⟨b,off,none⟩) n c]) (by simp)).1.cellOf (i:=0) rfl
   obtain ⟨fn,tmps,assign,body,hy,hR⟩:=hY (backL l k) (i,l.getD i 0) [] _ wr HI.out.1 (by simp) ⟨by rw [HL.out];omega,rfl⟩ (by unfold backL;simpa using hlt)
   have HS:=Box.mk (show backL l k++[(i,l.getD i 0)]=backL l (k+1) from by rw [backL_succ,HL.out,hi])
   have HBW:=Box.mk HI.out.2
   simp only at hy
   generalize l.getD i 0=x at *
   clear HI hii
   gi_wp2
   refine hR.mono ?_
   rintro e W3 (⟨rfl,hO7,hB7⟩)
   gi_wp2
   gi_roundg (n - (k+1))
   case measure=>omega
   case rel=>exact ⟨k+1,by omega,by omega,by congr 1;omega,⟨by rw [← HS.out];exact hO7,HBW.out.trans hB7⟩⟩
  ·obtain rfl:k=n:=by omega
   have hii:(k:Int) - 1 - (k:Int)=-1:=by omega
   rw [hii]
   clear hii
   gi_wp2
   go_end0
   exact ⟨⟨_,rfl⟩,HI.out.2,_,rfl,_,HI.out.1⟩
end
section
open Go.RowKit Go.Maps
attribute [local go_sem] Oper.semAt_some
theorem chk1_enters (args:Array Value) (w:World):(callFunc 78 args).run Tryz.prog w=.ok (.enter 78 args) w:=enters_fn Tryz.func78 (by kernel_rfl) (by kernel_rfl) args w
theorem chk2_enters (args:Array Value) (w:World):(callFunc 79 args).run Tryz.prog w=.ok (.enter 79 args) w:=enters_fn Tryz.func79 (by kernel_rfl) (by kernel_rfl) args w
set_option maxRecDepth 20000 in
set_option maxHeartbeats 1000000 in
theorem chk1_any {w:World} {g1 g2 bs:Nat} {ms:List (Int×Int)} {v:Int} (hm:MapT Tryz.prog 3 kI kI w bs ms) (h1:w.cell? ⟨g1,0,none⟩=some (.map (some bs))) (h2:w.cell? ⟨g2,0,none⟩=some (.int .i64 v)) (hv:0≤v) {tx:Int} (hx:tx∉keysA ms) (h64:In64 tx) :
  Calls Tryz.prog 78 #[.int .i64 tx,.pointer (some ⟨g1,0,none⟩),.pointer (some ⟨g2,0,none⟩)] w (RetV (.bool false) w):=by
 have hlook:=hm.look (t:=30) (e:=3) K_int kI_inj und_mii z_int (keyI h64)
 rw [getA_none.2 hx] at hlook
 simp only [kI,Option.map_none,Option.getD_none] at hlook
 have t1:decide (v<0)=false:=decide_eq_false (by omega)
 clear hm hx
 go_enter Tryz.func78,Tryz.ntmps78
 go_wp2_with fail
 go_ret
 exact ⟨rfl,Below.refl _ _⟩
set_option maxRecDepth 20000 in
set_option maxHeartbeats 1000000 in
theorem chk2_any {w:World} {g1 g2 ba:Nat} {ma:List (Int×Int)} {i k:Int} (hm:MapT Tryz.prog 3 kI kI w ba ma) (h1:w.cell? ⟨g1,0,none⟩=some (.map (some ba))) (h2:w.cell? ⟨g2,0,none⟩=some (.int .i64 i)) {tx:Int} (hx:getA ma tx=some k) (hk:k≤i) (h0:tx≠0) (h64:In64 tx) :
  Calls Tryz.prog 79 #[.int .i64 tx,.pointer (some ⟨g1,0,none⟩),.pointer (some ⟨g2,0,none⟩)] w (RetV (.bool false) w):=by
 have hlook:=hm.look2 (t:=30) (e:=3) K_int kI_inj und_mii z_int (keyI h64)
 rw [hx] at hlook
 simp only [kI,Option.map_some,Option.getD_some,Option.isSome_some] at hlook
 have t1:decide (i<k)=false:=decide_eq_false (by omega)
 have t2:(tx != 0)=true:=by simp [h0]
 clear hm hx h0
 go_enter Tryz.func79,Tryz.ntmps79
 go_wp2_with fail
 go_ret
 exact ⟨rfl,Below.refl _ _⟩
structure StpM (l:List Int) (pre:List (Nat×Int)) (m:List (Int×Int)):Prop where
 p:∀x∈pre,x.1<l.length∧x.2=l.getD x.1 0
 fwd:∀x∈pre,getA m x.2=some ((x.1:Int)+1)
 back:∀tx v,getA m tx=some v→∃x∈pre,x.2=tx∧v=(x.1:Int)+1
theorem StpM.start (l:List Int):StpM l [] []:=⟨by simp,by simp,fun tx v e=>by simp [getA] at e⟩
theorem nodup_getD {l:List Int} (hn:l.Nodup) {i j:Nat} (hi:i<l.length) (hj:j<l.length) (e:l.getD i 0=l.getD j 0):i=j:=by
 rw [List.getD_eq_getElem?_getD,List.getElem?_eq_getElem hi,List.getD_eq_getElem?_getD,List.getElem?_eq_getElem hj] at e
 exact (List.getElem_inj hn).1 e
theorem StpM.step {l:List Int} (hn:l.Nodup) {pre:List (Nat×Int)} {m:List (Int×Int)} (h:StpM l pre m) {x:Nat×Int} (hx:x.1<l.length∧x.2=l.getD x.1 0):StpM l (pre++[x]) (putA m x.2 ((x.1:Int)+1)):=by
 refine ⟨fun y hy=>?_,fun y hy=>?_,fun tx v e=>?_⟩
 ·rcases List.mem_append.1 hy with hy | hy
  ·exact h.p y hy
  ·simp at hy;subst hy;exact hx
 ·rw [getA_putA]
  rcases List.mem_append.1 hy with hy | hy
  ·by_cases e:x.2=y.2
   ·have hy2:=h.p y hy
    have:=nodup_getD hn hx.1 hy2.1 (by rw [← hx.2,← hy2.2,e])
    rw [if_pos e,this]
   ·rw [if_neg e];exact h.fwd y hy
  ·simp at hy;subst hy;simp
 ·rw [getA_putA] at e
  split at e
  ·rename_i h2
   cases e
   exact ⟨x,by simp,h2,rfl⟩
  ·obtain ⟨y,h1,h2,h3⟩:=h.back tx v e
   exact ⟨y,List.mem_append.2 (.inl h1),h2,h3⟩
structure Stps (l:List Int) (m:List (Int×Int)):Prop where
 fwd:∀i,i<l.length→getA m (l.getD i 0)=some ((i:Int)+1)
 back:∀tx v,getA m tx=some v→∃i:Nat,i<l.length∧l.getD i 0=tx∧v=(i:Int)+1
 len:m.length=l.length
theorem StpM.stps {l:List Int} (hn:l.Nodup) {m:List (Int×Int)} (hm:(keysA m).Nodup) (h:StpM l (backL l l.length) m):Stps l m:=by
 have hmem:∀i,i<l.length→(i,l.getD i 0)∈backL l l.length:=fun i hi=>by
  unfold backL
  refine List.mem_map.2 ⟨l.length - 1 - i,List.mem_range.2 (by omega),?_⟩
  have:l.length - 1 - (l.length - 1 - i)=i:=by omega
  rw [this]
 have hb:∀tx v,getA m tx=some v→∃i:Nat,i<l.length∧l.getD i 0=tx∧v=(i:Int)+1:=fun tx v e=>by
  obtain ⟨x,h1,h2,h3⟩:=h.back tx v e
  have hp:=h.p x h1
  exact ⟨x.1,hp.1,by rw [← hp.2,h2],h3⟩
 refine ⟨fun i hi=>h.fwd _ (hmem i hi),hb,?_⟩
 have h1:(keysA m).length≤l.length:=nodup_len hm (fun x hx=>by
  obtain ⟨p,hp,rfl⟩:=List.mem_map.1 hx
  obtain ⟨i,hi,e,_⟩:=hb p.1 p.2 (getA_of_mem hm hp)
  rw [← e,List.getD_eq_getElem?_getD,List.getElem?_eq_getElem hi]
  exact List.getElem_mem hi)
 have h2:l.length≤(keysA m).length:=nodup_len hn (fun x hx=>by
  obtain ⟨i,hi,rfl⟩:=List.mem_iff_getElem.1 hx
  have:=h.fwd _ (hmem i hi)
  simp only [List.getD_eq_getElem?_getD,List.getElem?_eq_getElem hi,Option.getD_some] at this
  exact mem_keysA_of (getA_mem this))
 unfold keysA at h1 h2
 rw [List.length_map] at h1 h2
 omega
theorem Stps.none_of {l:List Int} {m:List (Int×Int)} (h:Stps l m) {tx:Int} (hx:tx∉l):tx∉keysA m:=by
 intro hm
 obtain ⟨p,hp,rfl⟩:=List.mem_map.1 hm
 cases hg:getA m p.1 with
 | none=>exact (getA_none.1 hg) hm
 | some v =>
  obtain ⟨i,hi,e,_⟩:=h.back _ v hg
  refine hx ?_
  rw [← e,List.getD_eq_getElem?_getD,List.getElem?_eq_getElem hi]
  exact List.getElem_mem hi
def StpO (bs:Nat) (l:List Int) (pre:List (Nat×Int)):HP:=fun w F=>∃m,IntO bs m w F∧StpM l pre m
theorem StpO.stb (bs:Nat) (l:List Int) (pre:List (Nat×Int)):Stb (StpO bs l pre) :=
 ⟨fun w F ⟨m,h,_⟩=>(MapO.stb bs m).lt w F h,fun w w' F ⟨m,h,hs⟩ he=>⟨m,(MapO.stb bs m).eq w w' F h he,hs⟩⟩
theorem Own.stpOpen {B:Nat} {w:World} {L:List HP} {bs:Nat} {l:List Int} {pre:List (Nat×Int)} (O:Own B w (StpO bs l pre::L)):∃m,Own B w (IntO bs m::L)∧StpM l pre m:=by
 obtain ⟨h1,h2,F,⟨F1,F2,⟨m,k1,hs⟩,k2,k3,rfl⟩,hB⟩:=O
 refine ⟨m,⟨h1,fun Q hQ=>?_,_,⟨F1,F2,k1,k2,k3,rfl⟩,hB⟩,hs⟩
 rcases List.mem_cons.1 hQ with rfl | hQ
 ·exact MapO.stb bs m
 ·exact h2 Q (List.mem_cons_of_mem _ hQ)
theorem Own.stpShut {B:Nat} {w:World} {L:List HP} {bs:Nat} {l:List Int} {pre:List (Nat×Int)} {m:List (Int×Int)} (O:Own B w (IntO bs m::L)) (hs:StpM l pre m):Own B w (StpO bs l pre::L):=by
 obtain ⟨h1,h2,F,⟨F1,F2,k1,k2,k3,rfl⟩,hB⟩:=O
 refine ⟨h1,fun Q hQ=>?_,_,⟨F1,F2,⟨m,k1,hs⟩,k2,k3,rfl⟩,hB⟩
 rcases List.mem_cons.1 hQ with rfl | hQ
 ·exact StpO.stb bs l pre
 ·exact h2 Q (List.mem_cons_of_mem _ hQ)
def chkMine (bs ba g5 g6 g7:Nat) (ma:List (Int×Int)) (l:List Int) (pre:List (Nat×Int)):List HP :=
 [StpO bs l pre,IntO ba ma,BlkP g5 30 [.map (some ba)],BlkP g6 30 [.map (some bs)],BlkP g7 3 [.int .i64 0]]
end
end Go.Proofs.YtlfghapllmaigaaGreatDoor
