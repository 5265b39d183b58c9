/-
  The walk of history's spans; The walk of Explain's search. Conditions: each theorem's own hypotheses.
-/
import Derived.Test.YtlfghapllmaigaaGreatDoorK29
set_option linter.unusedVariables false
set_option linter.unusedSimpArgs false
namespace Go.Proofs.YtlfghapllmaigaaGreatDoor
section
open Go.RowKit Go.Maps
theorem und_mis:Tryz.prog.underlying 140=some (.map 3 146):=by kernel_rfl
def spnV (x:Int×Int):Value:=.agg #[.int .i64 x.1,.int .i64 x.2]
set_option maxRecDepth 20000 in
theorem z_spn:∀w,(zeroValue 146).run Tryz.prog w=.ok (.agg #[.int .i64 0,.int .i64 0]) w:=fun w=>by rfl
abbrev SpnO (b:Nat) (l:List (Int×(Int×Int))):HP:=MapO Tryz.prog 3 kI spnV b l
def knownL (ids:List Int) (L:Nat):List (Int×Int):=(List.range L).map fun i=>(((i+1:Nat):Int),ids.getD i 0)
theorem knownL_len (ids:List Int) (L:Nat):(knownL ids L).length=L:=by unfold knownL;simp
theorem keysA_knownL {ids:List Int} {L:Nat} {x:Int} (h:x∈keysA (knownL ids L)):1≤x∧x≤L:=by
 unfold knownL keysA at h
 obtain ⟨p,hp,rfl⟩:=List.mem_map.1 h
 obtain ⟨i,hi,rfl⟩:=List.mem_map.1 hp
 have:=List.mem_range.1 hi
 simp only
 omega
theorem knownL_succ (ids:List Int) (L:Nat):putA (knownL ids L) ((L:Int)+1) (ids.getD L 0)=knownL ids (L+1):=by
 rw [putA_new (fun h=>by have:=keysA_knownL h;omega)]
 unfold knownL
 rw [List.range_succ,List.map_append]
 rfl
theorem knownL_get {ids:List Int} {L i:Nat} (hi:i<L):getA (knownL ids L) ((i:Int)+1)=some (ids.getD i 0):=by
 induction L with
 | zero=>omega
 | succ L ih =>
  rw [← knownL_succ,getA_putA]
  by_cases h:(L:Int)+1=(i:Int)+1
  ·rw [if_pos h,show L=i from by omega]
  ·rw [if_neg h];exact ih (by omega)
theorem putA_len2 {α β:Type} [DecidableEq α] (l:List (α×β)) (x:α) (v:β):(putA l x v).length≤l.length+1:=by
 by_cases h:x∈keysA l
 ·have h1:=congrArg List.length (keysA_putA_mem h v)
  unfold keysA at h1
  rw [List.length_map,List.length_map] at h1
  omega
 ·rw [putA_new h,List.length_append];exact Nat.le_refl _
theorem putA_len_in {α β:Type} [DecidableEq α] {l:List (α×β)} {x:α} (h:(getA l x).isSome=true) (v:β):(putA l x v).length=l.length:=by
 have hx:x∈keysA l:=Classical.byContradiction fun hn=>by
  rw [getA_none.2 hn] at h;cases h
 have h1:=congrArg List.length (keysA_putA_mem hx v)
 unfold keysA at h1
 rw [List.length_map,List.length_map] at h1
 exact h1
theorem delA_len {α β:Type} [DecidableEq α] (l:List (α×β)) (x:α):(delA l x).length≤l.length:=by
 have h1:=congrArg List.length (keysA_delA l x)
 unfold keysA at h1
 rw [List.length_map] at h1
 have h2:=List.length_erase_le (a:=x) (l:=l.map (·.1))
 rw [List.length_map] at h2
 omega
def RetSp (ids:List Int) (L n:Nat) (w:World) (e:Ending) (w':World):Prop:=Below w.heap.size w w'∧∃ (bw bk:Nat) (lw:List (Int×(Int×Int))),e=.returned (.tuple #[.map (some bw),.map (some bk)])∧lw.length≤n∧Own w.heap.size w' [SpnO bw lw,IntO bk (knownL ids L)]
theorem nm_nx:(Tryz.f75.name == "runtime.NumGoroutine")=false:=by kernel_rfl
theorem bd_nx:Tryz.f75.body.isNone=false:=by kernel_rfl
set_option maxRecDepth 20000 in
set_option maxHeartbeats 16000000 in
theorem spans_any {h:List HpP} {f:Nat→Sg} (r:Run h f) {a:Option Addr} {n c:Nat} {w:World} (hr:HsRd w a n c h) (hn:n≤400) :
  Calls Tryz.prog 64 #[.slice a n c] w (RetSp (f n).ids (f n).com.length n w):=by
 have HR:=Box.mk hr
 have HL:=Box.mk hr.len
 have RU:=Box.mk r
 have hmm:=@run_makeMap Tryz.prog
 have O0:=Own.newMap (P:=Tryz.prog) (k:=3) (ek:=kI) (ev:=spnV) (Own.start w)
 have O1:=Own.newMap (P:=Tryz.prog) (k:=3) (ek:=kI) (ev:=kI) O0
 simp only [World.size_alloc,List.nil_append,List.cons_append] at O1
 have O1:=Box.mk (show Own w.heap.size ((w.alloc (.map #[] 0)).alloc (.map #[] 0)) [SpnO w.heap.size [],IntO (w.heap.size+1) []] from O1)
 have B1:=Box.mk (((Below.refl w.heap.size w).alloc (Nat.le_refl _) (.map #[] 0)).alloc (by simp) (.map #[] 0))
 clear hr r O0
 go_enter Tryz.func64,Tryz.ntmps64
 go_wp2_with fail
 obtain ⟨b0,hb0⟩:∃b0,w.heap.size=b0:=⟨_,rfl⟩
 have HB0:=Box.mk hb0
 have O1:=Box.mk (show Own w.heap.size ((w.alloc (.map #[] 0)).alloc (.map #[] 0)) [SpnO b0 [],IntO (b0+1) []] from by rw [← HB0.out];exact O1.out)
 simp only [hb0]
 generalize ((w.alloc (.map #[] 0)).alloc (.map #[] 0))=w1 at *
 clear hb0
 go_loopg [6,17] n (fun gg s6 s17 wr=>∃ (k:Nat) (sh:Int),k≤n∧n - k≤gg∧s17=.int .i64 k∧s6=.int .i64 sh∧Box (∃lw,lw.length≤k∧Own w.heap.size wr [SpnO b0 lw,IntO (b0+1) (knownL (f n).ids (f k).com.length)]∧Below w.heap.size w wr))
 case atStart=>exact ⟨0,0,Nat.zero_le _,by omega,rfl,rfl,⟨[],Nat.le_refl _,by rw [RU.out.start];exact O1.out,B1.out⟩⟩
 clear O1 B1
 case round =>
  obtain ⟨k,sh,hk,hg,rfl,rfl,HI⟩:=hrel
  obtain ⟨lw,hlw,hO,hB⟩:=HI.out
  have HI:=Box.mk (And.intro hO hB)
  clear hO hB
  by_cases hlt:k<n
  ·obtain ⟨b,off,x,rfl,hx,hxm,hxr,c0,c1,c2',c3',c4'⟩:=(HR.out.below HI.out.2 (Nat.le_refl _)).at k hlt
   have hst:=RU.out.step k (by rw [HL.out];exact hlt)
   have hlen:=RU.out.len k (by rw [HL.out];exact hk)
   rw [hx] at hst
   obtain ⟨xk,xt,xs,wa,wc,ws,ra,rc,rs⟩:=x
   simp only at c0 c1 c2' c3' c4'
   obtain ⟨wn,hwn⟩:∃wn,ws.length=wn:=⟨_,rfl⟩
   obtain ⟨rn,hrn⟩:∃rn,rs.length=rn:=⟨_,rfl⟩
   rw [hwn] at c3'
   rw [hrn] at c4'
   obtain ⟨L,hL⟩:∃L,(f k).com.length=L:=⟨_,rfl⟩
   have HLK:=Box.mk hL
   have O4:=HI.out.1.new [.int .i64 xk,.int .i64 xt,.int .i64 xs,.slice wa wn wc,.slice ra rn rc] 84
   simp only [List.nil_append,List.cons_append,hL] at O4
   have O4:=Box.mk O4
   have B4:=Box.mk (HI.out.2.alloc HI.out.2.size (.cells #[.int .i64 xk,.int .i64 xt,.int .i64 xs,.slice wa wn wc,.slice ra rn rc] 84))
   have HST:=Box.mk (And.intro hst.kinds hlen)
   clear hx hxm hxr hst hlen HI hwn hrn hL
   go_upto_region 5 with fail
   clear c0 c1 c2' c3' c4'
   generalize wr.heap.size=gx at *
   generalize (wr.alloc (.cells #[.int .i64 xk,.int .i64 xt,.int .i64 xs,.slice wa wn wc,.slice ra rn rc] 84))=w4 at *
   have y0:=(O4.out.blk 2 rfl).1.cellOf (i:=0) rfl
   have y1:=(O4.out.blk 2 rfl).1.cellOf (i:=1) rfl
   have y2:=(O4.out.blk 2 rfl).1.cellOf (i:=2) rfl
   rcases HST.out with ⟨⟨rfl,h2,rfl,rfl,h5,h6,h7⟩ | ⟨rfl,rfl,rfl,h4,v,o,h5,h6⟩ | ⟨rfl,rfl,rfl,rfl,rfl,h6⟩ | ⟨rfl,rfl,h3,rfl,h5,h6⟩,hlen⟩
   ·-- ask
    have HLL:=Box.mk (show L=(f (k+1)).com.length from by rw [h7];exact HLK.out.symm)
    have hpos:=(RU.out.ok k (by rw [HL.out];exact hk)).pos
    have hxt64:In64 xt:=by unfold In64;omega
    obtain ⟨w5,hrun,O5,hb5,_⟩:=O4.out.putMap K_int kI_inj und_mis 0 rfl (keyI hxt64) ((sh,1073741825):Int×Int)
    have O5:=Box.mk (show Own w.heap.size w5 [SpnO b0 (putA lw xt (sh,1073741825)),IntO (b0+1) (knownL (f n).ids L)] from O5.drop 2)
    have B5:=Box.mk (B4.out.trans hb5)
    simp only [kI,spnV] at hrun
    clear h2 h5 h6 h7 HST hpos hxt64 hb5 O4 B4 hlen
    go_wp2_with fail
    go_roundg (n - (k+1))
    case measure=>omega
    case rel=>exact ⟨k+1,sh,by omega,by omega,by go_num,rfl,⟨_,show (putA lw xt ((sh,1073741825):Int×Int)).length≤k+1 from by have:=putA_len2 lw xt ((sh,1073741825):Int×Int);omega,by rw [← HLL.out];exact O5.out,B5.out⟩⟩
   ·-- report
    have hrid:=RU.out.rid (k:=k) (by rw [HL.out];exact hlt) h5 h6
    rw [HL.out,HLK.out] at hrid
    have HLL:=Box.mk (show L+1=(f (k+1)).com.length from by rw [h6,List.length_append,HLK.out];rfl)
    have hmm2:=(RU.out.ok k (by rw [HL.out];exact hk)).mem (xt,v) (List.mem_append.2 (.inr (by rw [h5];exact List.mem_cons_self ..)))
    have hxt64:In64 xt:=by unfold In64;simp only at hmm2;omega
    have hxs:xs=(L:Int)+1:=by rw [h4,HLK.out]
    subst hxs
    have hL64:In64 ((L:Int)+1):=by unfold In64;rw [HLK.out] at hlen;omega
    obtain ⟨w5,hrun,O5,hb5,_⟩:=O4.out.putMap K_int kI_inj und_mii 1 rfl (keyI hL64) xt
    have e:=knownL_succ (f n).ids L
    rw [hrid.2] at e
    have O5:=Box.mk (show Own w.heap.size w5 [SpnO b0 lw,IntO (b0+1) (knownL (f n).ids (L+1)),BlkP gx 84 [.int .i64 2,.int .i64 xt,.int .i64 ((L:Int)+1),.slice wa wn wc,.slice ra rn rc]] from by rw [← e];exact O5)
    have z1:=(O5.out.blk 2 rfl).1.cellOf (i:=1) rfl
    have z2:=(O5.out.blk 2 rfl).1.cellOf (i:=2) rfl
    obtain ⟨w6,hrun2,O6,hb6,_⟩:=O5.out.delMap K_int kI_inj und_mis 0 rfl (keyI hxt64) 0
    have O6:=Box.mk (show Own w.heap.size w6 [SpnO b0 (delA lw xt),IntO (b0+1) (knownL (f n).ids (L+1))] from O6.drop 2)
    have B6:=Box.mk ((B4.out.trans hb5).trans hb6)
    simp only [kI] at hrun hrun2
    clear h4 h5 h6 HST hb5 hb6 O4 B4 O5 e hrid hmm2 hxt64 hL64 hlen
    go_wp2_with fail
    go_roundg (n - (k+1))
    case measure=>omega
    case rel=>exact ⟨k+1,_,by omega,by omega,by go_num,rfl,⟨_,show (delA lw xt).length≤k+1 from by have:=delA_len lw xt;omega,by rw [← HLL.out];exact O6.out,B6.out⟩⟩
   ·-- fail
    have HLL:=Box.mk (show L=(f (k+1)).com.length from by rw [h6];exact HLK.out.symm)
    have HO64:=Box.mk (fun tx (h:tx∈(f k).oids)=>show In64 tx from by
     obtain ⟨p,hp,rfl⟩:=List.mem_map.1 h
     have h1:=(RU.out.ok k (by rw [HL.out];exact hk)).mem p (List.mem_append.2 (.inr hp))
     have h2:=(RU.out.len k (by rw [HL.out];exact hk)).1
     unfold In64;omega)
    have hol:(f k).oids.length≤400:=by unfold Sg.oids;rw [List.length_map];omega
    have HOP:=Box.mk (open_any (RU.out.takeR k) ((HR.out.below B4.out (Nat.le_refl _)).takeH hk) (by omega))
    have HNX:=Box.mk (fun (w':World) (hb:Below w.heap.size w w')=>next_any RU.out (HR.out.below hb (Nat.le_refl _)) (by omega) hlt)
    have hkc:k≤c:=Nat.le_trans (Nat.le_of_lt hlt) HR.out.rd.hcap
    clear h6 HST hlen
    go_wp2_with fail
    refine HOP.out.mono ?_
    rintro e w8 ⟨hb8,pa,pc,rfl,hrow⟩
    obtain ⟨m,hm⟩:∃m,(f k).oids.length=m:=⟨_,rfl⟩
    have HM:=Box.mk hm
    have O8:=Box.mk (O4.out.newRow hb8 hrow (Nat.le_refl _))
    have B8:=Box.mk (B4.out.trans (hb8.mono O4.out.1))
    have O8:=Box.mk (show Own w.heap.size w8 [SpnO b0 lw,IntO (b0+1) (knownL (f n).ids L),BlkP gx 84 [.int .i64 4,.int .i64 0,.int .i64 0,.slice wa wn wc,.slice ra rn rc],RowP 3 1 pa m pc (intVals (f k).oids)] from by rw [← HM.out];exact O8.out)
    rw [hm] at hol ⊢
    clear hb8 hrow O4 B4 y0 y1 y2 HOP hm
    go_wp2_with fail
    go_loopg [57] m (fun gg s57 wq=>∃i,i≤m∧m - i≤gg∧s57=.int .i64 (i:Nat)∧Box (∃lw,lw.length≤k∧Own w.heap.size wq [SpnO b0 lw,IntO (b0+1) (knownL (f n).ids L),BlkP gx 84 [.int .i64 4,.int .i64 0,.int .i64 0,.slice wa wn wc,.slice ra rn rc],RowP 3 1 pa m pc (intVals (f k).oids)]∧Below w.heap.size w wq))
    case atStart=>exact ⟨0,Nat.zero_le _,by omega,rfl,⟨lw,hlw,O8.out,B8.out⟩⟩
    clear O8 B8 hlw
    case round =>
     obtain ⟨i,hi,hgi,rfl,HJ⟩:=hrel
     obtain ⟨l2,hl2,hO,hB⟩:=HJ.out
     have HJ:=Box.mk (And.intro hO hB)
     clear hO hB
     by_cases him:i<m
     ·obtain ⟨ob,ooff,rfl,hco⟩:=(Rd.ofOwn (HJ.out.1.row 3 rfl)).intAtD i him
      have h64:=HO64.out ((f k).oids.getD i 0) (getD_mem (by rw [HM.out];exact him))
      generalize (f k).oids.getD i 0=tx at *
      have hlook:=(HJ.out.1.map 0 rfl).1.look2 (t:=140) (e:=146) K_int kI_inj und_mis z_spn (keyI h64)
      cases hga:getA l2 tx with
      | none =>
       rw [hga] at hlook
       simp only [kI,Option.map_none,Option.getD_none,Option.isSome_none] at hlook
       have B9:=Box.mk (HJ.out.2.alloc HJ.out.2.size (.cells #[.int .i64 0,.int .i64 0] 146))
       have O9:=Box.mk (((HJ.out.1.new [.int .i64 0,.int .i64 0] 146).drop 4))
       clear hga h64
       go_wp2_with fail
       go_roundg (m - (i+1))
       case measure=>omega
       case rel=>exact ⟨i+1,by omega,by omega,by go_num,⟨l2,hl2,O9.out,B9.out⟩⟩
      | some p =>
       obtain ⟨px,py⟩:=p
       rw [hga] at hlook
       simp only [kI,spnV,Option.map_some,Option.getD_some,Option.isSome_some] at hlook
       have B9:=Box.mk (HJ.out.2.alloc HJ.out.2.size (.cells #[.int .i64 px,.int .i64 py] 146))
       have O9:=HJ.out.1.new [.int .i64 px,.int .i64 py] 146
       simp only [List.nil_append,List.cons_append] at O9
       have O9:=Box.mk O9
       have HGA:=Box.mk (show (getA l2 tx).isSome=true from by rw [hga];rfl)
       clear hga
       go_upto_region 20 with fail
       clear hlook hco
       generalize wr.heap.size=gs at *
       generalize (wr.alloc (.cells #[.int .i64 px,.int .i64 py] 146))=w9 at *
       have HS0:(∃l3,l3.length≤k∧(getA l3 tx).isSome=true∧Own w.heap.size w9.drew ([SpnO b0 l3,IntO (b0+1) (knownL (f n).ids L),BlkP gx 84 [.int .i64 4,.int .i64 0,.int .i64 0,.slice wa wn wc,.slice ra rn rc],RowP 3 1 (some ⟨ob,ooff,none⟩) m pc (intVals (f k).oids),BlkP gs 146 [.int .i64 px,.int .i64 py]]))∧Below w.heap.size w w9.drew:=⟨⟨l2,hl2,HGA.out,O9.out.drew⟩,B9.out.drew⟩
       clear O9 B9 HJ HGA hl2
       refine wp_region_held_drew (S:=fun w'=>((∃l3,l3.length≤k∧(getA l3 tx).isSome=true∧Own w.heap.size w' ([SpnO b0 l3,IntO (b0+1) (knownL (f n).ids L),BlkP gx 84 [.int .i64 4,.int .i64 0,.int .i64 0,.slice wa wn wc,.slice ra rn rc],RowP 3 1 (some ⟨ob,ooff,none⟩) m pc (intVals (f k).oids),BlkP gs 146 [.int .i64 px,.int .i64 py]]))∧Below w.heap.size w w')) (by kernel_rfl) HS0 (fun _=>?_)
       generalize w9.drew=wd at *
       refine tw 0 rfl HS0 ?_
       conv=>arg 8;simp [go_sem]
       refine tw 1 rfl HS0 ?_
       conv=>arg 8;simp [go_sem]
       refine tw 2 rfl HS0 ?_
       conv=>arg 8;simp [go_sem]
       refine tv 3 rfl (fun w' hS=>by obtain ⟨⟨l3,_,_,hO⟩,_⟩:=hS;have e:=(hO.blk 4 rfl).1.cellOf (i:=0) rfl;clear hO;go_simp;all_goals with_reducible rfl) HS0 ?_
       conv=>arg 8;simp [go_sem]
       refine tw 4 rfl HS0 ?_
       conv=>arg 8;simp [go_sem]
       refine tv 5 rfl (fun w' hS=>by obtain ⟨⟨l3,_,_,hO⟩,_⟩:=hS;have e:=(hO.blk 4 rfl).1.cellOf (i:=1) rfl;clear hO;go_simp;all_goals with_reducible rfl) HS0 ?_
       conv=>arg 8;simp [go_sem]
       refine tw 6 rfl HS0 ?_
       conv=>arg 8;simp [go_sem]
       refine tw 7 rfl HS0 ?_
       conv=>arg 8;simp [go_sem]
       refine ar 8 rfl fun K' hK'=>?_
       refine oper_call (by rfl) 75 [.tmp 74,.tmp 75] #[34,3] rfl (vs:=[.slice (some ⟨b,off,none⟩) n c,.int .i64 (k:Int)]) rfl Tryz.func75 nm_nx bd_nx (HNX.out _ HS0.2) ?_
       rintro e w9 ⟨hb,v,hv0,hv1,rfl⟩
       have HT1:=(show ((∃l3,_∧_∧Own _ _ ([SpnO b0 l3,IntO (b0+1) (knownL (f n).ids L),BlkP gx 84 [.int .i64 4,.int .i64 0,.int .i64 0,.slice wa wn wc,.slice ra rn rc],RowP 3 1 (some ⟨ob,ooff,none⟩) m pc (intVals (f k).oids),BlkP gs 146 [.int .i64 px,.int .i64 py]]))∧Below _ _ _) from let ⟨l3,g1,g2,g3⟩:=HS0.1;And.intro ⟨l3,g1,g2,g3.below hb⟩ (HS0.2.trans (hb.mono HS0.2.size)))
       refine ⟨_,rfl,hK'.out _ _ HT1 (fun _=>?_)⟩
       clear hK' K'
       conv=>arg 8;simp [go_sem]
       refine tw 9 rfl HT1 ?_
       conv=>arg 8;simp [go_sem]
       refine tw 10 rfl HT1 ?_
       conv=>arg 8;simp [go_sem]
       refine ar 11 rfl fun K' hK'=>?_
       obtain ⟨⟨l3,g1,g2,g3⟩,g4⟩:=HT1
       obtain ⟨w9,hrun,O9r,hb9,_⟩:=g3.putMap K_int kI_inj und_mis 0 rfl (keyI h64) ((px,min py v):Int×Int)
       simp only [kI,spnV] at hrun
       refine oper_put (by rfl) _ _ _ _ rfl rfl rfl rfl hrun ?_
       have HT2:=(show ((∃l3,l3.length≤k∧(getA l3 tx).isSome=true∧Own w.heap.size w9 ([SpnO b0 l3,IntO (b0+1) (knownL (f n).ids L),BlkP gx 84 [.int .i64 4,.int .i64 0,.int .i64 0,.slice wa wn wc,.slice ra rn rc],RowP 3 1 (some ⟨ob,ooff,none⟩) m pc (intVals (f k).oids),BlkP gs 146 [.int .i64 px,.int .i64 py]]))∧Below w.heap.size w w9) from ⟨⟨putA l3 tx (px,min py v),by rw [putA_len_in g2];exact g1,by rw [getA_putA];simp,O9r⟩,g4.trans hb9⟩)
       refine hK'.out _ _ HT2 (fun _=>?_)
       clear hK' K'
       conv=>arg 8;simp [go_sem]
       refine ⟨by kernel_rfl,?_⟩
       conv =>
        arg 5
        simp [go_sem]
       obtain ⟨⟨l9,g1,_,g3⟩,g4⟩:=HT2
       have O9:=Box.mk (And.intro (g3.drop 4) g4)
       clear g3 g4
       go_wp2_with fail
       go_roundg (m - (i+1))
       case measure=>omega
       case rel=>exact ⟨i+1,by omega,by omega,by go_num,⟨l9,g1,O9.out.1,O9.out.2⟩⟩
     ·obtain rfl:i=m:=by omega
      go_wp2_with fail
      go_roundg (n - (k+1))
      case measure=>omega
      case rel=>exact ⟨k+1,sh,by omega,by omega,by go_num,rfl,⟨l2,by omega,by rw [← HLL.out];exact (HJ.out.1.drop 2).drop 2,HJ.out.2⟩⟩
   ·-- see
    have HLL:=Box.mk (show L=(f (k+1)).com.length from by rw [h6];exact HLK.out.symm)
    clear h3 h5 h6 HST hlen
    go_wp2_with fail
    go_roundg (n - (k+1))
    case measure=>omega
    case rel=>exact ⟨k+1,_,by omega,by omega,by go_num,rfl,⟨lw,by omega,by rw [← HLL.out];exact O4.out.drop 2,B4.out⟩⟩
  ·obtain rfl:k=n:=by omega
   go_wp2_with fail
   go_ret2
   exact ⟨HI.out.2,_,_,lw,rfl,hlw,HI.out.1⟩
end
section
open Go.RowKit Go.Maps
attribute [local go_sem] Oper.semAt_some
theorem oper_callv {P:Program} {w:World} {ops:Array Oper} {o:Oper} {a:Act} {K:Act→World→Prop} {Q:Exit→Act→World→Prop} (hgd:Region.wanted o (yielded ops a.tmps)=true) (f:FuncId) (c:Operand) (xs:List Operand) (ts:Array TypeId)
  (ho:o.op=.call { callee:=.value c,args:=xs.toArray,argTypes:=ts }) {cs:Array Value} (hcv:a.eval c=.func (.func f) #[] cs) {vs:List Value} (hvs:xs.map a.eval=vs) {fn:Func} (hfn:P.funcs[f]?=some fn) (hn:(fn.name == "runtime.NumGoroutine")=false) (hbd:fn.body.isNone=false) {R:Ending→World→Prop} (hc:Calls P f (vs.toArray++cs) w R)
  (h:∀e w',R e w'→∃v,e=.returned v∧K (a.put o.dst v) w'):if Region.wanted o (yielded ops a.tmps)=true then Oper.wp P o a w K Q else K (a.put o.dst undef) w:=by
 rw [if_pos hgd]
 have hr:(execOp a.eval o).run P w=.ok (.enter f (vs.toArray++cs)) w:=by
  unfold execOp
  simp [ho,resolve,invoke,hvs,hcv,Deferred.ofValue,callFunc,hfn]
  rw [if_neg (by simpa using hn),if_neg (by intro h;rw [h] at hbd;cases hbd)]
 unfold Oper.wp
 rw [hr,Oper.upon_enter]
 exact hc.mono fun e w' he=>by
  obtain ⟨v,rfl,hk⟩:=h e w' he
  exact hk
theorem Blk.rd1 {w:World} {g:Nat} {ty:TypeId} {v:Value} (h:Blk w g ty [v]):Rd w (some ⟨g,0,none⟩) 1 1 1 [v]:=by
 refine ⟨rfl,Nat.le_refl _,by unfold maxLen;omega,fun h=>(by cases h),fun ad ha j u hu=>?_⟩
 simp only [Option.some.injEq] at ha
 subst ha
 cases j with
 | zero =>
  simp at hu
  subst hu
  have:=h.cellOf (i:=0) rfl
  simpa [Addr.add] using this
 | succ j=>simp at hu
structure SlP where
 a:Option Addr
 c:Nat
 xs:List HpP
def SlP.v (s:SlP):Value:=.slice s.a s.xs.length s.c
def SlP.row (s:SlP):HP:=RowP 84 5 s.a s.xs.length s.c (recC HpP.enc s.xs)
theorem und_mih:Tryz.prog.underlying 147=some (.map 3 34):=by kernel_rfl
set_option maxRecDepth 20000 in
theorem z_hps:∀w,(zeroValue 34).run Tryz.prog w=.ok (.slice none 0 0) w:=fun w=>by rfl
abbrev SlsO (b:Nat) (l:List (Int×SlP)):HP:=MapO Tryz.prog 3 kI SlP.v b l
structure ExC (w:World) (g1 g9 g7 g6 g12 g8 g5:Nat) (bk bs:Nat) (a:Option Addr) (n c L:Nat) (ids:List Int) (l:List (Int×SlP)):Prop where
 h1:w.cell? ⟨g1,0,none⟩=some (.slice a n c)
 h9:w.cell? ⟨g9,0,none⟩=some (.map (some bs))
 h7:w.cell? ⟨g7,0,none⟩=some (.int .i64 (L:Int))
 h6:w.cell? ⟨g6,0,none⟩=some (.map (some bk))
 h12:w.cell? ⟨g12,0,none⟩=some (.func (.func 67) #[] #[.pointer (some ⟨g1,0,none⟩),.pointer (some ⟨g9,0,none⟩),.pointer (some ⟨g7,0,none⟩),.pointer (some ⟨g6,0,none⟩),.pointer (some ⟨g12,0,none⟩),.pointer (some ⟨g8,0,none⟩),.pointer (some ⟨g5,0,none⟩)])
 kn:MapT Tryz.prog 3 kI kI w bk (knownL ids L)
 sn:MapT Tryz.prog 3 kI SlP.v w bs l
 rd:∀p∈l,Rd w p.2.a p.2.xs.length p.2.c 5 (recC HpP.enc p.2.xs)
theorem ExC.below {w w':World} {g1 g9 g7 g6 g12 g8 g5 bk bs:Nat} {a:Option Addr} {n c L:Nat} {ids:List Int} {l:List (Int×SlP)} (h:ExC w g1 g9 g7 g6 g12 g8 g5 bk bs a n c L ids l) (hb:Below w.heap.size w w'):ExC w' g1 g9 g7 g6 g12 g8 g5 bk bs a n c L ids l:=by
 refine ⟨?_,?_,?_,?_,?_,h.kn.below hb (Nat.le_refl _),h.sn.below hb (Nat.le_refl _),fun p hp=>(h.rd p hp).below hb (Nat.le_refl _)⟩
 ·exact (hb.cell (p:=⟨g1,0,none⟩) (cell_block_lt h.h1)).trans h.h1
 ·exact (hb.cell (p:=⟨g9,0,none⟩) (cell_block_lt h.h9)).trans h.h9
 ·exact (hb.cell (p:=⟨g7,0,none⟩) (cell_block_lt h.h7)).trans h.h7
 ·exact (hb.cell (p:=⟨g6,0,none⟩) (cell_block_lt h.h6)).trans h.h6
 ·exact (hb.cell (p:=⟨g12,0,none⟩) (cell_block_lt h.h12)).trans h.h12
theorem ExC.seen {w:World} {g1 g9 g7 g6 g12 g8 g5 bk bs:Nat} {a:Option Addr} {n c L:Nat} {ids:List Int} {l:List (Int×SlP)} (h:ExC w g1 g9 g7 g6 g12 g8 g5 bk bs a n c L ids l) {k:Int} (h64:In64 k) :
  ∃s:SlP,(Instr.lookup 147 (.map (some bs)) (.int .i64 k) false).run Tryz.prog w=.ok (.slice s.a s.xs.length s.c) w∧Rd w s.a s.xs.length s.c 5 (recC HpP.enc s.xs)∧∀e∈s.xs,∃p∈l,p.1=k∧e∈p.2.xs:=by
 have hlook:=h.sn.look (t:=147) (e:=34) K_int kI_inj und_mih z_hps (keyI h64)
 cases hg:getA l k with
 | none =>
  rw [hg] at hlook
  exact ⟨⟨none,0,[]⟩,hlook,Rd.nilSlice w 5,by simp⟩
 | some s =>
  rw [hg] at hlook
  have hm:=getA_mem hg
  exact ⟨s,hlook,h.rd _ hm,fun e he=>⟨_,hm,rfl,he⟩⟩
theorem exp11_enters (args:Array Value) (w:World):(callFunc 69 args).run Tryz.prog w=.ok (.enter 69 args) w:=enters_fn Tryz.func69 (by kernel_rfl) (by kernel_rfl) args w
set_option maxRecDepth 20000 in
set_option maxHeartbeats 2000000 in
theorem exp11_any {w:World} {x:HpP} (hx:HpRd w x) {g:Nat} {sa:Option Addr} {rn sc:Nat} (hg:w.cell? ⟨g,0,none⟩=some (.slice sa rn sc)) (hs:Rd w sa rn sc 4 (recC HdP.enc x.rows)) (hrn:x.rows.length=rn) :
  Calls Tryz.prog 69 #[x.v,.pointer (some ⟨g,0,none⟩)] w (RetV (.bool false) w):=by
 obtain ⟨xk,xt,xs,wa,wc,ws,ra,rc,rs⟩:=x
 unfold HpP.v
 simp only at hs hrn ⊢
 obtain ⟨wn,hwn⟩:∃wn,ws.length=wn:=⟨_,rfl⟩
 have HX:=Box.mk hx
 have HS:=Box.mk hs
 have HRN:=Box.mk hrn
 have B1:=Box.mk ((Below.refl w.heap.size w).alloc (Nat.le_refl _) (.cells #[.int .i64 xk,.int .i64 xt,.int .i64 xs,.slice wa wn wc,.slice ra rn rc] 84))
 have HSAME:=Box.mk (fun (w':World) (hb:Below w.heap.size w w')=>show Calls Tryz.prog 70 #[.slice ra rn rc,.slice sa rn sc] w' (RetV (.bool true) w') from by
  have h1:=HX.out.rw_.below hb (Nat.le_refl _)
  simp only [HRN.out] at h1
  exact same_any h1 (HS.out.below hb (Nat.le_refl _)) (fun x hx=>(HX.out.rv x hx).below hb (Nat.le_refl _)))
 rw [hwn,hrn]
 clear hx hs hrn hwn
 have y4:=(Blk.new (w:=w) (k:=w.heap.size) (ty:=84) (arr:=#[.int .i64 xk,.int .i64 xt,.int .i64 xs,.slice wa wn wc,.slice ra rn rc]) (cs:=[.int .i64 xk,.int .i64 xt,.int .i64 xs,.slice wa wn wc,.slice ra rn rc]) rfl rfl).cellOf (i:=4) rfl
 have yg:=(B1.out.cell (p:=⟨g,0,none⟩) (cell_block_lt hg)).trans hg
 clear hg
 go_enter Tryz.func69,Tryz.ntmps69
 go_upto_region 1 with fail
 have HSZ:=Box.mk B1.out.size
 generalize hgx:w.heap.size=gx at *
 have HGX:=Box.mk hgx
 clear hgx
 generalize (w.alloc (.cells #[.int .i64 xk,.int .i64 xt,.int .i64 xs,.slice wa wn wc,.slice ra rn rc] 84))=w1 at *
 go_wp2_with fail
 refine (HSAME.out w1 B1.out).mono ?_
 rintro e w2 ⟨rfl,hb2⟩
 have B2:=Box.mk hb2
 clear hb2 yg y4
 go_wp2_with fail
 go_ret
 exact ⟨rfl,by rw [HGX.out];exact B1.out.trans (B2.out.mono HSZ.out)⟩
def RetSe (ids:List Int) (L:Nat) (w:World) (e:Ending) (w':World):Prop:=Below w.heap.size w w'∧∃ (a:Option Addr) (c:Nat),e=.returned (.tuple #[.slice a L c,.bool true])∧Rd w' a L c 1 (intVals ids)
theorem nm_se:(Tryz.f67.name == "runtime.NumGoroutine")=false:=by kernel_rfl
theorem bd_se:Tryz.f67.body.isNone=false:=by kernel_rfl
theorem nm_cl1:(Tryz.f71.name == "runtime.NumGoroutine")=false:=by kernel_rfl
theorem bd_cl1:Tryz.f71.body.isNone=false:=by kernel_rfl
def SeAt (w0:World) (g1 g9 g7 g6 g12 g8 g5:Nat) (ids:List Int) (L k:Nat):Prop:=∀ (W:World) (oa:Option Addr) (oc:Nat),Below w0.heap.size w0 W→Rd W oa k oc 1 (intVals (ids.take k)) →
 Calls Tryz.prog 67 #[.slice oa k oc,.pointer (some ⟨g1,0,none⟩),.pointer (some ⟨g9,0,none⟩),.pointer (some ⟨g7,0,none⟩),.pointer (some ⟨g6,0,none⟩),.pointer (some ⟨g12,0,none⟩),.pointer (some ⟨g8,0,none⟩),.pointer (some ⟨g5,0,none⟩)] W (RetSe ids L W)
set_option maxRecDepth 100000 in
set_option maxHeartbeats 16000000 in
theorem search_step {h:List HpP} {f:Nat→Sg} (r:Run h f) {a:Option Addr} {n c:Nat} {w0:World} (hr:HsRd w0 a n c h) (hn:n≤400) {g1 g9 g7 g6 g12 g8 g5 bk bs L:Nat} {l:List (Int×SlP)} (hL:(f n).com.length=L)
  (he:ExC w0 g1 g9 g7 g6 g12 g8 g5 bk bs a n c L (f n).ids l) (hsn:∀p∈l,∀e∈p.2.xs,HpRd w0 e∧∀k:Nat,p.1=k→e.rows=rowsH (f n).cw k) {k:Nat} (hk:k≤L) (ih:k<L→SeAt w0 g1 g9 g7 g6 g12 g8 g5 (f n).ids L (k+1)):SeAt w0 g1 g9 g7 g6 g12 g8 g5 (f n).ids L k:=by
 intro W oa oc hW ho
 have RU:=Box.mk r
 have HR:=Box.mk (hr.below hW (Nat.le_refl _))
 have HEX:=Box.mk (fun (W':World) (hb:Below W.heap.size W W')=>he.below (hW.trans (hb.mono hW.size)))
 have HO:=Box.mk ho
 have hL400:L≤400:=by
  have:=(r.len n (by rw [hr.len];exact Nat.le_refl _)).2
  omega
 have HSN:=Box.mk (fun p hp e hx=>And.intro ((hsn p hp e hx).1.below hW (Nat.le_refl _)) (hsn p hp e hx).2)
 have HST:=Box.mk (show Calls Tryz.prog 18 #[.slice a n c,.slice oa k oc,.int .i64 (k:Int)] W (RetOwn 136 4 (rowsH (f n).cw k).length (recC HdP.enc (rowsH (f n).cw k)) W) from
  state_any r (hr.below hW (Nat.le_refl _)) (by omega) ho (by omega) (Nat.le_refl _))
 have HIH:=Box.mk (fun (hlt:k<L) (W':World) (oa:Option Addr) (oc:Nat) (hb:Below W.heap.size W W')=>ih hlt W' oa oc (hW.trans (hb.mono hW.size)))
 obtain ⟨s,hl1,hl2,hl3⟩:=(HEX.out W (Below.refl _ W)).seen (k:=(k:Int)) (by unfold In64;omega)
 have HCL:=Box.mk (fun (W':World) (hb:Below W.heap.size W W')=>clone_int (ho.below hb (Nat.le_refl _)) (fun u hu=>by obtain ⟨x,_,rfl⟩:=List.mem_map.1 hu;rfl) (by omega))
 have HCH:=Box.mk (fun (e:k=L) (W':World) (hb:Below W.heap.size W W')=>show Calls Tryz.prog 16 #[.slice a n c,.slice oa k oc] W' (RetV (.int .i64 (-1)) W') from check_h r (hr.below (hW.trans (hb.mono hW.size)) (Nat.le_refl _)) hn (by
  have h1:=ho.below hb (Nat.le_refl _)
  rw [List.take_of_length_le (by unfold Sg.ids;rw [List.length_map];omega)] at h1
  exact h1))
 have HLI:=Box.mk (show (f n).ids.length=L from by unfold Sg.ids;rw [List.length_map];exact hL)
 have HBS:=Box.mk (HEX.out W (Below.refl _ W))
 clear he hsn ho hr r ih hl1
 have c1:=HBS.out.h1
 go_enter Tryz.func67,Tryz.ntmps67
 go_wp2_with fail
 refine HST.out.mono ?_
 rintro e w1 ⟨hb1,sa,sc,rfl,hrow⟩
 obtain ⟨rn,hrn⟩:∃rn,(rowsH (f n).cw k).length=rn:=⟨_,rfl⟩
 rw [hrn] at hrow
 rw [hrn]
 have O1:=(Own.start W).newRow hb1 hrow (Nat.le_refl _)
 have O2:=Box.mk (show Own W.heap.size (w1.alloc (.cells #[.slice sa rn sc] 52)) [RowP 136 4 sa rn sc (recC HdP.enc (rowsH (f n).cw k)),BlkP w1.heap.size 52 [.slice sa rn sc]] from O1.new [.slice sa rn sc] 52)
 have B2:=Box.mk (hb1.alloc hb1.size (.cells #[.slice sa rn sc] 52))
 have HRN:=Box.mk hrn
 clear hb1 hrow O1 hrn HST c1
 go_upto_region 3 with fail
 generalize w1.heap.size=gs at *
 generalize (w1.alloc (.cells #[.slice sa rn sc] 52))=w2 at *
 have HE2:=HEX.out w2 B2.out
 obtain ⟨s,hlook,hs2,hs3⟩:=HE2.seen (k:=(k:Int)) (by unfold In64;omega)
 have HAN:=Box.mk (hpAnyM (fun _=>false) 69 #[.pointer (some ⟨gs,0,none⟩)] exp11_enters s.xs s.a s.xs.length s.c w2 hs2 (fun W' e he hb=>by
  obtain ⟨p,hp,hp1,hp2⟩:=hs3 e he
  obtain ⟨hq1,hq2⟩:=HSN.out p hp e hp2
  have O3:=O2.out.below hb
  have hrr:=hq2 k hp1
  exact exp11_any (hq1.below (B2.out.trans (hb.mono B2.out.size)) (Nat.le_refl _)) ((O3.blk 1 rfl).1.cellOf (i:=0) rfl) (by rw [hrr];exact Rd.ofOwn (O3.row 0 rfl)) (by rw [hrr];exact HRN.out)))
 rw [show (s.xs.any fun _=>false)=false from by simp] at HAN
 have c9:=HE2.h9
 clear hl2 hl3 hs2 hs3 HE2
 obtain ⟨sn,hsn⟩:∃sn,s.xs.length=sn:=⟨_,rfl⟩
 rw [hsn] at HAN hlook
 clear hsn
 go_wp2_with fail
 refine HAN.out.mono ?_
 rintro e w3 ⟨rfl,hb3⟩
 have B3:=Box.mk (B2.out.trans (hb3.mono B2.out.size))
 clear hb3 HAN hlook c9 O2 B2 HRN
 have c7:=(HEX.out w3 B3.out).h7
 have c1:=(HEX.out w3 B3.out).h1
 have c6:=(HEX.out w3 B3.out).h6
 by_cases hlt:k<L
 ·have hne:((k:Int)==(L:Int))=false:=by simp;omega
  have hlook:=(HEX.out w3 B3.out).kn.look2 (t:=30) (e:=3) K_int kI_inj und_mii z_int (x:=(k:Int)+1) (keyI (by unfold In64;omega))
  rw [knownL_get hlt] at hlook
  simp only [kI,Option.map_some,Option.getD_some,Option.isSome_some] at hlook
  have HTK:=Box.mk (show (f n).ids.take (k+1)=(f n).ids.take k++[(f n).ids.getD k 0] from take_snoc (by rw [HLI.out];exact hlt))
  generalize (f n).ids.getD k 0=tx at *
  clear c1 HCH
  go_upto_region 9 with fail
  clear c7 c6 hlook hne
  have HS0:Below W.heap.size W w3.drew:=B3.out.drew
  have HF0:=Box.mk (And.intro (show Own W.heap.size w3.drew [] from (Own.start W).below HS0) HS0)
  refine wp_region_held_drew (S:=fun w'=>Below W.heap.size W w') (by kernel_rfl) HS0 (fun _=>?_)
  generalize w3.drew=wd at *
  refine tv 0 rfl (fun w' hS=>by have e:=(HEX.out w' hS).h12;go_simp;all_goals with_reducible rfl) HS0 ?_
  conv=>arg 8;simp [go_sem]
  refine tw 1 rfl HS0 ?_
  conv=>arg 8;simp [go_sem]
  refine tw 3 rfl HS0 ?_
  conv=>arg 8;simp [go_sem]
  refine wpAnyH_ready (rs:=[2,4]) (by kernel_rfl) (by simp) ?_
  refine AllReadyH.cons rfl (fun K' hK'=>?_) (AllReadyH.cons rfl (fun K' hK'=>?_) AllReadyH.nil)
  ·refine oper_call (by rfl) 71 [.tmp 48] #[44] rfl (vs:=[.slice oa k oc]) rfl Tryz.func71 nm_cl1 bd_cl1 (HCL.out _ HS0) ?_
   rintro e w9 ⟨hb,a9,c9,rfl,hrow⟩
   have HF1:=Box.mk (And.intro (HF0.out.1.newRow hb hrow (Nat.le_refl _)) (HS0.trans (hb.mono HS0.size)))
   clear hrow
   have HT2:=HS0.trans (hb.mono HS0.size)
   refine ⟨_,rfl,hK'.out _ _ HT2 (fun _=>?_)⟩
   clear hK' K'
   conv=>arg 8;simp [go_sem]
   refine ar 4 rfl fun K' hK'=>?_
   refine oper_litA (by rfl) 44 (.tmp 50) rfl sl_int (cs:=[.int .i64 tx]) rfl rfl (by omega) (by omega) ?_
   have HF3:=Box.mk (And.intro (HF1.out.1.new [.int .i64 tx] 3) (HF1.out.2.alloc HF1.out.1.1 (.cells #[.int .i64 tx] 3)))
   have HT4:=HT2.alloc HF1.out.1.1 (.cells #[.int .i64 tx] 3)
   refine hK'.out _ _ HT4 (fun _=>?_)
   clear hK' K'
   conv=>arg 8;simp [go_sem]
   refine ar 5 rfl fun K' hK'=>?_
   have HSRC:=Box.mk (Src.ofRd (P:=Tryz.prog) ((HF3.out.1.blk 1 rfl).1.rd1) (by simp [Value.oneCell']))
   refine oper_append_O (by rfl) (.tmp 49) (.tmp 51) 44 44 rfl sl_int (.inl sl_int.ht) HF3.out.1 0 rfl rfl rfl HSRC.out (by omega) (by unfold maxLen;omega) ?_
   intro a9 c9 w9 hO9 hb9
   have HRA:=Box.mk (show Rd w9 a9 (k+1) c9 1 (intVals ((f n).ids.take (k+1))) from by rw [HTK.out,show intVals ((f n).ids.take k++[tx])=intVals ((f n).ids.take k)++[.int .i64 tx] from List.map_append];exact Rd.ofOwn (hO9.row 0 rfl))
   have B9:=Box.mk (HF3.out.2.trans hb9)
   clear hO9 hb9 HSRC
   have HT5:=B9.out
   refine hK'.out _ _ HT5 (fun _=>?_)
   clear hK' K'
   conv=>arg 8;simp [go_sem]
   refine ar 6 rfl fun K' hK'=>?_
   refine oper_callv (by rfl) 67 (.tmp 47) [.tmp 52] #[44] rfl (cs:=#[.pointer (some ⟨g1,0,none⟩),.pointer (some ⟨g9,0,none⟩),.pointer (some ⟨g7,0,none⟩),.pointer (some ⟨g6,0,none⟩),.pointer (some ⟨g12,0,none⟩),.pointer (some ⟨g8,0,none⟩),.pointer (some ⟨g5,0,none⟩)]) rfl (vs:=[.slice a9 (k+1) c9]) rfl Tryz.func67 nm_se bd_se (HIH.out hlt _ _ _ HT5 HRA.out) ?_
   rintro e w9 ⟨hb,af,cf,rfl,hrd⟩
   have HFIN:=Box.mk (And.intro (HT5.trans (hb.mono HT5.size)) hrd)
   have HT6:=HFIN.out.1
   clear hb hrd
   refine ⟨_,rfl,hK'.out _ _ HT6 (fun _=>?_)⟩
   clear hK' K'
   conv=>arg 8;simp [go_sem]
   refine tw 7 rfl HT6 ?_
   conv=>arg 8;simp [go_sem]
   refine tw 8 rfl HT6 ?_
   conv=>arg 8;simp [go_sem]
   refine tw 9 rfl HT6 ?_
   conv=>arg 8;simp [go_sem]
   refine tw 10 rfl HT6 ?_
   conv=>arg 8;simp [go_sem]
   refine ⟨by kernel_rfl,?_⟩
   conv =>
    arg 5
    simp [go_sem]
   go_wp2_with fail
   go_ret2
   exact ⟨HFIN.out.1,af,cf,rfl,HFIN.out.2⟩
  ·refine oper_litA (by rfl) 44 (.tmp 50) rfl sl_int (cs:=[.int .i64 tx]) rfl rfl (by omega) (by omega) ?_
   have HF7:=Box.mk (And.intro (HF0.out.1.new [.int .i64 tx] 3) (HF0.out.2.alloc HF0.out.1.1 (.cells #[.int .i64 tx] 3)))
   have HT8:=HS0.alloc HF0.out.1.1 (.cells #[.int .i64 tx] 3)
   refine hK'.out _ _ HT8 (fun _=>?_)
   clear hK' K'
   conv=>arg 8;simp [go_sem]
   refine ar 2 rfl fun K' hK'=>?_
   refine oper_call (by rfl) 71 [.tmp 48] #[44] rfl (vs:=[.slice oa k oc]) rfl Tryz.func71 nm_cl1 bd_cl1 (HCL.out _ HT8) ?_
   rintro e w9 ⟨hb,a9,c9,rfl,hrow⟩
   have HF9:=Box.mk (And.intro (HF7.out.1.newRow hb hrow (Nat.le_refl _)) (HT8.trans (hb.mono HT8.size)))
   clear hrow
   have HT10:=HT8.trans (hb.mono HT8.size)
   refine ⟨_,rfl,hK'.out _ _ HT10 (fun _=>?_)⟩
   clear hK' K'
   conv=>arg 8;simp [go_sem]
   refine ar 5 rfl fun K' hK'=>?_
   have HSRC:=Box.mk (Src.ofRd (P:=Tryz.prog) ((HF9.out.1.blk 0 rfl).1.rd1) (by simp [Value.oneCell']))
   refine oper_append_O (by rfl) (.tmp 49) (.tmp 51) 44 44 rfl sl_int (.inl sl_int.ht) HF9.out.1 1 rfl rfl rfl HSRC.out (by omega) (by unfold maxLen;omega) ?_
   intro a9 c9 w9 hO9 hb9
   have HRA:=Box.mk (show Rd w9 a9 (k+1) c9 1 (intVals ((f n).ids.take (k+1))) from by rw [HTK.out,show intVals ((f n).ids.take k++[tx])=intVals ((f n).ids.take k)++[.int .i64 tx] from List.map_append];exact Rd.ofOwn (hO9.row 1 rfl))
   have B9:=Box.mk (HF9.out.2.trans hb9)
   clear hO9 hb9 HSRC
   have HT11:=B9.out
   refine hK'.out _ _ HT11 (fun _=>?_)
   clear hK' K'
   conv=>arg 8;simp [go_sem]
   refine ar 6 rfl fun K' hK'=>?_
   refine oper_callv (by rfl) 67 (.tmp 47) [.tmp 52] #[44] rfl (cs:=#[.pointer (some ⟨g1,0,none⟩),.pointer (some ⟨g9,0,none⟩),.pointer (some ⟨g7,0,none⟩),.pointer (some ⟨g6,0,none⟩),.pointer (some ⟨g12,0,none⟩),.pointer (some ⟨g8,0,none⟩),.pointer (some ⟨g5,0,none⟩)]) rfl (vs:=[.slice a9 (k+1) c9]) rfl Tryz.func67 nm_se bd_se (HIH.out hlt _ _ _ HT11 HRA.out) ?_
   rintro e w9 ⟨hb,af,cf,rfl,hrd⟩
   have HFIN:=Box.mk (And.intro (HT11.trans (hb.mono HT11.size)) hrd)
   have HT12:=HFIN.out.1
   clear hb hrd
   refine ⟨_,rfl,hK'.out _ _ HT12 (fun _=>?_)⟩
   clear hK' K'
   conv=>arg 8;simp [go_sem]
   refine tw 7 rfl HT12 ?_
   conv=>arg 8;simp [go_sem]
   refine tw 8 rfl HT12 ?_
   conv=>arg 8;simp [go_sem]
   refine tw 9 rfl HT12 ?_
   conv=>arg 8;simp [go_sem]
   refine tw 10 rfl HT12 ?_
   conv=>arg 8;simp [go_sem]
   refine ⟨by kernel_rfl,?_⟩
   conv =>
    arg 5
    simp [go_sem]
   go_wp2_with fail
   go_ret2
   exact ⟨HFIN.out.1,af,cf,rfl,HFIN.out.2⟩
 ·obtain rfl:k=L:=by omega
  have hne:((k:Int)==(k:Int))=true:=by simp
  have HC:=Box.mk (HCH.out rfl w3 B3.out)
  have HTK:=Box.mk (show (f n).ids.take k=(f n).ids from List.take_of_length_le (by rw [HLI.out];exact Nat.le_refl _))
  clear HCH HIH c6
  go_wp2_with fail
  refine HC.out.mono ?_
  rintro e w4 ⟨rfl,hb4⟩
  have B4:=Box.mk (B3.out.trans (hb4.mono B3.out.size))
  clear hb4 HC c7 c1
  go_wp2_with fail
  go_ret2
  exact ⟨B4.out,oa,oc,rfl,by have:=HO.out.below B4.out (Nat.le_refl _);rw [HTK.out] at this;exact this⟩
theorem search_any {h:List HpP} {f:Nat→Sg} (r:Run h f) {a:Option Addr} {n c:Nat} {w0:World} (hr:HsRd w0 a n c h) (hn:n≤400) {g1 g9 g7 g6 g12 g8 g5 bk bs L:Nat} {l:List (Int×SlP)} (hL:(f n).com.length=L)
  (he:ExC w0 g1 g9 g7 g6 g12 g8 g5 bk bs a n c L (f n).ids l) (hsn:∀p∈l,∀e∈p.2.xs,HpRd w0 e∧∀k:Nat,p.1=k→e.rows=rowsH (f n).cw k):∀m k:Nat,k+m=L→SeAt w0 g1 g9 g7 g6 g12 g8 g5 (f n).ids L k
 | 0,k,h1=>search_step r hr hn hL he hsn (by omega) (fun h2=>by omega)
 | m+1,k,h1=>search_step r hr hn hL he hsn (by omega) (fun _=>search_any r hr hn hL he hsn m (k+1) (by omega))
end
end Go.Proofs.YtlfghapllmaigaaGreatDoor
