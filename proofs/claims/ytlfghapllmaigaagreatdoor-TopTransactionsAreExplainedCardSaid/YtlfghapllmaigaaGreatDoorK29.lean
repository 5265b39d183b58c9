/-
  The walk of history's Check. Conditions: each theorem's own hypotheses.
-/
import Derived.Test.YtlfghapllmaigaaGreatDoorK28
set_option linter.unusedVariables false
set_option linter.unusedSimpArgs false
namespace Go.Proofs.YtlfghapllmaigaaGreatDoor
section
open Go.RowKit Go.Maps
attribute [local go_sem] Oper.semAt_some
theorem Run.takeR {h:List HpP} {f:Nat→Sg} (r:Run h f) (k:Nat):Run (h.take k) f:=⟨r.start,fun j hj=>by
 rw [List.length_take] at hj
 rw [List.getD_eq_getElem?_getD,List.getElem?_take_of_lt (by omega),← List.getD_eq_getElem?_getD]
 exact r.step j (by omega)⟩
theorem HsRd.takeH {w:World} {a:Option Addr} {n c:Nat} {h:List HpP} (hr:HsRd w a n c h) {k:Nat} (hk:k≤n):HsRd w a k c (h.take k) :=
 ⟨hr.rd.preK HpP.enc_len k hk,fun x hx=>hr.hp x (List.mem_of_mem_take hx)⟩
theorem Run.rid {h:List HpP} {f:Nat→Sg} (r:Run h f) {k:Nat} (hk:k<h.length) {tx:Int} {v:List WrP} {o:List (Int×List WrP)} (_:(f k).opn=(tx,v)::o) (h6:f (k+1)=⟨(f k).com++[(tx,v)],o,(f k).n⟩):(f k).com.length<(f h.length).com.length∧(f h.length).ids.getD (f k).com.length 0=tx:=by
 have he:=r.ext (k:=k+1) (j:=h.length) hk (Nat.le_refl _)
 have h1:=he.clen
 have h2:=he.ids
 rw [h6] at h1 h2
 simp only [List.length_append,List.length_singleton] at h1 h2
 refine ⟨by omega,?_⟩
 have h3:((f h.length).ids.take ((f k).com.length+1)).getD (f k).com.length 0=tx:=by
  rw [h2]
  unfold Sg.ids
  rw [List.map_append,List.getD_eq_getElem?_getD,List.getElem?_append_right (by simp)]
  simp
 rw [List.getD_eq_getElem?_getD,List.getElem?_take_of_lt (by omega),← List.getD_eq_getElem?_getD] at h3
 exact h3
theorem wp_normal {P:Program} {c:Code} {Q:Exit→Act→World→Prop} {a:Act} {w:World} (h:c.wp P (fun e a' w'=>e=.normal∧Q .normal a' w') a w):c.wp P Q a w :=
 wp_mono h (by rintro e a' w' ⟨rfl,h⟩;exact h)
theorem nm_ci:(Tryz.f76.name == "runtime.NumGoroutine")=false:=by kernel_rfl
theorem bd_ci:Tryz.f76.body.isNone=false:=by kernel_rfl
theorem nm_state:(Tryz.f18.name == "runtime.NumGoroutine")=false:=by kernel_rfl
theorem bd_state:Tryz.f18.body.isNone=false:=by kernel_rfl
theorem nm_same:(Tryz.f70.name == "runtime.NumGoroutine")=false:=by kernel_rfl
theorem bd_same:Tryz.f70.body.isNone=false:=by kernel_rfl
set_option maxRecDepth 100000 in
set_option maxHeartbeats 16000000 in
theorem check_h {h:List HpP} {f:Nat→Sg} (r:Run h f) {a:Option Addr} {n c:Nat} {w:World} (hr:HsRd w a n c h) (hn:n≤400) {oa:Option Addr} {om oc:Nat} (ho:Rd w oa om oc 1 (intVals (f n).ids)) :
  Calls Tryz.prog 16 #[.slice a n c,.slice oa om oc] w (RetV (.int .i64 (-1)) w):=by
 have HR:=Box.mk hr
 have HL:=Box.mk hr.len
 have RU:=Box.mk r
 have HO:=Box.mk ho
 have HOL:=Box.mk ho.ilen
 have hok:=r.ok n (by rw [hr.len];exact Nat.le_refl _)
 have hcl:=r.len n (by rw [hr.len];exact Nat.le_refl _)
 have hcom:om=(f n).com.length:=by rw [← ho.ilen];unfold Sg.ids;rw [List.length_map]
 have HCOM:=Box.mk hcom
 have hid:∀x∈(f n).ids,1≤x∧x≤(n:Int):=fun x hx=>by
  obtain ⟨p,hp,rfl⟩:=List.mem_map.1 hx
  have:=hok.mem p (List.mem_append.2 (.inl hp))
  omega
 have HID:=Box.mk hid
 have HOK:=Box.mk hok
 have HND:=Box.mk (show (f n).ids.Nodup from by
  have:=(r.trc n (by rw [hr.len];exact Nat.le_refl _)).ids_nd
  exact this)
 have homn:om≤n:=by omega
 have HAS:=Box.mk (asks_any r hr (by omega))
 have hmm:=@run_makeMap Tryz.prog
 clear hr r ho hok hid hcom hcl
 refine (callsIn_wide (n:=8)).1 ?_
 refine callsIn_of_wp_marks Tryz.func16 rfl trivial ?_ rfl
 simp only [Tryz.ntmps16,List.size_toArray,List.length_cons,List.length_nil,Nat.reduceAdd,Nat.reduceSub,Array.replicate_succ,Array.replicate_zero,List.push_toArray,List.append_toArray,List.nil_append,List.cons_append]
 refine wpIn_wide.2 ?_
 go_wp2_with fail
 refine HAS.out.mono ?_
 rintro e w1 ⟨hb1,ba,ma,rfl,hO1,hA⟩
 have O2:=Box.mk (show Own w.heap.size (w1.alloc (.map #[] 0)) [IntO ba ma,IntO w1.heap.size []] from Own.newMap (P:=Tryz.prog) (k:=3) (ek:=kI) (ev:=kI) hO1)
 have B2:=Box.mk (hb1.alloc hb1.size (.map #[] 0))
 have HA:=Box.mk hA
 clear hb1 hO1 hA HAS
 go_upto_region 3 with fail
 have O3:=((O2.out.new [.map (some ba)] 30).new [.map (some w1.heap.size)] 30).new [.int .i64 0] 3
 have B3:=Box.mk (((B2.out.alloc B2.out.size (.cells #[.map (some ba)] 30)).alloc (by have:=B2.out.size;simp at this ⊢;omega) (.cells #[.map (some w1.heap.size)] 30)).alloc (by have:=B2.out.size;simp at this ⊢;omega) (.cells #[.int .i64 0] 3))
 simp only [World.size_alloc,List.nil_append,List.cons_append] at O3
 have O3:=Box.mk O3
 clear O2 B2
 generalize hbs:w1.heap.size=bs at *
 generalize ((((w1.alloc (.map #[] 0)).alloc (.cells #[.map (some ba)] 30)).alloc (.cells #[.map (some bs)] 30)).alloc (.cells #[.int .i64 0] 3))=w2 at *
 clear hbs
 go_wp2_with fail
 refine (mk_back oa om oc w2).mono ?_
 rintro e w3 ⟨rfl,rfl⟩
 have O4:=Box.mk (show Own w.heap.size (w2.alloc (.cells #[.slice oa om oc] 44)) (chkMine bs ba (bs+1) (bs+1+1) (bs+1+1+1) ma (f n).ids []++[BlkP w2.heap.size 44 [.slice oa om oc]]) from by
  have h1:=O3.out.new [.slice oa om oc] 44
  unfold chkMine
  simp only [List.nil_append,List.cons_append] at h1 ⊢
  exact Own.stpShut (h1.perm (List.Perm.swap _ _ _)) (StpM.start _))
 have B4:=Box.mk (B3.out.alloc B3.out.size (.cells #[.slice oa om oc] 44))
 have hIt:=it_back (w:=w2.alloc (.cells #[.slice oa om oc] 44)) (g:=w2.heap.size) (B:=w.heap.size) HO.out (Nat.le_refl _) (by omega) B4.out
 have HI:=Box.mk hIt
 clear O3 B3 hIt
 go_wp2_with fail
 generalize w2.heap.size=gb at *
 generalize (w2.alloc (.cells #[.slice oa om oc] 44))=w4 at *
 refine wpIn_wide.1 (wpIn_range_own (α:=Nat×Int) (B:=w.heap.size) (gf:=127) (lb:=#[.pointer (some ⟨gb,0,none⟩)]) rfl en_back HI.out (Below.refl _ _) (fun _=>rfl) (chkMine bs ba (bs+1) (bs+1+1) (bs+1+1+1) ma (f n).ids) O4.out ?a1 ?assign ?body ?done)
 case assign =>
  intro l x W K hK
  gi_wp2
  exact hK
 case body =>
  intro l pre x G R W hO hG hx hlt
  unfold chkMine at hO
  simp only [List.cons_append,List.nil_append] at hO
  obtain ⟨m,O1,hS⟩:=Own.stpOpen hO
  obtain ⟨xi,tx⟩:=x
  simp only at hx
  have htx:=HID.out tx (by
   rw [hx.2,List.getD_eq_getElem?_getD,List.getElem?_eq_getElem hx.1]
   exact List.getElem_mem hx.1)
  have hxi:=hx.1
  rw [HOL.out] at hxi
  have t0:(tx==0)=false:=by simp;omega
  have y6:=(O1.blk 3 rfl).1.cellOf (i:=0) rfl
  have hi64:In64 tx:=by unfold In64;omega
  obtain ⟨w5,hrun,O5,hb5,_⟩:=O1.putMap K_int kI_inj und_mii 0 rfl (keyI hi64) ((xi:Int)+1)
  have HF:=Box.mk (show Own w.heap.size w5 (chkMine bs ba (bs+1) (bs+1+1) (bs+1+1+1) ma (f n).ids (pre++[(xi,tx)])++ImmO G::R) from by
   unfold chkMine
   exact Own.stpShut O5 (hS.step HND.out hx))
  have HB5:=Box.mk hb5
  simp only [kI] at hrun
  simp only
  clear hO O1 hS hx htx hi64 O5 hb5
  gi_wp2
  exact ⟨HF.out,HB5.out⟩
 case done =>
  intro D xs W R hxs hO hB
  subst hxs
  unfold chkMine at hO
  simp only [List.cons_append,List.nil_append] at hO
  obtain ⟨ms,O1,hS⟩:=Own.stpOpen (hO.front 1 rfl)
  rw [← HOL.out] at hS
  have HSTP:=Box.mk (hS.stps HND.out (O1.map 0 rfl).1.nodup)
  have O1:=Box.mk (show Own w.heap.size W (IntO bs ms::ObjO D (.deferred (some []))::IntO ba ma::BlkP (bs+1) 30 [.map (some ba)]::BlkP (bs+1+1) 30 [.map (some bs)]::BlkP (bs+1+1+1) 3 [.int .i64 0]::R) from O1)
  have B1:=Box.mk (B4.out.trans hB)
  clear hO hS hB O4 B4 HI
  simp only
  go_wp2_with fail
  go_loopg [10,37] n (fun gg s10 s37 wr=>∃ (k L:Nat),k≤n∧n - k≤gg∧s37=.int .i64 k∧s10=.int .i64 L∧Box (Own w.heap.size wr (IntO bs ms::ObjO D (.deferred (some []))::IntO ba ma::BlkP (bs+1) 30 [.map (some ba)]::BlkP (bs+1+1) 30 [.map (some bs)]::BlkP (bs+1+1+1) 3 [.int .i64 0]::R)∧Below w.heap.size w wr∧L=(f k).com.length))
  case atStart=>exact ⟨0,0,Nat.zero_le _,by omega,rfl,rfl,⟨O1.out,B1.out,by rw [RU.out.start];rfl⟩⟩
  clear O1 B1
  case round =>
   obtain ⟨k,L,hk,hg,rfl,rfl,HI⟩:=hrel
   by_cases hlt:k<n
   ·obtain ⟨b,off,x,rfl,hx,hxm,hxr,c0,c1,c2',c3',c4'⟩:=(HR.out.below HI.out.2.1 (Nat.le_refl _)).at k hlt
    have hst:=RU.out.step k (by rw [HL.out];exact hlt)
    have hlen:=RU.out.len k (by rw [HL.out];exact hk)
    rw [hx] at hst
    have HX:=Box.mk (HR.out.hp x hxm)
    have HLK:=Box.mk HI.out.2.2
    have hLk:L≤k:=by rw [HI.out.2.2];omega
    have hLom:L≤om:=by
     have h1:=(RU.out.ext (k:=k) (j:=n) hk (by rw [HL.out];exact Nat.le_refl _)).clen
     rw [HCOM.out,HI.out.2.2];exact h1
    obtain ⟨xk,xt,xs,wa,wc,ws,ra,rc,rs⟩:=x
    simp only at c0 c1 c2' c3' c4'
    obtain ⟨wn,hwn⟩:∃wn,ws.length=wn:=⟨_,rfl⟩
    obtain ⟨rn,hrn⟩:∃rn,rs.length=rn:=⟨_,rfl⟩
    rw [hwn] at c3'
    rw [hrn] at c4'
    have HRN:=Box.mk hrn
    have O4:=Box.mk ((HI.out.1.newF [.int .i64 k] 3).newF [.int .i64 xk,.int .i64 xt,.int .i64 xs,.slice wa wn wc,.slice ra rn rc] 84)
    have B4:=Box.mk ((HI.out.2.1.alloc HI.out.2.1.size (.cells #[.int .i64 k] 3)).alloc (by have:=HI.out.2.1.size;simp;omega) (.cells #[.int .i64 xk,.int .i64 xt,.int .i64 xs,.slice wa wn wc,.slice ra rn rc] 84))
    have HST:=Box.mk (And.intro hst.kinds (And.intro hst hlen))
    simp only [World.size_alloc] at O4
    clear hx hxm hxr hst hlen HI hwn hrn
    go_upto_region 14 with fail
    clear c0 c1 c2' c3' c4'
    generalize wr.heap.size=gi at *
    generalize ((wr.alloc (.cells #[.int .i64 k] 3)).alloc (.cells #[.int .i64 xk,.int .i64 xt,.int .i64 xs,.slice wa wn wc,.slice ra rn rc] 84))=w5 at *
    have y0:=(O4.out.blk 0 rfl).1.cellOf (i:=0) rfl
    have y1:=(O4.out.blk 0 rfl).1.cellOf (i:=1) rfl
    have y2:=(O4.out.blk 0 rfl).1.cellOf (i:=2) rfl
    have y4:=(O4.out.blk 0 rfl).1.cellOf (i:=4) rfl
    have yi:=(O4.out.blk 1 rfl).1.cellOf (i:=0) rfl
    have y6:=(O4.out.blk 6 rfl).1.cellOf (i:=0) rfl
    rcases HST.out with ⟨⟨rfl,h2,rfl,rfl,h5,h6,h7⟩ | ⟨rfl,rfl,rfl,h4,v,o,h5,h6⟩ | ⟨rfl,rfl,rfl,rfl,rfl,h6⟩ | ⟨rfl,rfl,h3,rfl,h5,h6⟩,hst,hlen⟩
    ·-- ask
     have HLL:=Box.mk (show L=(f (k+1)).com.length from by rw [h7];exact HLK.out)
     have hpos:=(RU.out.ok k (by rw [HL.out];exact hk)).pos
     have hxt64:In64 xt:=by unfold In64;omega
     have hlook:=(O4.out.map 2 rfl).1.look (t:=30) (e:=3) K_int kI_inj und_mii z_int (keyI hxt64)
     cases hga:getA ms xt with
     | none =>
      rw [hga] at hlook
      simp only [kI,Option.map_none,Option.getD_none] at hlook
      clear h2 h5 h6 h7 hst HST hga hpos
      go_wp2_with fail
      go_roundg (n - (k+1))
      case measure=>omega
      case rel=>exact ⟨k+1,L,by omega,by omega,by go_num,rfl,⟨(O4.out.drop 0).drop 0,B4.out,HLL.out⟩⟩
     | some v =>
      obtain ⟨i,hi1,hi2,hi3⟩:=HSTP.out.back xt v hga
      rw [hga] at hlook
      simp only [kI,Option.map_some,Option.getD_some] at hlook
      have hil:L≤i:=by
       have h1:=(RU.out.ext (k:=k) (j:=n) hk (by rw [HL.out];exact Nat.le_refl _)).late (RU.out.ok k (by rw [HL.out];exact hk)) (i:=i) (by unfold Sg.ids at hi1;rw [List.length_map] at hi1;exact hi1) hi2 (.inl (by omega))
       rw [HLK.out];exact h1
      have t1:decide (0<v)=true:=decide_eq_true (by omega)
      have t2:decide (v<(L:Int))=false:=decide_eq_false (by omega)
      clear h2 h5 h6 h7 hst HST hga hpos hi1 hi2 hi3
      go_wp2_with fail
      go_roundg (n - (k+1))
      case measure=>omega
      case rel=>exact ⟨k+1,L,by omega,by omega,by go_num,rfl,⟨(O4.out.drop 0).drop 0,B4.out,HLL.out⟩⟩
    ·-- report
     have hrid:=RU.out.rid (k:=k) (by rw [HL.out];exact hlt) h5 h6
     rw [HL.out,← HLK.out,← HCOM.out] at hrid
     have HLL:=Box.mk (show L+1=(f (k+1)).com.length from by rw [h6,List.length_append,HLK.out];rfl)
     obtain ⟨ob,ooff,rfl,hco⟩:=(HO.out.below B4.out (Nat.le_refl _)).intAtD L (by omega)
     rw [hrid.2] at hco
     have hxs:xs=(L:Int)+1:=by rw [h4,HLK.out]
     subst hxs
     have t1:decide ((om:Int)<(L:Int)+1)=false:=decide_eq_false (by omega)
     have hom1:=hrid.1
     clear h4 h5 h6 hst HST hrid
     go_wp2_with fail
     go_quiet (fail)
     go_wp2_with fail
     go_roundg (n - (k+1))
     case measure=>omega
     case rel=>exact ⟨k+1,L+1,by omega,by omega,by go_num,by go_num,⟨((O4.out.drop 0).drop 0).drewN _,below_drewN B4.out _,HLL.out⟩⟩
    ·-- fail
     have HLL:=Box.mk (show L=(f (k+1)).com.length from by rw [h6];exact HLK.out)
     have HNX:=Box.mk (next_any RU.out (HR.out.below B4.out (Nat.le_refl _)) (by omega) hlt)
     have HLOST:=Box.mk (fun tx (h:tx∈(f k).oids)=>hst.lost rfl (RU.out.ok k (by rw [HL.out];exact hk)) (RU.out.ext (k:=k+1) (j:=n) hlt (by rw [HL.out];exact Nat.le_refl _)) (tx:=tx) h)
     have HO64:=Box.mk (fun tx (h:tx∈(f k).oids)=>show In64 tx from by
      obtain ⟨p,hp,rfl⟩:=List.mem_map.1 h
      have h1:=(RU.out.ok k (by rw [HL.out];exact hk)).mem p (List.mem_append.2 (.inr hp))
      have h2:=(RU.out.len k (by rw [HL.out];exact hk)).1
      unfold In64;omega)
     clear h6 hst HST
     go_wp2_with fail
     refine HNX.out.mono ?_
     rintro e w6 ⟨hb6,v,hv0,hv1,rfl⟩
     have O6:=Box.mk ((O4.out.below hb6).newF [.int .i64 v] 3)
     have B6:=Box.mk ((B4.out.trans (hb6.mono O4.out.1)).alloc (Nat.le_trans O4.out.1 hb6.size) (.cells #[.int .i64 v] 3))
     have yi6:=(O6.out.blk 2 rfl).1.cellOf (i:=0) rfl
     clear hb6 O4 B4 y0 y1 y2 y4 yi y6 HNX
     have hkc:k≤c:=Nat.le_trans (Nat.le_of_lt hlt) HR.out.rd.hcap
     go_upto_region 24 with fail
     generalize w6.heap.size=gv at *
     generalize (w6.alloc (.cells #[.int .i64 v] 3))=w7 at *
     have HOP:=Box.mk (open_any (RU.out.takeR k) ((HR.out.below B6.out (Nat.le_refl _)).takeH hk) (by omega))
     go_wp2_with fail
     refine HOP.out.mono ?_
     rintro e w8 ⟨hb8,pa,pc,rfl,hrow⟩
     have O8:=Box.mk (O6.out.below hb8)
     have B8:=Box.mk (B6.out.trans (hb8.mono O6.out.1))
     have HAN:=Box.mk (nAnyM (fun _=>false) 78 #[.pointer (some ⟨bs+1+1,0,none⟩),.pointer (some ⟨gv,0,none⟩)] chk1_enters (f k).oids pa (f k).oids.length pc w8 (Rd.ofOwn hrow) (fun W y hy hW=>by
      have O9:=O8.out.below hW
      exact chk1_any (O9.map 3 rfl).1 ((O9.blk 7 rfl).1.cellOf (i:=0) rfl) ((O9.blk 0 rfl).1.cellOf (i:=0) rfl) hv0 (HSTP.out.none_of (HLOST.out y hy)) (HO64.out y hy)))
     have hany:((f k).oids.any fun _=>false)=false:=by simp
     rw [hany] at HAN
     clear hb8 hrow O6 B6 yi6 hany HOP
     go_wp2_with fail
     refine HAN.out.mono ?_
     rintro e w9 ⟨rfl,hb9⟩
     have O9:=Box.mk ((((O8.out.below hb9).drop 0).drop 0).drop 0)
     have B9:=Box.mk (B8.out.trans (hb9.mono O8.out.1))
     clear hb9 HAN O8 B8
     go_wp2_with fail
     go_roundg (n - (k+1))
     case measure=>omega
     case rel=>exact ⟨k+1,L,by omega,by omega,by go_num,rfl,⟨O9.out,B9.out,HLL.out⟩⟩
    ·-- see
     have HLL:=Box.mk (show L=(f (k+1)).com.length from by rw [h6];exact HLK.out)
     obtain rfl:xs=(L:Int):=by rw [h3,HLK.out]
     have hcw:rs=rowsH (f n).cw L:=by
      obtain ⟨m,hm⟩:=(RU.out.ext (k:=k) (j:=n) hk (by rw [HL.out];exact Nat.le_refl _)).cw
      rw [hm,h5,← HLK.out]
      exact (rowsH_more (by unfold Sg.cw;rw [List.length_map,HLK.out];exact Nat.le_refl _) m).symm
     have hids:∀y∈(f n).ids.take L,∃j:Nat,j<k∧getA ma y=some (j:Int):=fun y hy=>by
      have hxt:=RU.out.ext (k:=k) (j:=n) hk (by rw [HL.out];exact Nat.le_refl _)
      have hy2:y∈(f k).ids:=by rw [← hxt.ids,← HLK.out];exact hy
      obtain ⟨p,hp,rfl⟩:=List.mem_map.1 hy2
      obtain ⟨j,hj,hj1,hj2,_⟩:=(RU.out.trc k (by rw [HL.out];exact hk)).asked p (List.mem_append.2 (.inl hp))
      rw [List.length_take] at hj
      rw [List.getD_eq_getElem?_getD,List.getElem?_take_of_lt (by omega),← List.getD_eq_getElem?_getD] at hj1 hj2
      have:=HA.out.fwd j (by omega) hj1
      rw [hj2] at this
      exact ⟨j,by omega,this⟩
     have HLATE:=Box.mk (fun (w':World) (hO':Own w.heap.size w' (BlkP (gi+1) 84 [.int .i64 5,.int .i64 0,.int .i64 (L:Int),.slice wa wn wc,.slice ra rn rc]::BlkP gi 3 [.int .i64 k]::IntO bs ms::ObjO D (.deferred (some []))::IntO ba ma::BlkP (bs+1) 30 [.map (some ba)]::BlkP (bs+1+1) 30 [.map (some bs)]::BlkP (bs+1+1+1) 3 [.int .i64 0]::R)) (hb':Below w.heap.size w w')=>show Calls Tryz.prog 76 #[.slice oa L oc,.func (.func 79) #[] #[.pointer (some ⟨bs+1,0,none⟩),.pointer (some ⟨gi,0,none⟩)]] w' (RetV (.bool false) w') from by
      have h1:=nAnyM (fun _=>false) 79 #[.pointer (some ⟨bs+1,0,none⟩),.pointer (some ⟨gi,0,none⟩)] chk2_enters ((f n).ids.take L) oa L oc w' (by
       have h2:=(HO.out.below hb' (Nat.le_refl _)).pre L hLom
       have e:(intVals (f n).ids).take L=intVals ((f n).ids.take L):=by unfold intVals;rw [List.map_take]
       rw [← e]
       simpa using h2) (fun W y hy hW=>by
       have O9:=hO'.below hW
       obtain ⟨j,hj,hga⟩:=hids y hy
       have h3:=HID.out y (List.mem_of_mem_take hy)
       exact chk2_any (O9.map 4 rfl).1 ((O9.blk 5 rfl).1.cellOf (i:=0) rfl) ((O9.blk 1 rfl).1.cellOf (i:=0) rfl) hga (by omega) (by omega) (by unfold In64;omega))
      have hany:(((f n).ids.take L).any fun _=>false)=false:=by simp
      rw [hany] at h1
      exact h1)
     have HSTA:=Box.mk (fun (w':World) (hb':Below w.heap.size w w')=>show Calls Tryz.prog 18 #[.slice (some ⟨b,off,none⟩) n c,.slice oa om oc,.int .i64 (L:Int)] w' (RetOwn 136 4 rn (recC HdP.enc rs) w') from by
      have h1:=state_any RU.out (HR.out.below hb' (Nat.le_refl _)) (by omega) (oa:=oa) (om:=om) (oc:=oc) (kk:=L) (by
       rw [List.take_of_length_le (by rw [HOL.out];exact Nat.le_refl _)]
       exact HO.out.below hb' (Nat.le_refl _)) (by rw [← HCOM.out];exact Nat.le_refl _) hLom
      rw [← hcw,HRN.out] at h1
      exact h1)
     have HSAME:=Box.mk (fun (w':World) (hb':Below w.heap.size w w') (sa:Option Addr) (sc:Nat) (hs:Rd w' sa rn sc 4 (recC HdP.enc rs))=>show Calls Tryz.prog 70 #[.slice ra rn rc,.slice sa rn sc] w' (RetV (.bool true) w') from by
      have h1:=HX.out.rw_.below hb' (Nat.le_refl _)
      simp only [HRN.out] at h1
      exact same_any h1 hs (fun x hx=>(HX.out.rv x hx).below hb' (Nat.le_refl _)))
     have hmin:min (L:Int) (om:Int)=(L:Int):=by omega
     have t1:decide ((om:Int)<(L:Int))=false:=decide_eq_false (by omega)
     have hLoc:L≤oc:=Nat.le_trans hLom HO.out.hcap
     clear h3 h5 h6 hst HST hids hcw
     go_wp2_with fail
     have HS0:Own w.heap.size w5.drew (BlkP (gi+1) 84 [.int .i64 5,.int .i64 0,.int .i64 (L:Int),.slice wa wn wc,.slice ra rn rc]::BlkP gi 3 [.int .i64 k]::IntO bs ms::ObjO D (.deferred (some []))::IntO ba ma::BlkP (bs+1) 30 [.map (some ba)]::BlkP (bs+1+1) 30 [.map (some bs)]::BlkP (bs+1+1+1) 3 [.int .i64 0]::R)∧Below w.heap.size w w5.drew:=⟨O4.out.drew,B4.out.drew⟩
     clear O4 B4 y0 y1 y2 y4 yi y6
     refine wp_normal ?_
     refine wp_region_held_drew (S:=fun w'=>(Own w.heap.size w' (BlkP (gi+1) 84 [.int .i64 5,.int .i64 0,.int .i64 (L:Int),.slice wa wn wc,.slice ra rn rc]::BlkP gi 3 [.int .i64 k]::IntO bs ms::ObjO D (.deferred (some []))::IntO ba ma::BlkP (bs+1) 30 [.map (some ba)]::BlkP (bs+1+1) 30 [.map (some bs)]::BlkP (bs+1+1+1) 3 [.int .i64 0]::R)∧Below w.heap.size w w')) (by kernel_rfl) HS0 (fun _=>?_)
     generalize w5.drew=wd at *
     refine wpAnyH_take (i:=0) (v:=?_) rfl (by kernel_rfl) (by kernel_rfl) (by kernel_rfl) (fun _ _ _ h=>absurd h.1 (by simp)) (yieldsIf_val (by rfl) (fun w' hS=>?_)) (HS0) ?_
     rotate_left
     ·go_simp;all_goals with_reducible rfl
     conv=>arg 8;simp [go_sem]
     refine wpAnyH_take (i:=1) (v:=?_) rfl (by kernel_rfl) (by kernel_rfl) (by kernel_rfl) (fun _ _ _ h=>absurd h.1 (by simp)) (yieldsIf_val (by rfl) (fun w' hS=>?_)) (HS0) ?_
     rotate_left
     ·have e:=(hS.1.blk 0 rfl).1.cellOf (i:=2) rfl;go_simp;all_goals with_reducible rfl
     conv=>arg 8;simp [go_sem]
     refine wpAnyH_take (i:=2) (v:=?_) rfl (by kernel_rfl) (by kernel_rfl) (by kernel_rfl) (fun _ _ _ h=>absurd h.1 (by simp)) (yieldsIf_val (by rfl) (fun w' hS=>?_)) (HS0) ?_
     rotate_left
     ·go_simp;all_goals with_reducible rfl
     conv=>arg 8;simp [go_sem]
     refine wpAnyH_take (i:=3) (v:=?_) rfl (by kernel_rfl) (by kernel_rfl) (by kernel_rfl) (fun _ _ _ h=>absurd h.1 (by simp)) (yieldsIf_val (by rfl) (fun w' hS=>?_)) (HS0) ?_
     rotate_left
     ·go_simp;all_goals with_reducible rfl
     conv=>arg 8;simp [go_sem]
     refine wpAnyH_take (i:=4) (v:=.bool false) rfl (by kernel_rfl) (by kernel_rfl) (by kernel_rfl) (fun _ _ _ h=>absurd h.1 (by simp)) (yieldsIf_val (by rfl) (fun w' hS=>by go_simp)) (HS0) ?_
     conv=>arg 8;simp [go_sem]
     refine wpAnyH_take (i:=5) (v:=?_) rfl (by kernel_rfl) (by kernel_rfl) (by kernel_rfl) (fun _ _ _ h=>absurd h.1 (by simp)) (yieldsIf_val (by rfl) (fun w' hS=>?_)) (HS0) ?_
     rotate_left
     ·go_simp;all_goals with_reducible rfl
     conv=>arg 8;simp [go_sem]
     refine wpAnyH_take (i:=6) (v:=?_) rfl (by kernel_rfl) (by kernel_rfl) (by kernel_rfl) (fun _ _ _ h=>absurd h.1 (by simp)) (yieldsIf_val (by rfl) (fun w' hS=>?_)) (HS0) ?_
     rotate_left
     ·go_simp;all_goals with_reducible rfl
     conv=>arg 8;simp [go_sem]
     refine wpAnyH_take (i:=7) (v:=?_) rfl (by kernel_rfl) (by kernel_rfl) (by kernel_rfl) (fun _ _ _ h=>absurd h.1 (by simp)) (yieldsIf_val (by rfl) (fun w' hS=>?_)) (HS0) ?_
     rotate_left
     ·have e:=(hS.1.blk 0 rfl).1.cellOf (i:=2) rfl;go_simp;all_goals with_reducible rfl
     conv=>arg 8;simp [go_sem]
     refine wpAnyH_take (i:=8) (v:=?_) rfl (by kernel_rfl) (by kernel_rfl) (by kernel_rfl) (fun _ _ _ h=>absurd h.1 (by simp)) (yieldsIf_val (by rfl) (fun w' hS=>?_)) (HS0) ?_
     rotate_left
     ·go_simp;all_goals with_reducible rfl
     conv=>arg 8;simp [go_sem]
     refine wpAnyH_take (i:=9) (v:=.bool false) rfl (by kernel_rfl) (by kernel_rfl) (by kernel_rfl) (fun _ _ _ h=>absurd h.1 (by simp)) (yieldsIf_val (by rfl) (fun w' hS=>by go_simp)) (HS0) ?_
     conv=>arg 8;simp [go_sem]
     refine wpAnyH_take (i:=10) (v:=?_) rfl (by kernel_rfl) (by kernel_rfl) (by kernel_rfl) (fun _ _ _ h=>absurd h.1 (by simp)) (yieldsIf_val (by rfl) (fun w' hS=>?_)) (HS0) ?_
     rotate_left
     ·go_simp;all_goals with_reducible rfl
     conv=>arg 8;simp [go_sem]
     refine wpAnyH_take (i:=11) (v:=?_) rfl (by kernel_rfl) (by kernel_rfl) (by kernel_rfl) (fun _ _ _ h=>absurd h.1 (by simp)) (yieldsIf_val (by rfl) (fun w' hS=>?_)) (HS0) ?_
     rotate_left
     ·go_simp;all_goals with_reducible rfl
     conv=>arg 8;simp [go_sem]
     refine wpAnyH_take (i:=12) (v:=?_) rfl (by kernel_rfl) (by kernel_rfl) (by kernel_rfl) (fun _ _ _ h=>absurd h.1 (by simp)) (yieldsIf_val (by rfl) (fun w' hS=>?_)) (HS0) ?_
     rotate_left
     ·go_simp;all_goals with_reducible rfl
     conv=>arg 8;simp [go_sem]
     refine wpAnyH_take (i:=13) (v:=?_) rfl (by kernel_rfl) (by kernel_rfl) (by kernel_rfl) (fun _ _ _ h=>absurd h.1 (by simp)) (yieldsIf_val (by rfl) (fun w' hS=>?_)) (HS0) ?_
     rotate_left
     ·go_simp;all_goals with_reducible rfl
     conv=>arg 8;simp [go_sem]
     refine wpAnyH_take (i:=14) (v:=?_) rfl (by kernel_rfl) (by kernel_rfl) (by kernel_rfl) (fun _ _ _ h=>absurd h.1 (by simp)) (yieldsIf_val (by rfl) (fun w' hS=>?_)) (HS0) ?_
     rotate_left
     ·have e:=(hS.1.blk 0 rfl).1.cellOf (i:=2) rfl;go_simp;all_goals with_reducible rfl
     conv=>arg 8;simp [go_sem]
     refine wpAnyH_take (i:=15) (v:=?_) rfl (by kernel_rfl) (by kernel_rfl) (by kernel_rfl) (fun _ _ _ h=>absurd h.1 (by simp)) (yieldsIf_val (by rfl) (fun w' hS=>?_)) (HS0) ?_
     rotate_left
     ·go_simp;all_goals with_reducible rfl
     conv=>arg 8;simp [go_sem]
     refine wpAnyH_take (i:=16) (v:=?_) rfl (by kernel_rfl) (by kernel_rfl) (by kernel_rfl) (fun _ _ _ h=>absurd h.1 (by simp)) (yieldsIf_val (by rfl) (fun w' hS=>?_)) (HS0) ?_
     rotate_left
     ·go_simp;all_goals with_reducible rfl
     conv=>arg 8;simp [go_sem]
     refine wpAnyH_take (i:=17) (v:=.int .i64 (L:Int)) rfl (by kernel_rfl) (by kernel_rfl) (by kernel_rfl) (fun _ _ _ h=>absurd h.1 (by simp)) (yieldsIf_val (by rfl) (fun w' hS=>by go_simp)) (HS0) ?_
     conv=>arg 8;simp [go_sem]
     refine wpAnyH_take (i:=18) (v:=?_) rfl (by kernel_rfl) (by kernel_rfl) (by kernel_rfl) (fun _ _ _ h=>absurd h.1 (by simp)) (yieldsIf_val (by rfl) (fun w' hS=>?_)) (HS0) ?_
     rotate_left
     ·go_simp;all_goals with_reducible rfl
     conv=>arg 8;simp [go_sem]
     refine wpAnyH_take (i:=19) (v:=?_) rfl (by kernel_rfl) (by kernel_rfl) (by kernel_rfl) (fun _ _ _ h=>absurd h.1 (by simp)) (yieldsIf_val (by rfl) (fun w' hS=>?_)) (HS0) ?_
     rotate_left
     ·go_simp;all_goals with_reducible rfl
     conv=>arg 8;simp [go_sem]
     refine ar 20 rfl fun K' hK'=>?_
     refine oper_call (by rfl) 76 [.tmp 118,.tmp 119] #[44,121] rfl (vs:=[.slice oa L oc,.func (.func 79) #[] #[.pointer (some ⟨bs+1,0,none⟩),.pointer (some ⟨gi,0,none⟩)]]) rfl Tryz.func76 nm_ci bd_ci (HLATE.out _ HS0.1 HS0.2) ?_
     rintro e w9 ⟨rfl,hb⟩
     have HT1:=And.intro (HS0.1.below hb) (HS0.2.trans (hb.mono HS0.1.1))
     refine ⟨_,rfl,hK'.out _ _ HT1 (fun _=>?_)⟩
     clear hK' K'
     conv=>arg 8;simp [go_sem]
     refine wpAnyH_take (i:=21) (v:=?_) rfl (by kernel_rfl) (by kernel_rfl) (by kernel_rfl) (fun _ _ _ h=>absurd h.1 (by simp)) (yieldsIf_val (by rfl) (fun w' hS=>?_)) (HT1) ?_
     rotate_left
     ·go_simp;all_goals with_reducible rfl
     conv=>arg 8;simp [go_sem]
     refine wpAnyH_take (i:=22) (v:=?_) rfl (by kernel_rfl) (by kernel_rfl) (by kernel_rfl) (fun _ _ _ h=>absurd h.1 (by simp)) (yieldsIf_val (by rfl) (fun w' hS=>?_)) (HT1) ?_
     rotate_left
     ·go_simp;all_goals with_reducible rfl
     conv=>arg 8;simp [go_sem]
     refine wpAnyH_take (i:=23) (v:=?_) rfl (by kernel_rfl) (by kernel_rfl) (by kernel_rfl) (fun _ _ _ h=>absurd h.1 (by simp)) (yieldsIf_val (by rfl) (fun w' hS=>?_)) (HT1) ?_
     rotate_left
     ·go_simp;all_goals with_reducible rfl
     conv=>arg 8;simp [go_sem]
     refine wpAnyH_take (i:=24) (v:=?_) rfl (by kernel_rfl) (by kernel_rfl) (by kernel_rfl) (fun _ _ _ h=>absurd h.1 (by simp)) (yieldsIf_val (by rfl) (fun w' hS=>?_)) (HT1) ?_
     rotate_left
     ·have e:=(hS.1.blk 0 rfl).1.cellOf (i:=4) rfl;go_simp;all_goals with_reducible rfl
     conv=>arg 8;simp [go_sem]
     refine wpAnyH_take (i:=25) (v:=?_) rfl (by kernel_rfl) (by kernel_rfl) (by kernel_rfl) (fun _ _ _ h=>absurd h.1 (by simp)) (yieldsIf_val (by rfl) (fun w' hS=>?_)) (HT1) ?_
     rotate_left
     ·go_simp;all_goals with_reducible rfl
     conv=>arg 8;simp [go_sem]
     refine wpAnyH_take (i:=26) (v:=?_) rfl (by kernel_rfl) (by kernel_rfl) (by kernel_rfl) (fun _ _ _ h=>absurd h.1 (by simp)) (yieldsIf_val (by rfl) (fun w' hS=>?_)) (HT1) ?_
     rotate_left
     ·go_simp;all_goals with_reducible rfl
     conv=>arg 8;simp [go_sem]
     refine wpAnyH_take (i:=27) (v:=?_) rfl (by kernel_rfl) (by kernel_rfl) (by kernel_rfl) (fun _ _ _ h=>absurd h.1 (by simp)) (yieldsIf_val (by rfl) (fun w' hS=>?_)) (HT1) ?_
     rotate_left
     ·go_simp;all_goals with_reducible rfl
     conv=>arg 8;simp [go_sem]
     refine wpAnyH_take (i:=28) (v:=?_) rfl (by kernel_rfl) (by kernel_rfl) (by kernel_rfl) (fun _ _ _ h=>absurd h.1 (by simp)) (yieldsIf_val (by rfl) (fun w' hS=>?_)) (HT1) ?_
     rotate_left
     ·have e:=(hS.1.blk 0 rfl).1.cellOf (i:=2) rfl;go_simp;all_goals with_reducible rfl
     conv=>arg 8;simp [go_sem]
     refine ar 29 rfl fun K' hK'=>?_
     refine oper_call (by rfl) 18 [.tmp 125,.tmp 126,.tmp 128] #[34,44,3] rfl (vs:=[.slice (some ⟨b,off,none⟩) n c,.slice oa om oc,.int .i64 (L:Int)]) rfl Tryz.func18 nm_state bd_state (HSTA.out _ HT1.2) ?_
     rintro e w9 ⟨hb,sa,sc,rfl,hrow⟩
     have HRW:=Box.mk (Rd.ofOwn hrow)
     have HT2:=And.intro (HT1.1.below hb) (HT1.2.trans (hb.mono HT1.1.1))
     refine ⟨_,rfl,hK'.out _ _ HT2 (fun _=>?_)⟩
     clear hK' K'
     conv=>arg 8;simp [go_sem]
     refine ar 30 rfl fun K' hK'=>?_
     refine oper_call (by rfl) 70 [.tmp 124,.tmp 129] #[52,52] rfl (vs:=[.slice ra rn rc,.slice sa rn sc]) rfl Tryz.func70 nm_same bd_same (HSAME.out _ HT2.2 _ _ HRW.out) ?_
     rintro e w9 ⟨rfl,hb⟩
     have HT3:=And.intro (HT2.1.below hb) (HT2.2.trans (hb.mono HT2.1.1))
     refine ⟨_,rfl,hK'.out _ _ HT3 (fun _=>?_)⟩
     clear hK' K'
     conv=>arg 8;simp [go_sem]
     refine wpAnyH_take (i:=31) (v:=?_) rfl (by kernel_rfl) (by kernel_rfl) (by kernel_rfl) (fun _ _ _ h=>absurd h.1 (by simp)) (yieldsIf_val (by rfl) (fun w' hS=>?_)) (HT3) ?_
     rotate_left
     ·go_simp;all_goals with_reducible rfl
     conv=>arg 8;simp [go_sem]
     refine wpAnyH_take (i:=32) (v:=?_) rfl (by kernel_rfl) (by kernel_rfl) (by kernel_rfl) (fun _ _ _ h=>absurd h.1 (by simp)) (yieldsIf_val (by rfl) (fun w' hS=>?_)) (HT3) ?_
     rotate_left
     ·go_simp;all_goals with_reducible rfl
     conv=>arg 8;simp [go_sem]
     refine wpAnyH_take (i:=33) (v:=?_) rfl (by kernel_rfl) (by kernel_rfl) (by kernel_rfl) (fun _ _ _ h=>absurd h.1 (by simp)) (yieldsIf_val (by rfl) (fun w' hS=>?_)) (HT3) ?_
     rotate_left
     ·go_simp;all_goals with_reducible rfl
     conv=>arg 8;simp [go_sem]
     refine ⟨by kernel_rfl,?_⟩
     refine ⟨rfl,?_⟩
     go_wp2_with fail
     go_roundg (n - (k+1))
     case measure=>omega
     case rel=>exact ⟨k+1,L,by omega,by omega,by go_num,rfl,⟨(HT3.1.drop 0).drop 0,HT3.2,HLL.out⟩⟩
   ·obtain rfl:k=n:=by omega
    have HLE:=Box.mk (length_any RU.out (HR.out.below HI.out.2.1 (Nat.le_refl _)))
    rw [← HCOM.out] at HLE
    have HSM:=Box.mk HSTP.out.len
    rw [HOL.out] at HSM
    go_wp2_with fail
    refine HLE.out.mono ?_
    rintro e w5 ⟨rfl,hb5⟩
    have O5:=Box.mk (HI.out.1.below hb5)
    have B5:=Box.mk (HI.out.2.1.trans (hb5.mono HI.out.1.1))
    have hml:=(O5.out.map 0 rfl).1.len und_mii 3
    rw [HSM.out] at hml
    have y6:=(O5.out.blk 4 rfl).1.cellOf (i:=0) rfl
    have y7:=(O5.out.blk 5 rfl).1.cellOf (i:=0) rfl
    clear hb5 HI HLE
    go_wp2_with fail
    go_loopg [154] om (fun gg s154 wr=>∃i:Nat,i≤om∧om - i≤gg∧s154=.int .i64 i∧wr=w5)
    case atStart=>exact ⟨0,Nat.zero_le _,by omega,rfl,rfl⟩
    case round =>
     obtain ⟨i,hi,hg2,rfl,rfl⟩:=hrel
     by_cases hlt2:i<om
     ·obtain ⟨ob,ooff,rfl,hco⟩:=(HO.out.below B5.out (Nat.le_refl _)).intAtD i hlt2
      have hil:i<(f k).ids.length:=by rw [HOL.out];exact hlt2
      have hmem:(f k).ids.getD i 0∈(f k).ids:=by
       rw [List.getD_eq_getElem?_getD,List.getElem?_eq_getElem hil];exact List.getElem_mem hil
      have h64:=HID.out _ hmem
      obtain ⟨p,hp,hpe⟩:=List.mem_map.1 hmem
      obtain ⟨j,hj,hj1,hj2,_⟩:=(RU.out.trc k (by rw [HL.out];exact Nat.le_refl _)).asked p (List.mem_append.2 (.inl hp))
      rw [List.take_of_length_le (by rw [HL.out];exact Nat.le_refl _)] at hj hj1 hj2
      rw [HL.out] at hj
      have hga:=HA.out.fwd j hj hj1
      rw [hj2,hpe] at hga
      generalize (f k).ids.getD i 0=tx at *
      have hlook:=(O5.out.map 2 rfl).1.look2 (t:=30) (e:=3) K_int kI_inj und_mii z_int (keyI (show In64 tx from by unfold In64;omega))
      rw [hga] at hlook
      simp only [kI,Option.map_some,Option.getD_some,Option.isSome_some] at hlook
      have y5:=(O5.out.blk 3 rfl).1.cellOf (i:=0) rfl
      clear hga hj hj1 hj2 hp hpe hmem hil h64
      go_wp2_with fail
      go_roundg (om - (i+1))
      case measure=>omega
      case rel=>exact ⟨i+1,by omega,by omega,by go_num,rfl⟩
     ·have hD:=(O5.out.obj 1 rfl).1
      go_wp2_with fail
      obtain ⟨_,hB2⟩:=O5.out.turnObj 1 rfl (w':=wr.putObj D (.deferred none)) ((But.refl _ wr).grown (grownBy_putObj' wr _ _) (fun k e=>.inl (by cases e;simp))) (World.putObj_heap_same (Array.getElem?_eq_some_iff.1 hD).1)
      refine ⟨by simp,.inl ⟨_,_,rfl,run_takeDeferred hD,?_⟩⟩
      exact ⟨_,results_tmp rfl _ _ _,rfl,B5.out.trans hB2⟩
end
end Go.Proofs.YtlfghapllmaigaaGreatDoor
