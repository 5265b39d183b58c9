/-
  The walk of History. Conditions: each theorem's own hypotheses.
-/
import Derived.LaidEqlPtr
import Derived.Test.YtlfghapllmaigaaGreatDoorK14
set_option linter.unusedVariables false
namespace Go.Proofs.YtlfghapllmaigaaGreatDoor
section
open Go.RowKit Go.Maps
structure PAcc where
 mode:Int
 snap:Int
 done:Bool
 stamp:Int
 reads:List Int
 writes:List Int
 deriving Inhabited
def AccP.pl (x:AccP):PAcc:=⟨x.mode,x.snap,x.done,x.stamp,x.reads,x.writes⟩
def TnP.reads (t:TnP):List Int:=(spots.filter fun s=>decide (s∈keysA t.rows)).map itemI
def TnP.writes (t:TnP):List Int:=(wsOf t.log).map fun w=>itemI w.key
def TnP.pl (t:TnP):PAcc:=⟨t.mode,t.snap,t.done,t.stamp,t.reads,t.writes⟩
def RetHist (X:TxP) (w:World) (e:Ending) (w':World):Prop:=Below w.heap.size w w'∧∃ (hs:List AccP) (a:Option Addr) (c:Nat),e=.returned (.slice a hs.length c)∧HistRd w' a hs.length c hs∧hs.map AccP.pl=X.all.map TnP.pl
theorem reads_is {t:TnP} (ok:TnOk t) {m:List (Int×Bool)} (hn:(keysA m).Nodup) (hm:∀y,y∈keysA m↔∃s∈keysA t.rows,y=itemI s) {ys xs:List Int} (hp:ys.Perm xs) (hx:xs.Perm (m.map (·.1))) (ho:ys.Pairwise (·≤·)):ys=t.reads:=by
 have hsp:∀s∈keysA t.rows,s∈spots:=fun s hs=>by
  obtain ⟨p,hp,rfl⟩:=List.mem_map.1 hs
  exact (ok.rows p hp).1
 have hlt:t.reads.Pairwise (·<·):=by
  unfold TnP.reads
  rw [List.pairwise_map]
  have h1:=spots_lt.filter (p:=fun s=>decide (s∈keysA t.rows))
  refine List.Pairwise.imp_of_mem ?_ h1
  intro a b ha hb h
  exact (itemI_lt (List.mem_filter.1 ha).1 (List.mem_filter.1 hb).1).2 h
 have hmem:∀y,y∈t.reads↔y∈keysA m:=fun y=>by
  rw [hm]
  unfold TnP.reads
  rw [List.mem_map]
  constructor
  ·rintro ⟨s,hs,rfl⟩
   exact ⟨s,by simpa using (List.mem_filter.1 hs).2,rfl⟩
  ·rintro ⟨s,hs,rfl⟩
   exact ⟨s,List.mem_filter.2 ⟨hsp s hs,by simpa using hs⟩,rfl⟩
 have hpm:ys.Perm t.reads:=(hp.trans hx).trans (perm_of_mem hn (hlt.imp fun {a b} h e=>by omega) (fun y hy=>(hmem y).2 hy) (fun y hy=>(hmem y).1 hy))
 exact perm_sorted_eq hpm ho (hlt.imp fun {a b} h=>Int.le_of_lt h) (fun a _ b _ h1 h2=>Int.le_antisymm h1 h2)
structure ItemsM (m:List (Int×Bool)) (S:List (Int×Int)):Prop where
 mem:∀y,y∈keysA m↔∃s∈S,y=itemI s
 len:m.length≤S.length
theorem ItemsM.start:ItemsM [] []:=⟨fun y=>by simp [keysA],Nat.le_refl _⟩
theorem keysA_putA (m:List (Int×Bool)) (x:Int) (v:Bool) (y:Int):y∈keysA (putA m x v)↔y=x∨y∈keysA m:=by
 by_cases h:x∈keysA m
 ·rw [keysA_putA_mem h]
  constructor
  ·exact fun h=>.inr h
  ·rintro (rfl | h2)
   ·exact h
   ·exact h2
 ·rw [putA_new h]
  simp only [keysA,List.map_append,List.mem_append,List.map_cons,List.map_nil,List.mem_singleton]
  constructor<;>(rintro (h | h)<;>simp [h])
theorem ItemsM.step {m:List (Int×Bool)} {S:List (Int×Int)} (h:ItemsM m S) (s:Int×Int):ItemsM (putA m (itemI s) true) (s::S):=by
 refine ⟨fun y=>?_,by have:=putA_len m (itemI s) true;have:=h.len;simp only [List.length_cons];omega⟩
 rw [keysA_putA,h.mem]
 constructor
 ·rintro (rfl | ⟨r,hr,rfl⟩)
  ·exact ⟨s,by simp,rfl⟩
  ·exact ⟨r,by simp [hr],rfl⟩
 ·rintro ⟨r,hr,rfl⟩
  rcases List.mem_cons.1 hr with rfl | hr
  ·exact .inl rfl
  ·exact .inr ⟨r,hr,rfl⟩
def AccIn (G:List RdD) (x:AccP):Prop:=(⟨x.ra,x.reads.length,x.rc,1,intVals x.reads⟩:RdD)∈G∧(⟨x.wa,x.writes.length,x.wc,1,intVals x.writes⟩:RdD)∈G
theorem AccIn.rd {B:Nat} {w:World} {l:List HP} (O:Own B w l) (i:Nat) {G:List RdD} (hi:l[i]?=some (ImmO G)) {x:AccP} (h:AccIn G x):AccRd w x:=⟨O.imm i hi h.1,O.imm i hi h.2⟩
theorem AccIn.more {G G':List RdD} {x:AccP} (h:AccIn G x) (hG:∀r∈G,r∈G'):AccIn G' x:=⟨hG _ h.1,hG _ h.2⟩
theorem idx_none {α:Type} [Inhabited α] (zs:List α):idxP (fun _=>false) zs=-1:=idxP_miss fun j _=>rfl
theorem pty:Tryz.prog.underlying 95=some (.pointer 100):=by kernel_rfl
theorem ptsz:∃j,Tryz.prog.info? 100=some j∧j.size≠0:=by
 have h:(Tryz.prog.info? 100).map (·.size)=some 7:=by kernel_rfl
 obtain ⟨j,h1,h2⟩:=Option.map_eq_some_iff.1 h
 exact ⟨j,h1,by omega⟩
theorem nm_item:(Tryz.f39.name == "runtime.NumGoroutine")=false:=by kernel_rfl
theorem bd_item:Tryz.f39.body.isNone=false:=by kernel_rfl
theorem eq_ptx {w:World} {s t:TnP} (hs:TnRd w s) (ht:TnRd w t):(binOp .eql 95 (.pointer (some ⟨s.p,0,none⟩)) (.pointer (some ⟨t.p,0,none⟩))).run Tryz.prog w=.ok (.bool (decide (s.p=t.p))) w:=by
 obtain ⟨j,hj,hz⟩:=ptsz
 by_cases h:s.p=t.p
 ·rw [h,decide_eq_true rfl]
  exact run_eql_ptr_same w _ pty hj
 ·rw [decide_eq_false h]
  exact run_eql_ptr_other w pty hj hz (fun e=>h (by simp only [Addr.mk.injEq] at e;exact e.1)) hs.blk ht.blk
set_option maxRecDepth 20000 in
set_option maxHeartbeats 16000000 in
theorem history_any {g:Nat} {X:TxP} {w:World} (h:TxsRd w g X) (ok:TxOk X):Calls Tryz.prog 9 #[.pointer (some ⟨g,0,none⟩)] w (RetHist X w):=by
 have HH:=Box.mk h
 have OK:=Box.mk ok
 have hal:=ok.len
 have HC:=Box.mk (all_any h ok)
 clear h ok
 obtain ⟨n,hn⟩:∃n,X.all.length=n:=⟨_,rfl⟩
 rw [hn] at HC hal
 have HN:=Box.mk hn
 clear hn
 have hmm:=@run_makeMap Tryz.prog
 go_enter Tryz.func9,Tryz.ntmps9
 go_wp2_with fail
 refine HC.out.mono ?_
 rintro e w1 ⟨hb1,a1,c1,rfl,hrow⟩
 have HD0:=Box.mk (Rd.ofOwn hrow)
 have O1:=Box.mk (((Own.start w).immStart.immNew 0 rfl hb1 (Rd.ofOwn hrow) (fun ad had=>(hrow.lt ad.block (by rw [had];rfl)).1)).nilRow 102 6)
 have B1:=Box.mk hb1
 clear hb1 hrow HC
 go_wp2_with fail
 go_loopg [3,6,7,8,9,11,13,14,15,20] n (fun gg s3 _ _ _ _ _ _ _ _ s20 wr=>∃ (k:Nat) (a3:Option Addr) (c3:Nat),k≤n∧n - k≤gg∧s20=.int .i64 k∧s3=.slice a3 k c3 ∧
  Box (∃ (G:List RdD) (hs:List AccP),Own w.heap.size wr [ImmO G,RowP 102 6 a3 k c3 (recC AccP.cs hs)]∧(⟨a1,n,c1,1,X.all.map ptrT⟩:RdD)∈G∧(∀x∈hs,AccIn G x)∧Below w.heap.size w wr∧hs.length=k∧hs.map AccP.pl=(X.all.take k).map TnP.pl))
 case atStart=>exact ⟨0,none,0,Nat.zero_le _,by omega,rfl,rfl,⟨_,[],O1.out,by simp,by simp,B1.out,rfl,rfl⟩⟩
 clear O1 B1 HD0
 case round =>
  obtain ⟨k,a3,c3,hk,hg,rfl,rfl,HI⟩:=hrel
  obtain ⟨G,hs,hO,hD,hA,hB,hl,hpl⟩:=HI.out
  have HO:=Box.mk hO
  have HB:=Box.mk hB
  have HF:=Box.mk (And.intro hD (And.intro hA (And.intro hl hpl)))
  clear HI hO hD hA hB hl hpl
  by_cases hlt:k<n
  ·have hkl:k<X.all.length:=by rw [HN.out];exact hlt
   obtain ⟨t,ht⟩:∃t,X.all.getD k default=t:=⟨_,rfl⟩
   have htm:t∈X.all:=by rw [← ht];exact getD_mem hkl
   have HT:=Box.mk (And.intro ht htm)
   have hpt:(X.all.map ptrT)[k]?=some (ptrT t):=by
    rw [List.getElem?_map,List.getElem?_eq_getElem hkl]
    rw [List.getD_eq_getElem?_getD,List.getElem?_eq_getElem hkl] at ht
    simp at ht;rw [ht];rfl
   obtain ⟨b1,off1,rfl,hc⟩:=(HO.out.imm 0 rfl HF.out.1).at k hlt
   have hkp:k<(X.all.map ptrT).length:=by simpa using hkl
   have c0:=hc k hkp
   rw [show (X.all.map ptrT)[k]=ptrT t from by have:=List.getElem?_eq_getElem hkp;rw [hpt] at this;exact (Option.some.inj this).symm] at c0
   unfold ptrT pV at c0
   clear hc hkp hpt ht htm
   go_upto_region 6 with fail
   have O2:=Box.mk (HO.out.new [.pointer (some ⟨t.p,0,none⟩)] 95)
   have B2:=Box.mk (HB.out.new (Nat.le_refl _) (.cells #[.pointer (some ⟨t.p,0,none⟩)] 95))
   clear c0 HO HB
   generalize (wr.alloc (.cells #[.pointer (some ⟨t.p,0,none⟩)] 95))=w2 at *
   generalize wr.heap.size=gt at *
   have O2:=Box.mk (show Own w.heap.size w2 [ImmO G,RowP 102 6 a3 k c3 (recC AccP.cs hs),BlkP gt 95 [.pointer (some ⟨t.p,0,none⟩)]] from O2.out)
   have HS0:Own w.heap.size w2.drew [ImmO G,RowP 102 6 a3 k c3 (recC AccP.cs hs),BlkP gt 95 [.pointer (some ⟨t.p,0,none⟩)]]∧Below w.heap.size w w2.drew:=⟨O2.out.drew,B2.out.drew⟩
   have HX:=Box.mk (fun (w':World) (hb:Below w.heap.size w w')=>TnP.cells ((HH.out.tn t HT.out.2).below hb (Nat.le_refl _)).blk)
   refine wp_region_held_drew (S:=fun w'=>(Own w.heap.size w' [ImmO G,RowP 102 6 a3 k c3 (recC AccP.cs hs),BlkP gt 95 [.pointer (some ⟨t.p,0,none⟩)]]∧Below w.heap.size w w')) (by kernel_rfl) HS0 (fun _=>?_)
   generalize w2.drew=wd at *
   refine tv 0 rfl (fun w' hS=>by have q:=(hS.1.blk 2 rfl).1.cellOf (i:=0) rfl;go_simp;all_goals with_reducible rfl) HS0 ?_
   conv=>arg 8;simp [go_sem]
   refine tw 1 rfl HS0 ?_
   conv=>arg 8;simp [go_sem]
   refine tw 2 rfl HS0 ?_
   conv=>arg 8;simp [go_sem]
   refine tv 3 rfl (fun w' hS=>by obtain ⟨x0,x1,x2,x3,x4,x5,x6⟩:=HX.out w' hS.2;clear x1 x2 x3 x4 x5 x6;go_simp;all_goals with_reducible rfl) HS0 ?_
   conv=>arg 8;simp [go_sem]
   refine tv 4 rfl (fun w' hS=>by have q:=(hS.1.blk 2 rfl).1.cellOf (i:=0) rfl;go_simp;all_goals with_reducible rfl) HS0 ?_
   conv=>arg 8;simp [go_sem]
   refine tw 5 rfl HS0 ?_
   conv=>arg 8;simp [go_sem]
   refine tw 6 rfl HS0 ?_
   conv=>arg 8;simp [go_sem]
   refine tv 7 rfl (fun w' hS=>by obtain ⟨x0,x1,x2,x3,x4,x5,x6⟩:=HX.out w' hS.2;clear x0 x2 x3 x4 x5 x6;go_simp;all_goals with_reducible rfl) HS0 ?_
   conv=>arg 8;simp [go_sem]
   refine tv 8 rfl (fun w' hS=>by have q:=(hS.1.blk 2 rfl).1.cellOf (i:=0) rfl;go_simp;all_goals with_reducible rfl) HS0 ?_
   conv=>arg 8;simp [go_sem]
   refine tw 9 rfl HS0 ?_
   conv=>arg 8;simp [go_sem]
   refine tw 10 rfl HS0 ?_
   conv=>arg 8;simp [go_sem]
   refine tv 11 rfl (fun w' hS=>by obtain ⟨x0,x1,x2,x3,x4,x5,x6⟩:=HX.out w' hS.2;clear x0 x1 x3 x4 x5 x6;go_simp;all_goals with_reducible rfl) HS0 ?_
   conv=>arg 8;simp [go_sem]
   refine tv 12 rfl (fun w' hS=>by have q:=(hS.1.blk 2 rfl).1.cellOf (i:=0) rfl;go_simp;all_goals with_reducible rfl) HS0 ?_
   conv=>arg 8;simp [go_sem]
   refine tw 13 rfl HS0 ?_
   conv=>arg 8;simp [go_sem]
   refine tw 14 rfl HS0 ?_
   conv=>arg 8;simp [go_sem]
   refine tv 15 rfl (fun w' hS=>by obtain ⟨x0,x1,x2,x3,x4,x5,x6⟩:=HX.out w' hS.2;clear x0 x1 x2 x4 x5 x6;go_simp;all_goals with_reducible rfl) HS0 ?_
   conv=>arg 8;simp [go_sem]
   refine tw 16 rfl HS0 ?_
   conv=>arg 8;simp [go_sem]
   refine wpAnyH_ready (rs:=[17]) (by kernel_rfl) (by simp) (AllReadyH.cons rfl (fun K' hK'=>oper_alloc (by rfl) 102 rfl (z:=.agg #[.int .i64 0,.int .i64 0,.bool false,.int .i64 0,.slice none 0 0,.slice none 0 0]) (zc:=#[.int .i64 0,.int .i64 0,.bool false,.int .i64 0,.slice none 0 0,.slice none 0 0]) (by kernel_rfl) rfl ?_) AllReadyH.nil)
   have HT1:=And.intro (HS0.1.alloc (.cells #[.int .i64 0,.int .i64 0,.bool false,.int .i64 0,.slice none 0 0,.slice none 0 0] 102)) (HS0.2.alloc HS0.2.size (.cells #[.int .i64 0,.int .i64 0,.bool false,.int .i64 0,.slice none 0 0,.slice none 0 0] 102))
   refine hK'.out _ _ HT1 (fun _=>?_)
   clear hK' K'
   conv=>arg 8;simp [go_sem]
   have HNB:=Box.mk (HS0.1.new [.int .i64 0,.int .i64 0,.bool false,.int .i64 0,.slice none 0 0,.slice none 0 0] 102)
   have HNR:=Box.mk (And.intro (HNB.out.setRow 3 rfl [.int .i64 t.mode,.int .i64 t.snap,.bool t.done,.int .i64 t.stamp,.slice none 0 0,.slice none 0 0]).1 ((HS0.2.alloc HS0.2.size (.cells #[.int .i64 0,.int .i64 0,.bool false,.int .i64 0,.slice none 0 0,.slice none 0 0] 102)).trans ((HNB.out.setRow 3 rfl [.int .i64 t.mode,.int .i64 t.snap,.bool t.done,.int .i64 t.stamp,.slice none 0 0,.slice none 0 0]).2.mono (Nat.le_refl _))))
   refine wpAnyH_ready (rs:=[18]) (by kernel_rfl) (by simp) (AllReadyH.cons rfl (fun K' hK'=>oper_store_row (by rfl) 102 (.tmp 7) (.tmp 40) rfl rfl (by kernel_rfl) (HNB.out.blk 3 rfl).1 rfl rfl (cs:=[.int .i64 t.mode,.int .i64 t.snap,.bool t.done,.int .i64 t.stamp,.slice none 0 0,.slice none 0 0]) rfl rfl (by simp [Value.oneCell']) ?_) AllReadyH.nil)
   have HT2:=(show (Own _ _ _∧Below _ _ _) from And.intro (HNR.out.1.drop 3) HNR.out.2)
   refine hK'.out _ _ HT2 (fun _=>?_)
   clear hK' K'
   conv=>arg 8;simp [go_sem]
   refine ⟨by kernel_rfl,?_⟩
   conv =>
    arg 5
    simp [go_sem]
   have O3:=Box.mk (show Own w.heap.size _ [ImmO G,RowP 102 6 a3 k c3 (recC AccP.cs hs),BlkP gt 95 [.pointer (some ⟨t.p,0,none⟩)],BlkP wd.heap.size 102 [.int .i64 t.mode,.int .i64 t.snap,.bool t.done,.int .i64 t.stamp,.slice none 0 0,.slice none 0 0]] from HNR.out.1)
   have B3:=Box.mk HNR.out.2
   clear HNR HNB HT1 HT2 HS0 HX O2
   generalize ((wd.alloc (.cells #[.int .i64 0,.int .i64 0,.bool false,.int .i64 0,.slice none 0 0,.slice none 0 0] 102)).setRow wd.heap.size _)=w3 at *
   generalize wd.heap.size=ga at *
   go_upto_region 8 with fail
   have O4:=Box.mk (show Own w.heap.size _ [ImmO G,RowP 102 6 a3 k c3 (recC AccP.cs hs),BlkP gt 95 [.pointer (some ⟨t.p,0,none⟩)],BlkP ga 102 [.int .i64 t.mode,.int .i64 t.snap,.bool t.done,.int .i64 t.stamp,.slice none 0 0,.slice none 0 0],StO w3.heap.size []] from O3.out.newMap (P:=Tryz.prog) (k:=3) (ek:=kI) (ev:=Value.bool))
   have B4:=Box.mk (B3.out.alloc B3.out.size (.map #[] 0))
   clear O3 B3
   generalize (w3.alloc (.map #[] 0))=w4 at *
   generalize w3.heap.size=gm at *
   have q0:=(O4.out.blk 2 rfl).1.cellOf (i:=0) rfl
   obtain ⟨x0,x1,x2,x3,x4,x5,x6⟩:=TnP.cells ((HH.out.tn t HT.out.2).below B4.out (Nat.le_refl _)).blk
   obtain ⟨o,hrg,hR⟩:=((HH.out.tn t HT.out.2).rows.below B4.out (Nat.le_refl _)).range und_rset
   have O5:=Box.mk (show Own w.heap.size (w4.alloc o) [ImmO G,RowP 102 6 a3 k c3 (recC AccP.cs hs),BlkP gt 95 [.pointer (some ⟨t.p,0,none⟩)],BlkP ga 102 [.int .i64 t.mode,.int .i64 t.snap,.bool t.done,.int .i64 t.stamp,.slice none 0 0,.slice none 0 0],StO gm [],ObjO w4.heap.size o] from O4.out.newObj o)
   have B5:=Box.mk (B4.out.alloc B4.out.size o)
   have HR:=Box.mk hR
   clear O4 B4 hR
   go_wp2_with fail
   clear hrg q0 x0 x1 x2 x3 x4 x5 x6
   generalize (w4.alloc o)=w5 at *
   generalize w4.heap.size=gr at *
   go_loopg [9] t.rows.length (fun gg _ wq=>∃E:List ((Int×Int)×Bool),leftA t.rows (E.map (·.1))≤gg ∧
    Box (∃m o,Own w.heap.size wq [ImmO G,RowP 102 6 a3 k c3 (recC AccP.cs hs),BlkP gt 95 [.pointer (some ⟨t.p,0,none⟩)],BlkP ga 102 [.int .i64 t.mode,.int .i64 t.snap,.bool t.done,.int .i64 t.stamp,.slice none 0 0,.slice none 0 0],StO gm m,ObjO gr o]∧Below w.heap.size w wq∧MapR Tryz.prog 104 ekR Value.bool wq t.br gr t.rows (E.map (·.1))∧ItemsM m (E.map (·.1))∧Seen t.rows E))
   case atStart=>exact ⟨[],leftA_le _ _,⟨_,_,O5.out,B5.out,HR.out,ItemsM.start,Seen.start _⟩⟩
   clear O5 B5 HR
   case round =>
    obtain ⟨E,hgE,HI⟩:=hrel
    obtain ⟨m,o,hO,hB,hR,hM,hS⟩:=HI.out
    have O:=Box.mk hO
    have B:=Box.mk hB
    have HM:=Box.mk (And.intro hM (And.intro hS hR))
    clear HI hO hB hM hS hR
    rcases HM.out.2.2.next ekR_inj 0 with ⟨hall,hnx⟩ | ⟨x,v,w2,hxm,hxS,hnx,hR2,hbt,hsz,hen⟩
    ·have hE:=HM.out.2.1.all (HH.out.tn t HT.out.2).rows.nodup hall
     have hI:∀y,y∈keysA m↔∃s∈keysA t.rows,y=itemI s:=fun y=>by
      rw [HM.out.1.mem]
      constructor
      ·rintro ⟨s,hs,rfl⟩;exact ⟨s,(hE.map (·.1)).mem_iff.1 hs,rfl⟩
      ·rintro ⟨s,hs,rfl⟩;exact ⟨s,(hE.map (·.1)).mem_iff.2 hs,rfl⟩
     have hml:m.length≤100000:=by
      have h1:=HM.out.1.len
      have h2:=hE.length_eq
      have h3:=(OK.out.tn t HT.out.2).rlen
      rw [List.length_map] at h1;omega
     have O7:=Box.mk (show Own w.heap.size wr [ImmO G,RowP 102 6 a3 k c3 (recC AccP.cs hs),BlkP gt 95 [.pointer (some ⟨t.p,0,none⟩)],BlkP ga 102 [.int .i64 t.mode,.int .i64 t.snap,.bool t.done,.int .i64 t.stamp,.slice none 0 0,.slice none 0 0],StO gm m] from O.out.pop)
     have HI:=Box.mk (And.intro hI hml)
     have HTW:=Box.mk (writes_t ((HH.out.tn t HT.out.2).below B.out (Nat.le_refl _)) (OK.out.tn t HT.out.2))
     have q0:=(O7.out.blk 2 rfl).1.cellOf (i:=0) rfl
     clear hE hI hml HM O
     go_wp2_with fail
     clear q0
     refine HTW.out.mono ?_
     rintro e w8 ⟨hb8,wa,wc,rfl,hrow⟩
     have O8:=Box.mk (show Own w.heap.size w8 [ImmO G,RowP 102 6 a3 k c3 (recC AccP.cs hs),BlkP gt 95 [.pointer (some ⟨t.p,0,none⟩)],BlkP ga 102 [.int .i64 t.mode,.int .i64 t.snap,.bool t.done,.int .i64 t.stamp,.slice none 0 0,.slice none 0 0],StO gm m,RowP 90 4 wa (wsOf t.log).length wc (recC WrP.enc (wsOf t.log))] from O7.out.newRow hb8 hrow (Nat.le_refl _))
     have B8:=Box.mk (B.out.trans (hb8.mono B.out.size))
     have hwl:=wsOf_len t.log
     have HW:=Box.mk (show ∀x∈wsOf t.log,x.key∈spots from fun x hx=>(OK.out.tn t HT.out.2).log x (wsOf_mem hx))
     have hTW:t.writes=(wsOf t.log).map fun w=>itemI w.key:=rfl
     clear hb8 hrow HTW O7 B hnx hall
     obtain ⟨ws,hws⟩:∃ws,wsOf t.log=ws:=⟨_,rfl⟩
     rw [hws] at O8 HW hwl hTW
     obtain ⟨nw,hnw⟩:∃nw,ws.length=nw:=⟨_,rfl⟩
     rw [hnw] at O8 hwl
     rw [hws,hnw]
     have HWL:=Box.mk hnw
     have HTW:=Box.mk hTW
     clear hws hnw hTW
     go_wp2_with fail
     go_loopg [11,62] nw (fun gg _ s62 wq=>∃ (j:Nat) (a5:Option Addr) (c5:Nat),j≤nw∧nw - j≤gg∧s62=.int .i64 j ∧
      Box (Own w.heap.size wq [ImmO G,RowP 102 6 a3 k c3 (recC AccP.cs hs),BlkP gt 95 [.pointer (some ⟨t.p,0,none⟩)],BlkP ga 102 [.int .i64 t.mode,.int .i64 t.snap,.bool t.done,.int .i64 t.stamp,.slice none 0 0,.slice a5 j c5],StO gm m,RowP 90 4 wa nw wc (recC WrP.enc ws),RowP 3 1 a5 j c5 (intVals ((ws.take j).map fun w=>itemI w.key))]∧Below w.heap.size w wq))
     case atStart=>exact ⟨0,none,0,Nat.zero_le _,by omega,rfl,⟨O8.out.nilRow 3 1,B8.out⟩⟩
     clear O8 B8
     case round =>
      obtain ⟨j,a5,c5,hj,hgj,rfl,HI3⟩:=hrel
      by_cases hlj:j<nw
      ·obtain ⟨wb,woff,rfl,hb,hc⟩:=(Rd.ofOwn (HI3.out.1.row 5 rfl)).recAt WrP.enc_len (by omega) j hlj
       obtain ⟨x,hx⟩:∃x,ws.getD j default=x:=⟨_,rfl⟩
       rw [hx] at hc
       have hjl:j<ws.length:=by rw [HWL.out];exact hlj
       have hxm:x∈ws:=by rw [← hx];exact getD_mem hjl
       have HSP:=Box.mk (HW.out x hxm)
       have htk:ws.take (j+1)=ws.take j++[x]:=by
        rw [List.take_add_one,List.getElem?_eq_getElem hjl]
        rw [List.getD_eq_getElem?_getD,List.getElem?_eq_getElem hjl] at hx
        simp at hx;rw [hx];rfl
       have HTK:=Box.mk htk
       clear htk hxm hx
       obtain ⟨xt,xr,xd,xa,xc,xl⟩:=x
       have c0:=hc 0 _ rfl
       have c1:=hc 1 _ rfl
       have c2:=hc 2 _ rfl
       have c3:=hc 3 _ rfl
       simp only [Nat.add_zero] at c0 c1 c2 c3
       clear hc
       have O1:=Box.mk (HI3.out.1.new [.int .i64 xt,.int .i64 xr,.bool xd,.slice xa xl.length xc] 90)
       have B1:=Box.mk (HI3.out.2.alloc HI3.out.2.size (.cells #[.int .i64 xt,.int .i64 xr,.bool xd,.slice xa xl.length xc] 90))
       clear HI3
       go_upto_region 15 with fail
       clear c0 c1 c2 c3
       generalize (wr.alloc (.cells #[.int .i64 xt,.int .i64 xr,.bool xd,.slice xa xl.length xc] 90))=w2 at *
       generalize wr.heap.size=gx at *
       have HF0:=Box.mk (And.intro (show Own w.heap.size w2.drew [ImmO G,RowP 102 6 a3 k c3 (recC AccP.cs hs),BlkP gt 95 [.pointer (some ⟨t.p,0,none⟩)],BlkP ga 102 [.int .i64 t.mode,.int .i64 t.snap,.bool t.done,.int .i64 t.stamp,.slice none 0 0,.slice a5 j c5],StO gm m,RowP 90 4 (some ⟨wb,woff,none⟩) nw wc (recC WrP.enc ws),RowP 3 1 a5 j c5 (intVals ((ws.take j).map fun w=>itemI w.key)),BlkP gx 90 [.int .i64 xt,.int .i64 xr,.bool xd,.slice xa xl.length xc]] from O1.out.drew) B1.out.drew)
       have HS0:Own w.heap.size w2.drew [ImmO G,RowP 102 6 a3 k c3 (recC AccP.cs hs),BlkP gt 95 [.pointer (some ⟨t.p,0,none⟩)],StO gm m,RowP 90 4 (some ⟨wb,woff,none⟩) nw wc (recC WrP.enc ws),BlkP gx 90 [.int .i64 xt,.int .i64 xr,.bool xd,.slice xa xl.length xc]]∧Below w.heap.size w w2.drew:=⟨(HF0.out.1.drop 3).drop 5,HF0.out.2⟩
       clear O1 B1
       refine wp_region_held_drew (S:=fun w'=>(Own w.heap.size w' [ImmO G,RowP 102 6 a3 k c3 (recC AccP.cs hs),BlkP gt 95 [.pointer (some ⟨t.p,0,none⟩)],StO gm m,RowP 90 4 (some ⟨wb,woff,none⟩) nw wc (recC WrP.enc ws),BlkP gx 90 [.int .i64 xt,.int .i64 xr,.bool xd,.slice xa xl.length xc]]∧Below w.heap.size w w')) (by kernel_rfl) HS0 (fun _=>?_)
       generalize w2.drew=wd at *
       refine tw 0 rfl HS0 ?_
       conv=>arg 8;simp [go_sem]
       refine tw 2 rfl HS0 ?_
       conv=>arg 8;simp [go_sem]
       refine tv 3 rfl (fun w' hS=>by have q:=(hS.1.blk 5 rfl).1.cellOf (i:=0) rfl;go_simp;all_goals with_reducible rfl) HS0 ?_
       conv=>arg 8;simp [go_sem]
       refine tw 4 rfl HS0 ?_
       conv=>arg 8;simp [go_sem]
       refine tv 5 rfl (fun w' hS=>by have q:=(hS.1.blk 5 rfl).1.cellOf (i:=1) rfl;go_simp;all_goals with_reducible rfl) HS0 ?_
       conv=>arg 8;simp [go_sem]
       refine wpAnyH_ready (rs:=[1,6]) (by kernel_rfl) (by simp) ?_
       refine AllReadyH.cons rfl (fun K' hK'=>?_) (AllReadyH.cons rfl (fun K' hK'=>?_) AllReadyH.nil)
       ·refine oper_load1 (by rfl) 44 (.tmp 66) rfl (by kernel_rfl) rfl ((HF0.out.1.blk 3 rfl).1.cellOf (i:=5) rfl) ?_
        have HT1:=HS0
        refine hK'.out _ _ HT1 (fun _=>?_)
        clear hK' K'
        conv=>arg 8;simp [go_sem]
        refine ar 6 rfl fun K' hK'=>?_
        refine oper_call (by rfl) 39 [.tmp 69,.tmp 71] #[3,3] rfl (vs:=[.int .i64 xt,.int .i64 xr]) rfl Tryz.func39 nm_item bd_item (item_any HSP.out _) ?_
        rintro e wq ⟨rfl,hw⟩
        rw [hw]
        clear hw wq
        have HT2:=HT1
        refine ⟨_,rfl,hK'.out _ _ HT2 (fun _=>?_)⟩
        clear hK' K'
        conv=>arg 8;simp [go_sem]
        refine ar 7 rfl fun K' hK'=>?_
        refine oper_litA (by rfl) 44 (.tmp 72) rfl sl_int (cs:=[.int .i64 (itemI (xt,xr))]) rfl rfl (by omega) (by omega) ?_
        have HF3:=Box.mk (And.intro (HF0.out.1.alloc (.cells #[.int .i64 (itemI (xt,xr))] 3)) (HF0.out.2.alloc HF0.out.2.size (.cells #[.int .i64 (itemI (xt,xr))] 3)))
        have HT4:=And.intro (HT2.1.alloc (.cells #[.int .i64 (itemI (xt,xr))] 3)) (HT2.2.alloc HT2.2.size (.cells #[.int .i64 (itemI (xt,xr))] 3))
        refine hK'.out _ _ HT4 (fun _=>?_)
        clear hK' K'
        conv=>arg 8;simp [go_sem]
        refine ar 8 rfl fun K' hK'=>?_
        refine oper_append_O (by rfl) (.tmp 67) (.tmp 73) 44 44 rfl sl_int (.inl sl_int.ht) HF3.out.1 6 rfl rfl rfl (Src.oneNew _ _ _ rfl) (by omega) (by unfold maxLen;omega) ?_
        intro a9 c9 w9 hO9 hb9
        have O9:=Box.mk (show Own w.heap.size w9 [ImmO G,RowP 102 6 a3 k c3 (recC AccP.cs hs),BlkP gt 95 [.pointer (some ⟨t.p,0,none⟩)],BlkP ga 102 [.int .i64 t.mode,.int .i64 t.snap,.bool t.done,.int .i64 t.stamp,.slice none 0 0,.slice a5 j c5],StO gm m,RowP 90 4 (some ⟨wb,woff,none⟩) nw wc (recC WrP.enc ws),RowP 3 1 a9 (j+1) c9 (intVals ((ws.take j).map fun w=>itemI w.key)++[.int .i64 (itemI (xt,xr))]),BlkP gx 90 [.int .i64 xt,.int .i64 xr,.bool xd,.slice xa xl.length xc]] from hO9)
        have B9:=Box.mk (HF3.out.2.trans hb9)
        clear hO9 hb9
        have HT5:=(show (Own _ _ _∧Below _ _ _) from And.intro ((O9.out.drop 3).drop 5) B9.out)
        refine hK'.out _ _ HT5 (fun _=>?_)
        clear hK' K'
        conv=>arg 8;simp [go_sem]
        refine tw 9 rfl HT5 ?_
        conv=>arg 8;simp [go_sem]
        refine ar 10 rfl fun K' hK'=>?_
        have HF9:=Box.mk (O9.out.setRow 3 rfl (splice [.int .i64 t.mode,.int .i64 t.snap,.bool t.done,.int .i64 t.stamp,.slice none 0 0,.slice a5 j c5] 5 [.slice a9 (j+1) c9]))
        refine oper_store_part (by rfl) 44 (.tmp 75) (.tmp 74) rfl rfl (size:=1) (off:=5) (by kernel_rfl) (O9.out.blk 3 rfl).1 (by simp) rfl (cs:=[.slice a9 (j+1) c9]) rfl rfl (by simp [Value.oneCell']) ?_
        have HT6:=(show (Own _ _ _∧Below _ _ _) from And.intro ((HF9.out.1.drop 3).drop 5) (B9.out.trans HF9.out.2))
        refine hK'.out _ _ HT6 (fun _=>?_)
        clear hK' K'
        conv=>arg 8;simp [go_sem]
        refine ⟨by kernel_rfl,?_⟩
        conv =>
         arg 5
         simp [go_sem]
        go_wp2_with fail
        go_roundg (nw - (j+1))
        case measure=>omega
        case rel=>exact ⟨j+1,a9,c9,by omega,by omega,by go_num,⟨by rw [HTK.out,List.map_append];exact show Own w.heap.size _ [ImmO G,RowP 102 6 a3 k c3 (recC AccP.cs hs),BlkP gt 95 [.pointer (some ⟨t.p,0,none⟩)],BlkP ga 102 [.int .i64 t.mode,.int .i64 t.snap,.bool t.done,.int .i64 t.stamp,.slice none 0 0,.slice a9 (j+1) c9],StO gm m,RowP 90 4 (some ⟨wb,woff,none⟩) nw wc (recC WrP.enc ws),RowP 3 1 a9 (j+1) c9 (intVals ((ws.take j).map (fun w=>itemI w.key)++[itemI (xt,xr)]))] from (show intVals ((ws.take j).map (fun w=>itemI w.key)++[itemI (xt,xr)])=intVals ((ws.take j).map (fun w=>itemI w.key))++[.int .i64 (itemI (xt,xr))] from List.map_append)▸HF9.out.1.drop 7,B9.out.trans HF9.out.2⟩⟩
       ·refine oper_call (by rfl) 39 [.tmp 69,.tmp 71] #[3,3] rfl (vs:=[.int .i64 xt,.int .i64 xr]) rfl Tryz.func39 nm_item bd_item (item_any HSP.out _) ?_
        rintro e wq ⟨rfl,hw⟩
        rw [hw]
        clear hw wq
        have HT7:=HS0
        refine ⟨_,rfl,hK'.out _ _ HT7 (fun _=>?_)⟩
        clear hK' K'
        conv=>arg 8;simp [go_sem]
        refine wpAnyH_ready (rs:=[1,7]) (by kernel_rfl) (by simp) ?_
        refine AllReadyH.cons rfl (fun K' hK'=>?_) (AllReadyH.cons rfl (fun K' hK'=>?_) AllReadyH.nil)
        ·refine oper_load1 (by rfl) 44 (.tmp 66) rfl (by kernel_rfl) rfl ((HF0.out.1.blk 3 rfl).1.cellOf (i:=5) rfl) ?_
         have HT8:=HT7
         refine hK'.out _ _ HT8 (fun _=>?_)
         clear hK' K'
         conv=>arg 8;simp [go_sem]
         refine ar 7 rfl fun K' hK'=>?_
         refine oper_litA (by rfl) 44 (.tmp 72) rfl sl_int (cs:=[.int .i64 (itemI (xt,xr))]) rfl rfl (by omega) (by omega) ?_
         have HF9:=Box.mk (And.intro (HF0.out.1.alloc (.cells #[.int .i64 (itemI (xt,xr))] 3)) (HF0.out.2.alloc HF0.out.2.size (.cells #[.int .i64 (itemI (xt,xr))] 3)))
         have HT10:=And.intro (HT8.1.alloc (.cells #[.int .i64 (itemI (xt,xr))] 3)) (HT8.2.alloc HT8.2.size (.cells #[.int .i64 (itemI (xt,xr))] 3))
         refine hK'.out _ _ HT10 (fun _=>?_)
         clear hK' K'
         conv=>arg 8;simp [go_sem]
         refine ar 8 rfl fun K' hK'=>?_
         refine oper_append_O (by rfl) (.tmp 67) (.tmp 73) 44 44 rfl sl_int (.inl sl_int.ht) HF9.out.1 6 rfl rfl rfl (Src.oneNew _ _ _ rfl) (by omega) (by unfold maxLen;omega) ?_
         intro a9 c9 w9 hO9 hb9
         have O9:=Box.mk (show Own w.heap.size w9 [ImmO G,RowP 102 6 a3 k c3 (recC AccP.cs hs),BlkP gt 95 [.pointer (some ⟨t.p,0,none⟩)],BlkP ga 102 [.int .i64 t.mode,.int .i64 t.snap,.bool t.done,.int .i64 t.stamp,.slice none 0 0,.slice a5 j c5],StO gm m,RowP 90 4 (some ⟨wb,woff,none⟩) nw wc (recC WrP.enc ws),RowP 3 1 a9 (j+1) c9 (intVals ((ws.take j).map fun w=>itemI w.key)++[.int .i64 (itemI (xt,xr))]),BlkP gx 90 [.int .i64 xt,.int .i64 xr,.bool xd,.slice xa xl.length xc]] from hO9)
         have B9:=Box.mk (HF9.out.2.trans hb9)
         clear hO9 hb9
         have HT11:=(show (Own _ _ _∧Below _ _ _) from And.intro ((O9.out.drop 3).drop 5) B9.out)
         refine hK'.out _ _ HT11 (fun _=>?_)
         clear hK' K'
         conv=>arg 8;simp [go_sem]
         refine tw 9 rfl HT11 ?_
         conv=>arg 8;simp [go_sem]
         refine ar 10 rfl fun K' hK'=>?_
         have HF9:=Box.mk (O9.out.setRow 3 rfl (splice [.int .i64 t.mode,.int .i64 t.snap,.bool t.done,.int .i64 t.stamp,.slice none 0 0,.slice a5 j c5] 5 [.slice a9 (j+1) c9]))
         refine oper_store_part (by rfl) 44 (.tmp 75) (.tmp 74) rfl rfl (size:=1) (off:=5) (by kernel_rfl) (O9.out.blk 3 rfl).1 (by simp) rfl (cs:=[.slice a9 (j+1) c9]) rfl rfl (by simp [Value.oneCell']) ?_
         have HT12:=(show (Own _ _ _∧Below _ _ _) from And.intro ((HF9.out.1.drop 3).drop 5) (B9.out.trans HF9.out.2))
         refine hK'.out _ _ HT12 (fun _=>?_)
         clear hK' K'
         conv=>arg 8;simp [go_sem]
         refine ⟨by kernel_rfl,?_⟩
         conv =>
          arg 5
          simp [go_sem]
         go_wp2_with fail
         go_roundg (nw - (j+1))
         case measure=>omega
         case rel=>exact ⟨j+1,a9,c9,by omega,by omega,by go_num,⟨by rw [HTK.out,List.map_append];exact show Own w.heap.size _ [ImmO G,RowP 102 6 a3 k c3 (recC AccP.cs hs),BlkP gt 95 [.pointer (some ⟨t.p,0,none⟩)],BlkP ga 102 [.int .i64 t.mode,.int .i64 t.snap,.bool t.done,.int .i64 t.stamp,.slice none 0 0,.slice a9 (j+1) c9],StO gm m,RowP 90 4 (some ⟨wb,woff,none⟩) nw wc (recC WrP.enc ws),RowP 3 1 a9 (j+1) c9 (intVals ((ws.take j).map (fun w=>itemI w.key)++[itemI (xt,xr)]))] from (show intVals ((ws.take j).map (fun w=>itemI w.key)++[itemI (xt,xr)])=intVals ((ws.take j).map (fun w=>itemI w.key))++[.int .i64 (itemI (xt,xr))] from List.map_append)▸HF9.out.1.drop 7,B9.out.trans HF9.out.2⟩⟩
        ·refine oper_litA (by rfl) 44 (.tmp 72) rfl sl_int (cs:=[.int .i64 (itemI (xt,xr))]) rfl rfl (by omega) (by omega) ?_
         have HF13:=Box.mk (And.intro (HF0.out.1.alloc (.cells #[.int .i64 (itemI (xt,xr))] 3)) (HF0.out.2.alloc HF0.out.2.size (.cells #[.int .i64 (itemI (xt,xr))] 3)))
         have HT14:=And.intro (HT7.1.alloc (.cells #[.int .i64 (itemI (xt,xr))] 3)) (HT7.2.alloc HT7.2.size (.cells #[.int .i64 (itemI (xt,xr))] 3))
         refine hK'.out _ _ HT14 (fun _=>?_)
         clear hK' K'
         conv=>arg 8;simp [go_sem]
         refine ar 1 rfl fun K' hK'=>?_
         refine oper_load1 (by rfl) 44 (.tmp 66) rfl (by kernel_rfl) rfl ((HF13.out.1.blk 3 rfl).1.cellOf (i:=5) rfl) ?_
         have HT15:=HT14
         refine hK'.out _ _ HT15 (fun _=>?_)
         clear hK' K'
         conv=>arg 8;simp [go_sem]
         refine ar 8 rfl fun K' hK'=>?_
         refine oper_append_O (by rfl) (.tmp 67) (.tmp 73) 44 44 rfl sl_int (.inl sl_int.ht) HF13.out.1 6 rfl rfl rfl (Src.oneNew _ _ _ rfl) (by omega) (by unfold maxLen;omega) ?_
         intro a9 c9 w9 hO9 hb9
         have O9:=Box.mk (show Own w.heap.size w9 [ImmO G,RowP 102 6 a3 k c3 (recC AccP.cs hs),BlkP gt 95 [.pointer (some ⟨t.p,0,none⟩)],BlkP ga 102 [.int .i64 t.mode,.int .i64 t.snap,.bool t.done,.int .i64 t.stamp,.slice none 0 0,.slice a5 j c5],StO gm m,RowP 90 4 (some ⟨wb,woff,none⟩) nw wc (recC WrP.enc ws),RowP 3 1 a9 (j+1) c9 (intVals ((ws.take j).map fun w=>itemI w.key)++[.int .i64 (itemI (xt,xr))]),BlkP gx 90 [.int .i64 xt,.int .i64 xr,.bool xd,.slice xa xl.length xc]] from hO9)
         have B9:=Box.mk (HF13.out.2.trans hb9)
         clear hO9 hb9
         have HT16:=(show (Own _ _ _∧Below _ _ _) from And.intro ((O9.out.drop 3).drop 5) B9.out)
         refine hK'.out _ _ HT16 (fun _=>?_)
         clear hK' K'
         conv=>arg 8;simp [go_sem]
         refine tw 9 rfl HT16 ?_
         conv=>arg 8;simp [go_sem]
         refine ar 10 rfl fun K' hK'=>?_
         have HF9:=Box.mk (O9.out.setRow 3 rfl (splice [.int .i64 t.mode,.int .i64 t.snap,.bool t.done,.int .i64 t.stamp,.slice none 0 0,.slice a5 j c5] 5 [.slice a9 (j+1) c9]))
         refine oper_store_part (by rfl) 44 (.tmp 75) (.tmp 74) rfl rfl (size:=1) (off:=5) (by kernel_rfl) (O9.out.blk 3 rfl).1 (by simp) rfl (cs:=[.slice a9 (j+1) c9]) rfl rfl (by simp [Value.oneCell']) ?_
         have HT17:=(show (Own _ _ _∧Below _ _ _) from And.intro ((HF9.out.1.drop 3).drop 5) (B9.out.trans HF9.out.2))
         refine hK'.out _ _ HT17 (fun _=>?_)
         clear hK' K'
         conv=>arg 8;simp [go_sem]
         refine ⟨by kernel_rfl,?_⟩
         conv =>
          arg 5
          simp [go_sem]
         go_wp2_with fail
         go_roundg (nw - (j+1))
         case measure=>omega
         case rel=>exact ⟨j+1,a9,c9,by omega,by omega,by go_num,⟨by rw [HTK.out,List.map_append];exact show Own w.heap.size _ [ImmO G,RowP 102 6 a3 k c3 (recC AccP.cs hs),BlkP gt 95 [.pointer (some ⟨t.p,0,none⟩)],BlkP ga 102 [.int .i64 t.mode,.int .i64 t.snap,.bool t.done,.int .i64 t.stamp,.slice none 0 0,.slice a9 (j+1) c9],StO gm m,RowP 90 4 (some ⟨wb,woff,none⟩) nw wc (recC WrP.enc ws),RowP 3 1 a9 (j+1) c9 (intVals ((ws.take j).map (fun w=>itemI w.key)++[itemI (xt,xr)]))] from (show intVals ((ws.take j).map (fun w=>itemI w.key)++[itemI (xt,xr)])=intVals ((ws.take j).map (fun w=>itemI w.key))++[.int .i64 (itemI (xt,xr))] from List.map_append)▸HF9.out.1.drop 7,B9.out.trans HF9.out.2⟩⟩
       all_goals skip
      ·obtain rfl:j=nw:=by omega
       have O9:=Box.mk (show Own w.heap.size wr [ImmO G,RowP 102 6 a3 k c3 (recC AccP.cs hs),BlkP gt 95 [.pointer (some ⟨t.p,0,none⟩)],BlkP ga 102 [.int .i64 t.mode,.int .i64 t.snap,.bool t.done,.int .i64 t.stamp,.slice none 0 0,.slice a5 t.writes.length c5],StO gm m,RowP 3 1 a5 t.writes.length c5 (intVals t.writes)] from by
        have h1:=HI3.out.1.drop 5
        have h2:(ws.take j).map (fun w=>itemI w.key)=t.writes:=by rw [HTW.out,List.take_of_length_le (by rw [HWL.out];exact Nat.le_refl _)]
        have h3:t.writes.length=j:=by rw [HTW.out,List.length_map,HWL.out]
        rw [h2] at h1
        rw [h3]
        exact h1)
       have B9:=Box.mk HI3.out.2
       clear HI3 HW HWL HTW hwl
       go_wp2_with fail
       go_loopg [13,14,15,79] n (fun gg _ _ _ s79 wq=>∃i:Nat,i≤n∧n - i≤gg∧s79=.int .i64 i ∧
        Box (Own w.heap.size wq [ImmO G,RowP 102 6 a3 k c3 (recC AccP.cs hs),BlkP gt 95 [.pointer (some ⟨t.p,0,none⟩)],BlkP ga 102 [.int .i64 t.mode,.int .i64 t.snap,.bool t.done,.int .i64 t.stamp,.slice none 0 0,.slice a5 t.writes.length c5],StO gm m,RowP 3 1 a5 t.writes.length c5 (intVals t.writes)]∧Below w.heap.size w wq))
       case atStart=>exact ⟨0,Nat.zero_le _,by omega,rfl,⟨O9.out,B9.out⟩⟩
       clear O9 B9
       case round =>
        obtain ⟨i,hi,hgi,rfl,HI4⟩:=hrel
        have O:=Box.mk HI4.out.1
        have B:=Box.mk HI4.out.2
        clear HI4
        by_cases hli:i<n
        ·have hil:i<X.all.length:=by rw [HN.out];exact hli
         obtain ⟨o1,ho1⟩:∃o,X.all.getD i default=o:=⟨_,rfl⟩
         have hom:o1∈X.all:=by rw [← ho1];exact getD_mem hil
         have hpt:(X.all.map ptrT)[i]?=some (ptrT o1):=by
          rw [List.getElem?_map,List.getElem?_eq_getElem hil]
          rw [List.getD_eq_getElem?_getD,List.getElem?_eq_getElem hil] at ho1
          simp at ho1;rw [ho1];rfl
         obtain ⟨b2,off2,he2,hc⟩:=(O.out.imm 0 rfl HF.out.1).at i hli
         cases he2
         have hip:i<(X.all.map ptrT).length:=by simpa using hil
         have c0:=hc i hip
         rw [show (X.all.map ptrT)[i]=ptrT o1 from by have:=List.getElem?_eq_getElem hip;rw [hpt] at this;exact (Option.some.inj this).symm] at c0
         unfold ptrT pV at c0
         have HOM:=Box.mk hom
         have q0:=(O.out.blk 2 rfl).1.cellOf (i:=0) rfl
         have heq:=eq_ptx ((HH.out.tn o1 hom).below B.out (Nat.le_refl _)) ((HH.out.tn t HT.out.2).below B.out (Nat.le_refl _))
         clear hc hip hpt hom ho1
         by_cases hpp:o1.p=t.p
         ·rw [decide_eq_true hpp] at heq
          rw [hpp] at heq c0
          clear hpp
          go_wp2_with fail
          go_roundg (n - (i+1))
          case measure=>omega
          case rel=>exact ⟨i+1,by omega,by omega,by go_num,⟨O.out,B.out⟩⟩
         ·rw [decide_eq_false hpp] at heq
          have HTW:=Box.mk (writes_t ((HH.out.tn o1 HOM.out).below B.out (Nat.le_refl _)) (OK.out.tn o1 HOM.out))
          go_wp2_with fail
          clear q0 c0 heq
          refine HTW.out.mono ?_
          rintro e w8 ⟨hb8,xa,xc,rfl,hrow⟩
          have O8:=Box.mk (O.out.below hb8)
          have B8:=Box.mk (B.out.trans (hb8.mono B.out.size))
          have HIX:=Box.mk (wrIdxM (fun _=>false) 42 #[.pointer (some ⟨gt,0,none⟩)] histF_enters (wsOf o1.log) xa _ xc w8 (Rd.ofOwn hrow) (fun W x hx hW=>histF_any ((HH.out.tn t HT.out.2).below (B8.out.trans (hW.mono B8.out.size)) (Nat.le_refl _)) (((O8.out.blk 2 rfl).1.below hW (Nat.le_refl _)).cellOf (i:=0) rfl) x (spot_i64 ((OK.out.tn o1 HOM.out).log x (wsOf_mem hx))).1))
          rw [idx_none] at HIX
          clear hb8 hrow HTW O B
          go_wp2_with fail
          refine HIX.out.mono ?_
          rintro e w9 ⟨rfl,hb9⟩
          have O9:=Box.mk (O8.out.below hb9)
          have B9:=Box.mk (B8.out.trans (hb9.mono B8.out.size))
          clear hb9 HIX O8 B8
          go_wp2_with fail
          go_roundg (n - (i+1))
          case measure=>omega
          case rel=>exact ⟨i+1,by omega,by omega,by go_num,⟨O9.out,B9.out⟩⟩
        ·have hin:i=n:=by omega
         clear hgi hi
         rw [hin] at hli ⊢
         go_wp2_with fail
         refine (mk_set gm wr).mono ?_
         rintro e w2 ⟨rfl,rfl⟩
         have hmp:=(O.out.map 4 rfl).1
         have hnd:=hmp.nodup
         have hIt:=it_set (w:=wr.alloc (.cells #[.map (some gm)] 98)) (g:=wr.heap.size) und_tset (hmp.below ((Below.refl wr.heap.size wr).alloc (Nat.le_refl _) _) (Nat.le_refl _)) ((Blk.new (w:=wr) (k:=wr.heap.size) (ty:=98) (arr:=#[.map (some gm)]) (cs:=[.map (some gm)]) rfl rfl).cellOf (i:=0) rfl)
         have HS:=Box.mk (srtd_int en_set hIt (by have:=HI.out.2;omega) (fun xs hxs=>by have:=hxs.length_eq;rw [List.length_map] at this;have:=HI.out.2;omega))
         have HRI:=Box.mk (fun (ys xs:List Int) hp hx ho=>reads_is (OK.out.tn t HT.out.2) hnd HI.out.1 (ys:=ys) (xs:=xs) hp hx ho)
         have O2:=Box.mk (O.out.alloc (.cells #[.map (some gm)] 98))
         have B2:=Box.mk (B.out.alloc B.out.size (.cells #[.map (some gm)] 98))
         clear hmp hnd hIt O B
         go_wp2_with fail
         refine HS.out.mono ?_
         rintro e w3 ⟨hb3,ys,ra,rc,⟨hso,xs,hx,hp⟩,rfl,hrow⟩
         obtain rfl:=HRI.out ys xs hp hx hso
         have O3:=Box.mk (show Own w.heap.size w3 [ImmO G,RowP 102 6 a3 k c3 (recC AccP.cs hs),BlkP gt 95 [.pointer (some ⟨t.p,0,none⟩)],BlkP ga 102 [.int .i64 t.mode,.int .i64 t.snap,.bool t.done,.int .i64 t.stamp,.slice none 0 0,.slice a5 t.writes.length c5],StO gm m,RowP 3 1 a5 t.writes.length c5 (intVals t.writes),RowP 3 1 ra t.reads.length rc (recC encI t.reads)] from O2.out.newRow hb3 hrow (Nat.le_refl _))
         have B3:=Box.mk (B2.out.trans (hb3.mono B2.out.size))
         clear HS HRI hb3 hrow hp hx hso O2 B2
         have HF4:=Box.mk (O3.out.setRow 3 rfl (splice [.int .i64 t.mode,.int .i64 t.snap,.bool t.done,.int .i64 t.stamp,.slice none 0 0,.slice a5 t.writes.length c5] 4 [.slice ra t.reads.length rc]))
         go_upto_region 27 with ((with_reducible show wpList _ _ _ _ _ _);refine wpList_store_part rfl 44 (.tmp 109) (.tmp 108) rfl rfl (size:=1) (off:=4) (by kernel_rfl) (O3.out.blk 3 rfl).1 (by simp) rfl (cs:=[.slice ra t.reads.length rc]) rfl rfl (by simp [Value.oneCell']) ?_)
         generalize (w3.setRow ga _)=w4 at *
         obtain ⟨y,hy⟩:∃y:AccP,y=⟨t.mode,t.snap,t.done,t.stamp,ra,rc,t.reads,a5,c5,t.writes⟩:=⟨_,rfl⟩
         have O4:=Box.mk (show Own w.heap.size w4 [ImmO G,RowP 102 6 a3 k c3 (recC AccP.cs hs),BlkP gt 95 [.pointer (some ⟨t.p,0,none⟩)],BlkP ga 102 (AccP.cs y),StO gm m,RowP 3 1 a5 t.writes.length c5 (intVals t.writes),RowP 3 1 ra t.reads.length rc (recC encI t.reads)] from by rw [hy];exact HF4.out.1)
         have B4:=Box.mk (B3.out.trans HF4.out.2)
         have HY:=Box.mk hy
         clear HF4 O3 B3 hy
         have z0:=(O4.out.blk 3 rfl).1.cellOf (i:=0) rfl
         have z1:=(O4.out.blk 3 rfl).1.cellOf (i:=1) rfl
         have z2:=(O4.out.blk 3 rfl).1.cellOf (i:=2) rfl
         have z3:=(O4.out.blk 3 rfl).1.cellOf (i:=3) rfl
         have z4:=(O4.out.blk 3 rfl).1.cellOf (i:=4) rfl
         have z5:=(O4.out.blk 3 rfl).1.cellOf (i:=5) rfl
         go_wp2_with (at_builtin;refine wpList_append_O rfl _ _ 40 40 rfl sl_acc (.inl sl_acc.ht) (O4.out.alloc _) 1 rfl rfl rfl (Src.lone _ (AccP.cs y) _ rfl (AccP.cs_one _)) (by omega) (by unfold maxLen;omega) ?_;intro a9 c9 w9 hO9 hb9)
         have hO:=(((((((((show Own w.heap.size w9 [ImmO G,RowP 102 6 a9 (k+1) c9 (recC AccP.cs hs++AccP.cs y),BlkP gt 95 [.pointer (some ⟨t.p,0,none⟩)],BlkP ga 102 (AccP.cs y),StO gm m,RowP 3 1 a5 t.writes.length c5 (intVals t.writes),RowP 3 1 ra t.reads.length rc (recC encI t.reads)] from hO9).front 6 rfl).front 1 rfl).immTake).front 5 rfl).front 1 rfl).immTake).drop 2).drop 2).drop 2
         rw [recC_encI] at hO
         have O9:=Box.mk (show Own w.heap.size w9 [ImmO (⟨a5,t.writes.length,c5,1,intVals t.writes⟩::⟨ra,t.reads.length,rc,1,intVals t.reads⟩::G),RowP 102 6 a9 (k+1) c9 (recC AccP.cs (hs++[y]))] from by
          rw [recC_append,recC_cons,recC_nil,List.append_nil];exact hO)
         have B9:=Box.mk (B4.out.trans (((Below.refl w.heap.size w4).alloc O4.out.1 _).trans hb9))
         have HE:=Box.mk (show (∀x∈hs++[y],AccIn (⟨a5,t.writes.length,c5,1,intVals t.writes⟩::⟨ra,t.reads.length,rc,1,intVals t.reads⟩::G) x)∧(hs++[y]).length=k+1∧(hs++[y]).map AccP.pl=(X.all.take (k+1)).map TnP.pl from by
          refine ⟨fun x hx=>?_,by rw [List.length_append,HF.out.2.2.1];rfl,?_⟩
          ·rcases List.mem_append.1 hx with hx | hx
           ·exact (HF.out.2.1 x hx).more (fun r hr=>by simp [hr])
           ·obtain rfl:x=y:=by simpa using hx
            rw [HY.out]
            exact ⟨by simp,by simp⟩
          ·have hge:=HT.out.1
           rw [List.getD_eq_getElem?_getD,List.getElem?_eq_getElem hkl] at hge
           simp only [Option.getD_some] at hge
           rw [List.take_add_one,List.getElem?_eq_getElem hkl,hge,List.map_append,List.map_append,HF.out.2.2.2,HY.out]
           rfl)
         clear hO9 hb9 O4 B4 hO z0 z1 z2 z3 z4 z5
         go_wp2_with fail
         go_roundg (n - (k+1))
         case measure=>omega
         case rel=>exact ⟨k+1,a9,c9,by omega,by omega,by go_num,rfl,⟨_,hs++[y],O9.out,by have:=HF.out.1;simp [this],HE.out.1,B9.out,HE.out.2.1,HE.out.2.2⟩⟩
    ·have hsp:=(OK.out.tn t HT.out.2).rows _ hxm
     obtain ⟨o2,ho2⟩:=hR2.obj
     obtain ⟨hO2,hB2⟩:=O.out.turnObj 5 rfl hbt ho2
     obtain ⟨hS2,_⟩:=HM.out.2.1.step hxm hxS
     have hl2:leftA t.rows (x::E.map (·.1))<leftA t.rows (E.map (·.1)):=leftA_lt (l:=t.rows) (S:=E.map (·.1)) (mem_keysA_of hxm) hxS
     have HN2:=Box.mk (And.intro (HM.out.1.step x) (And.intro hS2 (And.intro hR2 hsp.1)))
     have O2:=Box.mk (show Own w.heap.size w2 [ImmO G,RowP 102 6 a3 k c3 (recC AccP.cs hs),BlkP gt 95 [.pointer (some ⟨t.p,0,none⟩)],BlkP ga 102 [.int .i64 t.mode,.int .i64 t.snap,.bool t.done,.int .i64 t.stamp,.slice none 0 0,.slice none 0 0],StO gm m,ObjO gr o2] from hO2)
     have B2:=Box.mk (B.out.trans hB2)
     clear hO2 hB2 hS2 hR2 HM O B hbt hsz ho2 hxm hxS hsp
     obtain ⟨xa,xb⟩:=x
     simp only [ekR] at hnx hen
     go_upto_region 11 with fail
     have O3:=Box.mk (show Own w.heap.size _ [ImmO G,RowP 102 6 a3 k c3 (recC AccP.cs hs),BlkP gt 95 [.pointer (some ⟨t.p,0,none⟩)],BlkP ga 102 [.int .i64 t.mode,.int .i64 t.snap,.bool t.done,.int .i64 t.stamp,.slice none 0 0,.slice none 0 0],StO gm m,ObjO gr o2,BlkP w2.heap.size 104 [.int .i64 xa,.int .i64 xb]] from O2.out.new [.int .i64 xa,.int .i64 xb] 104)
     have B3:=Box.mk (B2.out.alloc B2.out.size (.cells #[.int .i64 xa,.int .i64 xb] 104))
     have HN3:=Box.mk (HN2.out.2.2.1.below ((Below.refl w2.heap.size w2).alloc (Nat.le_refl _) (.cells #[.int .i64 xa,.int .i64 xb] 104)) (Nat.le_refl _))
     clear O2 B2 hnx hen
     generalize (w2.alloc (.cells #[.int .i64 xa,.int .i64 xb] 104))=w3 at *
     generalize w2.heap.size=gx at *
     have y0:=(O3.out.blk 6 rfl).1.cellOf (i:=0) rfl
     have y1:=(O3.out.blk 6 rfl).1.cellOf (i:=1) rfl
     go_wp2_with fail
     refine (item_any HN2.out.2.2.2 _).mono ?_
     rintro e w' ⟨rfl,rfl⟩
     go_wp2_with fail
     refine (add_one (O3.out.alloc (.cells #[.int .i64 (itemI (xa,xb))] 3)) 4 rfl (itemI_i64 HN2.out.2.2.2) ((Blk.new (w:=w') (k:=w'.heap.size) (ty:=3) (arr:=#[.int .i64 (itemI (xa,xb))]) (cs:=[.int .i64 (itemI (xa,xb))]) rfl rfl).cellOf (i:=0) rfl)).mono ?_
     rintro e w6 ⟨rfl,hO6,hb6⟩
     have hbb:=(Below.refl w.heap.size w').alloc O3.out.1 (.cells #[.int .i64 (itemI (xa,xb))] 3) |>.trans hb6
     have O6:=Box.mk (show Own w.heap.size w6 [ImmO G,RowP 102 6 a3 k c3 (recC AccP.cs hs),BlkP gt 95 [.pointer (some ⟨t.p,0,none⟩)],BlkP ga 102 [.int .i64 t.mode,.int .i64 t.snap,.bool t.done,.int .i64 t.stamp,.slice none 0 0,.slice none 0 0],StO gm (putA m (itemI (xa,xb)) true),ObjO gr o2] from hO6.drop 6)
     have HR6:=Box.mk (HN3.out.move (hbb.block _ (HH.out.tn t HT.out.2).rows.lt) ((O6.out.obj 5 rfl).1.trans (O3.out.obj 5 rfl).1.symm))
     have B6:=Box.mk (B3.out.trans hbb)
     clear hO6 hb6 hbb B3 O3 y0 y1 HN3
     go_wp2_with fail
     go_roundg (leftA t.rows ((xa,xb)::E.map (·.1)))
     case measure=>omega
     case rel=>exact ⟨((xa,xb),v)::E,Nat.le_refl _,⟨_,_,O6.out,B6.out,HR6.out,HN2.out.1,HN2.out.2.1⟩⟩
  ·have hkn:k=n:=by omega
   rw [hkn]
   rw [hkn] at hlt
   go_wp2_with fail
   go_ret
   have hlen:hs.length=n:=by rw [HF.out.2.2.1,hkn]
   refine ⟨HB.out,hs,a3,c3,by rw [hlen];rfl,⟨?_,fun x hx=>(HF.out.2.1 x hx).rd HO.out 0 rfl⟩,?_⟩
   ·have:=Rd.ofOwn (HO.out.row 1 rfl)
    rw [hlen]
    rw [hkn] at this
    exact this
   ·rw [HF.out.2.2.2,List.take_of_length_le (by rw [HN.out];omega)]
end
end Go.Proofs.YtlfghapllmaigaaGreatDoor
