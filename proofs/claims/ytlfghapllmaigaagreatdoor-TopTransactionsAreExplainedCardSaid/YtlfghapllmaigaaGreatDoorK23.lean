/-
  The walk of snapshot's Rows; The walk of snapshot's Add; Plain: the groups of a table's versions, and what is seen of them; Plain mathematics of chapter 28: a group as a value, and what its calls do. Conditions: each theorem's own hypotheses.
-/
import Derived.Test.YtlfghapllmaigaaGreatDoorK22
import Derived.Test.YtlfghapllmaigaaGreatDoorK21
import Derived.WalkKit
set_option linter.unusedVariables false
set_option linter.unusedSimpArgs false
namespace Go.Proofs.YtlfghapllmaigaaGreatDoor
section
open Go.RowKit Go.Maps
attribute [local go_sem] Oper.semAt_some
theorem Own.ex {β:Type} {P:β→HP} {B:Nat} {w:World} {l:List HP} (O:Own B w ((fun w F=>∃y,P y w F)::l)) (hs:∀y,Stb (P y)):∃y,Own B w (P y::l):=by
 obtain ⟨h1,h2,F,⟨F1,F2,⟨y,k1⟩,k2,k3,rfl⟩,hB⟩:=O
 refine ⟨y,h1,fun Q hQ=>?_,_,⟨F1,F2,k1,k2,k3,rfl⟩,hB⟩
 rcases List.mem_cons.1 hQ with rfl | hQ
 ·exact hs y
 ·exact h2 Q (List.mem_cons_of_mem _ hQ)
theorem stb_ex {β:Type} {P:β→HP} (hs:∀y,Stb (P y)):Stb (fun w F=>∃y,P y w F) :=
 ⟨fun w F ⟨y,h⟩=>(hs y).lt w F h,fun w w' F ⟨y,h⟩ he=>⟨y,(hs y).eq w w' F h he⟩⟩
theorem Own.toEx {β:Type} {P:β→HP} {B:Nat} {w:World} {l:List HP} (y:β) (O:Own B w (P y::l)) (hs:∀y,Stb (P y)):Own B w ((fun w F=>∃y,P y w F)::l):=by
 obtain ⟨h1,h2,F,⟨F1,F2,k1,k2,k3,rfl⟩,hB⟩:=O
 refine ⟨h1,fun Q hQ=>?_,_,⟨F1,F2,⟨y,k1⟩,k2,k3,rfl⟩,hB⟩
 rcases List.mem_cons.1 hQ with rfl | hQ
 ·exact stb_ex hs
 ·exact h2 Q (List.mem_cons_of_mem _ hQ)
def BoxRowL (g:Nat) (ts te:TypeId) (k n:Nat) (xs:List Value) (y:Option Addr×Nat):List HP:=[BlkP g ts [.slice y.1 n y.2],RowP te k y.1 n y.2 xs]
theorem BoxRowL.stb (g:Nat) (ts te:TypeId) (k n:Nat) (xs:List Value) (y:Option Addr×Nat):∀P∈BoxRowL g ts te k n xs y,Stb P:=by
 intro P hP
 unfold BoxRowL at hP
 simp only [List.mem_cons,List.not_mem_nil,or_false] at hP
 rcases hP with rfl | rfl
 ·exact BlkP.stb _ _ _
 ·exact RowP.stb _ _ _ _ _ _
def BoxRowO (g:Nat) (ts te:TypeId) (k n:Nat) (xs:List Value):HP:=fun w F=>∃y,Seps (BoxRowL g ts te k n xs y) w F
theorem Own.boxOpen {B:Nat} {w:World} {l:List HP} {g:Nat} {ts te:TypeId} {k n:Nat} {xs:List Value} (O:Own B w (BoxRowO g ts te k n xs::l)):∃a c,Own B w (BlkP g ts [.slice a n c]::RowP te k a n c xs::l):=by
 obtain ⟨⟨a,c⟩,h⟩:=Own.ex O (fun y=>Seps.stb (BoxRowL.stb g ts te k n xs y))
 exact ⟨a,c,Own.open_ h (BoxRowL.stb g ts te k n xs _)⟩
theorem Own.boxShut {B:Nat} {w:World} {l:List HP} {g:Nat} {ts te:TypeId} {k n:Nat} {xs:List Value} {a:Option Addr} {c:Nat} (O:Own B w (BlkP g ts [.slice a n c]::RowP te k a n c xs::l)):Own B w (BoxRowO g ts te k n xs::l) :=
 Own.toEx (P:=fun y=>Seps (BoxRowL g ts te k n xs y)) (a,c) (Own.shut (m:=BoxRowL g ts te k n xs (a,c)) O) (fun y=>Seps.stb (BoxRowL.stb g ts te k n xs y))
def outG (s:Int) (pre:List GrV):List VerP:=(pre.map GrV.l).filterMap (pickG s)
theorem outG_snoc (s:Int) (pre:List GrV) (x:GrV):outG s (pre++[x])=outG s pre++(pickG s x.l).toList:=by
 unfold outG
 rw [List.map_append,List.filterMap_append]
 simp only [List.map_cons,List.map_nil,List.filterMap_cons,List.filterMap_nil]
 cases pickG s x.l<;>rfl
def rowsMine (g:Nat) (s:Int) (pre:List GrV):List HP:=[BoxRowO (g+1) 32 93 4 (outG s pre).length (recC VerP.enc (outG s pre)),BlkP g 3 [.int .i64 s]]
set_option maxRecDepth 100000 in
set_option maxHeartbeats 4000000 in
theorem rows_any {w:World} {a:Option Addr} {n c:Nat} {vs:List VerP} {gs:List (List VerP)} (hr:Rd w a n c 4 (recC VerP.enc vs)) (hn:n≤1000000) (ok:GrsOk gs) (hu:∀ys:List VerP,ys.Perm vs→ys.Pairwise (Le2 VerP.row VerP.stamp)→ys=gs.flatten) (hasc:∀g∈gs,g.Pairwise (fun a b=>a.stamp<b.stamp)) (hgl:∀g∈gs,g.length≤1000000) (hgs:gs.length≤1000000) (s:Int) :
  Calls Tryz.prog 29 #[.slice a n c,.int .i64 s] w (RetOwn 93 4 (gs.filterMap (pickG s)).length (recC VerP.enc (gs.filterMap (pickG s))) w):=by
 have HA:=Box.mk (And.intro hasc hgl)
 have hIt:=it_rows (w:=((w.alloc (.cells #[.int .i64 s] 3)).alloc (.cells #[.slice none 0 0] 32)).alloc (.cells #[.slice a n c] 32)) (g:=w.heap.size+2) hr (Nat.le_refl _) hn ok hu ((((Below.refl w.heap.size w).alloc (Nat.le_refl _) _).alloc (by simp) _).alloc (by simp;omega) _)
 have O0:=((((Own.start w).new [.int .i64 s] 3).new [.slice none 0 0] 32).nilRow 93 4).new [.slice a n c] 32
 simp only [World.size_alloc,List.nil_append,List.cons_append] at O0
 have O1:Own w.heap.size (((w.alloc (.cells #[.int .i64 s] 3)).alloc (.cells #[.slice none 0 0] 32)).alloc (.cells #[.slice a n c] 32)) [BoxRowO (w.heap.size+1) 32 93 4 0 [],BlkP w.heap.size 3 [.int .i64 s],BlkP (w.heap.size+2) 32 [.slice a n c]]:=by
  refine Own.boxShut (a:=none) (c:=0) ?_
  exact O0.perm (List.perm_middle (l₁:=[BlkP w.heap.size 3 [.int .i64 s]]) |>.trans ((List.perm_middle (l₁:=[BlkP w.heap.size 3 [.int .i64 s]]) (a:=RowP 93 4 none 0 0 [])).cons _))
 have HI:=Box.mk (And.intro hIt O1)
 clear hIt O0 O1 hasc hgl hr hu ok
 refine (callsIn_wide (n:=8)).1 ?_
 refine callsIn_of_wp_marks Tryz.func29 rfl trivial ?_ rfl
 simp only [Tryz.ntmps29,List.size_toArray,List.length_cons,List.length_nil,Nat.reduceAdd,Nat.reduceSub,Array.replicate_succ,Array.replicate_zero,List.push_toArray,List.append_toArray,List.nil_append,List.cons_append]
 gi_wp2
 refine ⟨trivial,(callsIn_wide.2 (mk_rows a n c _)).mono ?_⟩
 rintro e w2 ⟨rfl,rfl⟩
 gi_wp2
 refine wpIn_range_own (α:=GrV) (B:=w.heap.size) (gf:=144) (lb:=#[.pointer (some ⟨w.heap.size+2,0,none⟩)]) rfl en_rows HI.out.1 (Below.refl _ _) (fun _=>rfl)
  (rowsMine w.heap.size s) HI.out.2
  (fun x=>{ tmps:=#[.slice a n c,.int .i64 s,undef,.pointer (some ⟨w.heap.size,0,none⟩),.slice none 0 0,.pointer (some ⟨w.heap.size+1,0,none⟩),.slice x.a x.l.length x.c,undef,.slice a n c,.func (.func 144) #[] #[.pointer (some ⟨w.heap.size+2,0,none⟩)],.slice x.a x.l.length x.c,undef,undef,undef,undef,undef,undef,undef,undef,undef,undef,undef,undef,undef,undef,undef,undef,undef,undef,undef,undef,undef],defers:=[] }) ?assign ?body ?done
 case assign =>
  intro l x W K hK
  gi_wp2
  exact hK
 case body =>
  intro l pre x G R W hO hG hx hlt
  obtain ⟨xa,xc,xl⟩:=x
  simp only at hx
  have hxl:=HA.out.2 xl hx
  have hrdG:=hG (GrV.rd ⟨xa,xc,xl⟩) (by simp)
  unfold GrV.rd at hrdG
  simp only at hrdG
  obtain ⟨a3,c3,O1⟩:=Own.boxOpen hO
  obtain ⟨zs,hzs⟩:∃zs,outG s pre=zs:=⟨_,rfl⟩
  have hzl:zs.length≤1000000:=by
   rw [← hzs]
   exact Nat.le_trans (List.length_filterMap_le _ _) (by rw [List.length_map];omega)
  have HSN:=Box.mk (show outG s (pre++[(⟨xa,xc,xl⟩:GrV)])=zs++(pickG s xl).toList from by rw [outG_snoc,hzs])
  rw [hzs] at O1
  obtain ⟨m,hm⟩:∃m,zs.length=m:=⟨_,rfl⟩
  have HM:=Box.mk hm
  rw [hm] at O1 hzl
  have HO1:=Box.mk O1
  have HIM:=Box.mk hrdG
  have HS:=Box.mk (sees_any (O1.imm 3 rfl hrdG) (HA.out.1 xl hx) s hxl)
  have y0:=(O1.blk 2 rfl).1.cellOf (i:=0) rfl
  obtain ⟨xn,hxn⟩:∃xn,xl.length=xn:=⟨_,rfl⟩
  have HXN:=Box.mk hxn
  simp only [hxn] at HS HIM hxl ⊢
  clear hm hzs hxn hO O1 hrdG hG hx HI
  gi_wp2
  refine ⟨trivial,(CallsIn.inRound l (callsIn_wide.2 HS.out)).mono ?_⟩
  rintro e W1 ⟨hb1,k,hk,rfl⟩
  have HO2:=Box.mk (And.intro (HO1.out.below hb1) (hb1.mono HO1.out.1))
  clear hb1 HO1 HS y0
  cases k with
  | zero =>
   have HP:=Box.mk hk.pick0
   clear hk
   have e0:(((0:Nat):Int) - 1)=-1:=rfl
   rw [e0]
   clear e0
   gi_wp2
   refine ⟨?_,HO2.out.2⟩
   unfold rowsMine
   rw [HSN.out,HP.out,Option.toList_none,List.append_nil,HM.out]
   exact Own.boxShut HO2.out.1
  | succ j =>
   have hjl:=hk.le
   rw [HXN.out] at hjl
   have e0:(((j+1:Nat):Int) - 1)=(j:Int):=by omega
   rw [e0]
   clear e0
   have hrd:Rd W1 xa xn xc 4 (recC VerP.enc xl):=HO2.out.1.imm 3 rfl HIM.out
   obtain ⟨b,off,rfl,hbl,_⟩:=hrd.recAt VerP.enc_len (by omega) j (by omega)
   obtain ⟨v,hv⟩:∃v,xl.getD j default=v:=⟨_,rfl⟩
   have HP:=Box.mk hk.pick
   rw [hv] at HP
   have hcl:=hrd.recCell VerP.enc_len (by omega) j (by omega)
   rw [hv] at hcl
   have HCELL:=Box.mk (fun (w':World) (h:Own w.heap.size w' (BlkP w.heap.size 3 [.int .i64 s]::ImmO G::R))=>(show Rd w' (some ⟨b,off,none⟩) xn xc 4 (recC VerP.enc xl) from h.imm 1 rfl HIM.out).recCell VerP.enc_len (by omega) j (by omega))
   rw [hv] at HCELL
   clear hk hv hrd
   obtain ⟨va,vb,vd,vp,vq,vl⟩:=v
   have c2:=hcl 2 _ rfl
   clear hcl
   cases vd with
   | true =>
    simp only [if_true] at HP
    clear HCELL
    gi_wp2
    refine ⟨?_,HO2.out.2⟩
    unfold rowsMine
    rw [HSN.out,HP.out,Option.toList_none,List.append_nil,HM.out]
    exact Own.boxShut HO2.out.1
   | false =>
    simp only [Bool.false_eq_true,if_false] at HP
    have HFIN:=Box.mk (fun (W':World) (a9:Option Addr) (c9:Nat) (h1:Own w.heap.size W' (BlkP (w.heap.size+1) 32 [.slice a9 (m+1) c9]::RowP 93 4 a9 (m+1) c9 (recC VerP.enc zs++VerP.enc ⟨va,vb,false,vp,vq,vl⟩)::BlkP w.heap.size 3 [.int .i64 s]::ImmO G::R)) (h2:Below w.heap.size W W') =>
     show (Own w.heap.size W' (rowsMine w.heap.size s (pre++[(⟨some ⟨b,off,none⟩,xc,xl⟩:GrV)])++ImmO G::R)∧Below w.heap.size W W') from ⟨by
      unfold rowsMine
      rw [HSN.out,HP.out,recC_append,List.length_append,HM.out]
      refine Own.boxShut (a:=a9) (c:=c9) ?_
      simpa [recC] using h1,h2⟩)
    clear HSN HP
    simp only [VerP.enc] at HCELL HFIN
    generalize vl.length=vn at *
    gi_wp2
    have HF0:=Box.mk (And.intro (show Own w.heap.size W1.drew (BlkP (w.heap.size+1) 32 [.slice a3 m c3]::RowP 93 4 a3 m c3 (recC VerP.enc zs)::BlkP w.heap.size 3 [.int .i64 s]::ImmO G::R) from HO2.out.1.drew) HO2.out.2.drew)
    have HS0:Own w.heap.size W1.drew (BlkP w.heap.size 3 [.int .i64 s]::ImmO G::R)∧Below w.heap.size W W1.drew:=⟨(HF0.out.1.drop 0).drop 0,HF0.out.2⟩
    refine wpIn_region_in_held (S:=fun w'=>(Own w.heap.size w' (BlkP w.heap.size 3 [.int .i64 s]::ImmO G::R)∧Below w.heap.size W w')) (by kernel_rfl) (by kernel_rfl) ?_ HS0 (fun _=>?_)
    ·rintro ⟨_,_,h⟩
     exact absurd h.1 (by simp)
    generalize W1.drew=wd at *
    have hjx:j<xn:=by omega
    clear HO2 c2
    refine tw 1 rfl HS0 ?_
    conv=>arg 8;simp [go_sem]
    refine tw 2 rfl HS0 ?_
    conv=>arg 8;simp [go_sem]
    refine tw 3 rfl HS0 ?_
    conv=>arg 8;simp [go_sem]
    refine tk 4 (v:=.agg #[.int .i64 va,.int .i64 vb,.bool false,.slice vp vn vq]) rfl (yieldsIf_load_agg (by rfl) 93 (.tmp 27) rfl aggVer rfl (cs:=[.int .i64 va,.int .i64 vb,.bool false,.slice vp vn vq]) rfl (fun w' hS j u h=>by rw [addN];exact HCELL.out w' hS.1 j u h)) (HS0) ?_
    conv=>arg 8;simp [go_sem]
    refine wpAnyH_ready (rs:=[0,5]) (by kernel_rfl) (by simp) ?_
    refine AllReadyH.cons rfl (fun K' hK'=>?_) (AllReadyH.cons rfl (fun K' hK'=>?_) AllReadyH.nil)
    ·refine oper_load1 (by rfl) 32 (.tmp 5) rfl (by kernel_rfl) rfl ((HF0.out.1.blk 0 rfl).1.cellOf (i:=0) rfl) ?_
     have HT1:=HS0
     refine hK'.out _ _ HT1 (fun _=>?_)
     clear hK' K'
     conv=>arg 8;simp [go_sem]
     refine ar 5 rfl fun K' hK'=>?_
     refine oper_litA (by rfl) 32 (.tmp 28) rfl sl_ver (cs:=[.int .i64 va,.int .i64 vb,.bool false,.slice vp vn vq]) rfl rfl (by omega) (by omega) ?_
     have HF2:=Box.mk (And.intro (HF0.out.1.alloc (.cells #[.int .i64 va,.int .i64 vb,.bool false,.slice vp vn vq] 93)) (HF0.out.2.alloc HF0.out.1.1 (.cells #[.int .i64 va,.int .i64 vb,.bool false,.slice vp vn vq] 93)))
     have HT3:=And.intro (HT1.1.alloc (.cells #[.int .i64 va,.int .i64 vb,.bool false,.slice vp vn vq] 93)) (HT1.2.alloc HT1.1.1 (.cells #[.int .i64 va,.int .i64 vb,.bool false,.slice vp vn vq] 93))
     refine hK'.out _ _ HT3 (fun _=>?_)
     clear hK' K'
     conv=>arg 8;simp [go_sem]
     refine ar 6 rfl fun K' hK'=>?_
     refine oper_append_O (by rfl) (.tmp 24) (.tmp 29) 32 32 rfl sl_ver (.inl sl_ver.ht) HF2.out.1 1 rfl rfl rfl (Src.lone _ [.int .i64 va,.int .i64 vb,.bool false,.slice vp vn vq] _ rfl (by simp [Value.oneCell'])) (by omega) (by unfold maxLen;omega) ?_
     intro a9 c9 w9 hO9 hb9
     have O9:=Box.mk (show Own w.heap.size w9 (BlkP (w.heap.size+1) 32 [.slice a3 m c3]::RowP 93 4 a9 (m+1) c9 (recC VerP.enc zs++[.int .i64 va,.int .i64 vb,.bool false,.slice vp vn vq])::BlkP w.heap.size 3 [.int .i64 s]::ImmO G::R) from hO9)
     have B9:=Box.mk (HF2.out.2.trans hb9)
     clear hO9 hb9
     have HT4:=(show (Own _ _ _∧Below _ _ _) from And.intro (O9.out.drop 0 |>.drop 0) B9.out)
     refine hK'.out _ _ HT4 (fun _=>?_)
     clear hK' K'
     conv=>arg 8;simp [go_sem]
     refine ar 7 rfl fun K' hK'=>?_
     have HF9:=Box.mk (O9.out.setRow 0 rfl [.slice a9 (m+1) c9])
     refine oper_store_part (by rfl) 32 (.tmp 5) (.tmp 30) rfl rfl (size:=1) (off:=0) (by kernel_rfl) (O9.out.blk 0 rfl).1 (by simp) rfl (cs:=[.slice a9 (m+1) c9]) rfl rfl (by simp [Value.oneCell']) ?_
     have HT5:=(show (Own _ _ _∧Below _ _ _) from And.intro (HF9.out.1.drop 0 |>.drop 0) (B9.out.trans HF9.out.2))
     refine hK'.out _ _ HT5 (fun _=>?_)
     clear hK' K'
     conv=>arg 8;simp [go_sem]
     refine ⟨by kernel_rfl,?_⟩
     conv =>
      arg 5
      simp [go_sem]
     gi_wp2
     first | exact HFIN.out _ _ _ HF9.out.1 (B9.out.trans HF9.out.2) | exact (HFIN.out _ _ _ HF9.out.1 (B9.out.trans HF9.out.2)).1
     all_goals exact (HFIN.out _ _ _ HF9.out.1 (B9.out.trans HF9.out.2)).2
    ·refine oper_litA (by rfl) 32 (.tmp 28) rfl sl_ver (cs:=[.int .i64 va,.int .i64 vb,.bool false,.slice vp vn vq]) rfl rfl (by omega) (by omega) ?_
     have HF6:=Box.mk (And.intro (HF0.out.1.alloc (.cells #[.int .i64 va,.int .i64 vb,.bool false,.slice vp vn vq] 93)) (HF0.out.2.alloc HF0.out.1.1 (.cells #[.int .i64 va,.int .i64 vb,.bool false,.slice vp vn vq] 93)))
     have HT7:=And.intro (HS0.1.alloc (.cells #[.int .i64 va,.int .i64 vb,.bool false,.slice vp vn vq] 93)) (HS0.2.alloc HS0.1.1 (.cells #[.int .i64 va,.int .i64 vb,.bool false,.slice vp vn vq] 93))
     refine hK'.out _ _ HT7 (fun _=>?_)
     clear hK' K'
     conv=>arg 8;simp [go_sem]
     refine ar 0 rfl fun K' hK'=>?_
     refine oper_load1 (by rfl) 32 (.tmp 5) rfl (by kernel_rfl) rfl ((HF6.out.1.blk 0 rfl).1.cellOf (i:=0) rfl) ?_
     have HT8:=HT7
     refine hK'.out _ _ HT8 (fun _=>?_)
     clear hK' K'
     conv=>arg 8;simp [go_sem]
     refine ar 6 rfl fun K' hK'=>?_
     refine oper_append_O (by rfl) (.tmp 24) (.tmp 29) 32 32 rfl sl_ver (.inl sl_ver.ht) HF6.out.1 1 rfl rfl rfl (Src.lone _ [.int .i64 va,.int .i64 vb,.bool false,.slice vp vn vq] _ rfl (by simp [Value.oneCell'])) (by omega) (by unfold maxLen;omega) ?_
     intro a9 c9 w9 hO9 hb9
     have O9:=Box.mk (show Own w.heap.size w9 (BlkP (w.heap.size+1) 32 [.slice a3 m c3]::RowP 93 4 a9 (m+1) c9 (recC VerP.enc zs++[.int .i64 va,.int .i64 vb,.bool false,.slice vp vn vq])::BlkP w.heap.size 3 [.int .i64 s]::ImmO G::R) from hO9)
     have B9:=Box.mk (HF6.out.2.trans hb9)
     clear hO9 hb9
     have HT9:=(show (Own _ _ _∧Below _ _ _) from And.intro (O9.out.drop 0 |>.drop 0) B9.out)
     refine hK'.out _ _ HT9 (fun _=>?_)
     clear hK' K'
     conv=>arg 8;simp [go_sem]
     refine ar 7 rfl fun K' hK'=>?_
     have HF9:=Box.mk (O9.out.setRow 0 rfl [.slice a9 (m+1) c9])
     refine oper_store_part (by rfl) 32 (.tmp 5) (.tmp 30) rfl rfl (size:=1) (off:=0) (by kernel_rfl) (O9.out.blk 0 rfl).1 (by simp) rfl (cs:=[.slice a9 (m+1) c9]) rfl rfl (by simp [Value.oneCell']) ?_
     have HT10:=(show (Own _ _ _∧Below _ _ _) from And.intro (HF9.out.1.drop 0 |>.drop 0) (B9.out.trans HF9.out.2))
     refine hK'.out _ _ HT10 (fun _=>?_)
     clear hK' K'
     conv=>arg 8;simp [go_sem]
     refine ⟨by kernel_rfl,?_⟩
     conv =>
      arg 5
      simp [go_sem]
     gi_wp2
     first | exact HFIN.out _ _ _ HF9.out.1 (B9.out.trans HF9.out.2) | exact (HFIN.out _ _ _ HF9.out.1 (B9.out.trans HF9.out.2)).1
     all_goals exact (HFIN.out _ _ _ HF9.out.1 (B9.out.trans HF9.out.2)).2
 case done =>
  intro D xs W R hS hO hB
  have hO1:Own w.heap.size W (ObjO D (.deferred (some []))::BoxRowO (w.heap.size+1) 32 93 4 (outG s xs).length (recC VerP.enc (outG s xs))::BlkP w.heap.size 3 [.int .i64 s]::R):=hO
  have hout:outG s xs=gs.filterMap (pickG s):=by unfold outG;rw [hS]
  rw [hout] at hO1
  generalize gs.filterMap (pickG s)=zs at *
  obtain ⟨a3,c3,O1⟩:=Own.boxOpen (hO1.perm (List.Perm.swap _ _ _))
  obtain ⟨m,hm⟩:∃m,zs.length=m:=⟨_,rfl⟩
  rw [hm] at O1
  have HM:=Box.mk hm
  clear hm
  have y0:=(O1.blk 0 rfl).1.cellOf (i:=0) rfl
  have hD:=(O1.obj 2 rfl).1
  have HO1:=Box.mk O1
  clear hO hO1 O1 HI HA
  gi_wp2
  refine ⟨by simp,.inl ⟨_,_,rfl,run_takeDeferred hD,?_⟩⟩
  obtain ⟨O2,hB2⟩:=HO1.out.turnObj 2 rfl (w':=W.putObj D (.deferred none)) ((But.refl _ W).grown (grownBy_putObj' W _ _) (fun k e=>.inl (by cases e;simp))) (World.putObj_heap_same (Array.getElem?_eq_some_iff.1 hD).1)
  refine ⟨_,results_tmp rfl _ _ _,((((((Below.refl w.heap.size w).alloc (Nat.le_refl _) _).alloc (by simp) _).alloc (by simp;omega) _).trans hB).trans hB2),a3,c3,by rw [HM.out];rfl,?_⟩
  rw [HM.out]
  exact O2.rowB 1 rfl
end
section
open Go.RowKit Go.Maps
theorem und_mib:Tryz.prog.underlying 69=some (.map 3 4):=by kernel_rfl
def RetAdd (zs:List VerP) (w:World) (e:Ending) (w':World):Prop:=Below w.heap.size w w'∧∃ (ys:List VerP) (a:Option Addr) (c:Nat),(ys.Pairwise (Le2 VerP.row VerP.stamp)∧ys.Perm zs)∧e=.returned (.tuple #[.slice a ys.length c,.int .i64 0])∧w'.ownsRow w.heap.size 93 4 (.slice a ys.length c) ys.length (recC VerP.enc ys)
set_option maxRecDepth 20000 in
set_option maxHeartbeats 4000000 in
theorem add_any {w:World} {a wa:Option Addr} {n c m wc:Nat} {vs:List VerP} {ws:List WrP} (hr:Rd w a n c 4 (recC VerP.enc vs)) (hw:Rd w wa m wc 4 (recC WrP.enc ws)) {s:Int} (hs:lastV vs<s) (hs2:s≤1073741824) (hn:n≤100000) (hm:m≤100000)
  (hk:∀x∈ws,1≤x.row∧x.row≤4) (hnd:(ws.map WrP.row).Nodup) (hd:∀x∈ws,x.dead=true→x.vals=[]) :
  Calls Tryz.prog 54 #[.slice a n c,.int .i64 s,.slice wa m wc] w (RetAdd (vs++ws.map fun x=>x.ver s) w):=by
 have hln:=hr.rlen VerP.enc_len (by omega)
 have hlm:=hw.rlen WrP.enc_len (by omega)
 have HR:=Box.mk hr
 have HW:=Box.mk hw
 have HL:=Box.mk (And.intro hln hlm)
 have HK:=Box.mk (And.intro hk (And.intro hnd hd))
 have HLA:=Box.mk (last_any hr)
 have HCL:=Box.mk (fun w1 (hb:Below w.heap.size w w1)=>clone_ver (hr.below hb (Nat.le_refl _)) (recC_one VerP.enc_one vs) (by omega))
 have hmm:=@run_makeMap Tryz.prog
 clear hr hw hln hlm hk hnd hd
 generalize lastV vs=lv at *
 go_enter Tryz.func54,Tryz.ntmps54
 go_wp2_with fail
 refine HLA.out.mono ?_
 rintro e w1 ⟨rfl,hb1⟩
 have B1:=Box.mk hb1
 have hg1:decide (s≤lv)=false:=decide_eq_false (by omega)
 have hg2:decide (1073741824<s)=false:=decide_eq_false (by omega)
 clear hb1 HLA
 go_wp2_with fail
 refine (HCL.out w1 B1.out).mono ?_
 rintro e w2 ⟨hb2,a2,c2,rfl,hrow⟩
 have O2:=Box.mk (((Own.start w).below (B1.out)).newRow hb2 hrow (Nat.le_refl _))
 have B2:=Box.mk (B1.out.trans (hb2.mono B1.out.size))
 clear hb2 hrow HCL B1 hg1 hg2
 have O3:=Box.mk (show Own w.heap.size (w2.alloc (.map #[] 0)) [RowP 93 4 a2 n c2 (recC VerP.enc vs),MapO Tryz.prog 3 kI Value.bool w2.heap.size ([]:List (Int×Bool))] from Own.newMap (P:=Tryz.prog) (k:=3) (ek:=kI) (ev:=Value.bool) O2.out)
 have B3:=Box.mk (B2.out.alloc B2.out.size (.map #[] 0))
 clear O2 B2
 generalize hq:w2.heap.size=bm at *
 go_wp2_with fail
 clear hq
 generalize (w2.alloc (.map #[] 0))=w3 at *
 go_loopg [8,10,26] m (fun gg s8 s10 s26 wr=>∃ (k:Nat) (a3:Option Addr) (c3:Nat),k≤m∧m - k≤gg∧s26=.int .i64 k∧s10=.bool false∧s8=.slice a3 (n+k) c3 ∧
  Box (∃l:List (Int×Bool),Own w.heap.size wr [RowP 93 4 a3 (n+k) c3 (recC VerP.enc (vs++(ws.take k).map fun x=>x.ver s)),MapO Tryz.prog 3 kI Value.bool bm l]∧Below w.heap.size w wr∧∀r∈keysA l,r∈(ws.take k).map WrP.row))
 case atStart=>exact ⟨0,a2,c2,Nat.zero_le _,by omega,rfl,rfl,rfl,⟨[],by simpa using O3.out,B3.out,by simp [keysA]⟩⟩
 clear O3 B3
 case round =>
  obtain ⟨k,a3,c3,hk,hg,rfl,rfl,rfl,HI⟩:=hrel
  obtain ⟨l,hO,hB,hkl⟩:=HI.out
  have HI:=Box.mk (And.intro hO (And.intro hB hkl))
  clear hO hB hkl
  by_cases hlt:k<m
  ·obtain ⟨b,off,rfl,hb,hcl⟩:=(HW.out.below HI.out.2.1 (Nat.le_refl _)).recAt WrP.enc_len (by omega) k hlt
   obtain ⟨x,hx⟩:∃x,ws.getD k default=x:=⟨_,rfl⟩
   rw [hx] at hcl
   have hxm:x∈ws:=by rw [← hx];exact getD_mem (by rw [HL.out.2];exact hlt)
   have HTK:=Box.mk (show ws.take (k+1)=ws.take k++[x] from by rw [take_snoc (by rw [HL.out.2];exact hlt),hx])
   have hrow:=HK.out.1 x hxm
   have hdead:=HK.out.2.2 x hxm
   have hnew:x.row∉keysA l:=by
    intro h
    have h1:=HI.out.2.2 _ h
    have h2:=HK.out.2.1
    rw [← List.take_append_drop k ws,List.map_append,List.nodup_append] at h2
    refine h2.2.2 _ h1 _ (List.mem_map.2 ⟨x,?_,rfl⟩) rfl
    rw [← hx,List.getD_eq_getElem?_getD,List.getElem?_eq_getElem (by rw [HL.out.2];exact hlt)]
    exact List.mem_of_getElem? (i:=0) (by rw [List.getElem?_drop];simp [HL.out.2,hlt])
   obtain ⟨xt,xr,xd,va,vc,xl⟩:=x
   simp only at hrow hdead hnew
   have c0:=hcl 0 _ rfl
   have c1:=hcl 1 _ rfl
   have c2':=hcl 2 _ rfl
   have c3':=hcl 3 _ rfl
   simp only [Nat.add_zero] at c0 c1 c2' c3'
   have O4:=Box.mk ((HI.out.1.new [.int .i64 xt,.int .i64 xr,.bool xd,.slice va xl.length vc] 90))
   have B4:=Box.mk (HI.out.2.1.alloc HI.out.2.1.size (.cells #[.int .i64 xt,.int .i64 xr,.bool xd,.slice va xl.length vc] 90))
   have HKL:=Box.mk HI.out.2.2
   clear hx hcl hxm HI
   go_upto_region 7 with fail
   clear c0 c1 c2' c3'
   generalize wr.heap.size=gx at *
   generalize (wr.alloc (.cells #[.int .i64 xt,.int .i64 xr,.bool xd,.slice va xl.length vc] 90))=w4 at *
   have y1:=(O4.out.blk 2 rfl).1.cellOf (i:=1) rfl
   have y2:=(O4.out.blk 2 rfl).1.cellOf (i:=2) rfl
   have y3:=(O4.out.blk 2 rfl).1.cellOf (i:=3) rfl
   have hi:In64 xr:=by unfold In64;omega
   have hlook:=(O4.out.map 1 rfl).1.look (t:=69) (e:=4) K_int kI_inj und_mib z_bool (keyI hi)
   rw [getA_none.2 hnew] at hlook
   simp only [kI,Option.map_none,Option.getD_none] at hlook
   obtain ⟨w5,hrun,O5,hb5,_⟩:=O4.out.putMap K_int kI_inj und_mib 1 rfl (keyI hi) true
   have hrun':(Instr.mapUpdate 69 (.map (some bm)) (.int .i64 xr) (.bool true)).run Tryz.prog w4=.ok () w5:=hrun
   have O5:=Box.mk (show Own w.heap.size w5 [RowP 93 4 a3 (n+k) c3 (recC VerP.enc (vs++(ws.take k).map fun x=>x.ver s)),MapO Tryz.prog 3 kI Value.bool bm (putA l xr true),BlkP gx 90 [.int .i64 xt,.int .i64 xr,.bool xd,.slice va xl.length vc]] from O5)
   have B5:=Box.mk (B4.out.trans hb5)
   have z1:=(O5.out.blk 2 rfl).1.cellOf (i:=1) rfl
   have z2:=(O5.out.blk 2 rfl).1.cellOf (i:=2) rfl
   have z3:=(O5.out.blk 2 rfl).1.cellOf (i:=3) rfl
   have HKL2:=Box.mk (show ∀r∈keysA (putA l xr true),r∈(ws.take (k+1)).map WrP.row from fun r hr=>by
    rw [HTK.out,List.map_append]
    rw [putA_new hnew] at hr
    simp only [keysA,List.map_append,List.mem_append,List.map_cons,List.map_nil,List.mem_singleton] at hr
    rcases hr with hr | rfl
    ·exact List.mem_append.2 (.inl (HKL.out r hr))
    ·exact List.mem_append.2 (.inr (by simp)))
   have t1:decide (xr<1)=false:=decide_eq_false (by omega)
   have t2:decide (1073741824<xr)=false:=decide_eq_false (by omega)
   have HVV:=Box.mk (show vs++(ws.take (k+1)).map (fun x=>x.ver s)=(vs++(ws.take k).map fun x=>x.ver s)++[⟨xr,s,xd,va,vc,xl⟩] from by rw [HTK.out,List.map_append,List.append_assoc];rfl)
   clear hrun hb5 hnew O4 B4 HKL HTK
   cases xd with
   | true =>
    have hxl:=Box.mk (show xl.length=0 from by rw [hdead rfl];rfl)
    rw [hxl.out] at y3 z3 O5
    go_wp2_with (first | (at_builtin;refine wpList_append_O rfl _ _ 32 32 rfl sl_ver (.inl sl_ver.ht) (O5.out.alloc _) 0 rfl rfl rfl (Src.lone w5 [.int .i64 xr,.int .i64 s,.bool true,.slice va 0 vc] _ rfl (by simp [Value.oneCell'])) (by omega) (by unfold maxLen;omega) ?_;intro a9 c9 w9 O9 hb9) | ((with_reducible show wpList _ _ _ _ _ _);refine wpList_lit_one (o:=⟨some 67,_,_,_,_,_⟩) rfl 32 (.tmp 66) rfl sl_ver (cs:=[.int .i64 xr,.int .i64 s,.bool true,.slice va 0 vc]) rfl rfl (by omega) (by omega) ?_))
    go_roundg (m - (k+1))
    case measure=>omega
    case rel=>exact ⟨k+1,a9,c9,by omega,by omega,by go_num,rfl,rfl,⟨_,by rw [HVV.out,recC_append,show n+(k+1)=n+k+1 from rfl];simpa [recC,VerP.enc,hxl.out] using O9.drop 2,(B5.out.alloc B5.out.size _).trans hb9,HKL2.out⟩⟩
   | false =>
    generalize hxn:xl.length=xn at *
    have hxl:=Box.mk hxn
    clear hxn
    go_wp2_with (first | (at_builtin;refine wpList_append_O rfl _ _ 32 32 rfl sl_ver (.inl sl_ver.ht) (O5.out.alloc _) 0 rfl rfl rfl (Src.lone w5 [.int .i64 xr,.int .i64 s,.bool false,.slice va xn vc] _ rfl (by simp [Value.oneCell'])) (by omega) (by unfold maxLen;omega) ?_;intro a9 c9 w9 O9 hb9) | ((with_reducible show wpList _ _ _ _ _ _);refine wpList_lit_one (o:=⟨some 67,_,_,_,_,_⟩) rfl 32 (.tmp 66) rfl sl_ver (cs:=[.int .i64 xr,.int .i64 s,.bool false,.slice va xn vc]) rfl rfl (by omega) (by omega) ?_))
    go_roundg (m - (k+1))
    case measure=>omega
    case rel=>exact ⟨k+1,a9,c9,by omega,by omega,by go_num,rfl,rfl,⟨_,by rw [HVV.out,recC_append,show n+(k+1)=n+k+1 from rfl];simpa [recC,VerP.enc,hxl.out] using O9.drop 2,(B5.out.alloc B5.out.size _).trans hb9,HKL2.out⟩⟩
  ·obtain rfl:k=m:=by omega
   have HTK:=Box.mk (show ws.take k=ws from List.take_of_length_le (by rw [HL.out.2];exact Nat.le_refl _))
   have HN:=Box.mk (show (vs++ws.map fun x=>x.ver s).length=n+k from by rw [List.length_append,List.length_map,HL.out.1,HL.out.2])
   rw [HTK.out] at HI
   have HO:=Box.mk (ordered_any (Rd.ofOwn (HI.out.1.row 0 rfl)) (by omega))
   go_wp2_with fail
   refine HO.out.mono ?_
   rintro e w4 ⟨hb4,ys,a4,c4,hys,rfl,hrow⟩
   have HF:=Box.mk (And.intro (HI.out.2.1.trans (hb4.mono HI.out.1.1)) (And.intro hys (own_base hrow HI.out.1.1)))
   clear hb4 hys hrow HO HI
   go_wp2_with fail
   go_ret2
   exact ⟨HF.out.1,ys,a4,c4,HF.out.2.1,rfl,HF.out.2.2⟩
end
section
open Go.RowKit
def grsT (com:List (List WrP)) (t:Int):List (List VerP):=(rows4.map fun r=>colV com (t,r)).filter fun g=>!g.isEmpty
theorem flatten_ne {α:Type} (L:List (List α)):(L.filter fun g=>!g.isEmpty).flatten=L.flatten:=by
 induction L with
 | nil=>rfl
 | cons g L ih =>
  cases g with
  | nil=>simpa using ih
  | cons x g=>simp [ih]
theorem grsT_flatten (com:List (List WrP)) (t:Int):(grsT com t).flatten=verT com t:=by
 unfold grsT verT
 rw [flatten_ne,List.flatMap_def]
theorem grsT_mem {com:List (List WrP)} {t:Int} {g:List VerP} (h:g∈grsT com t):∃r∈rows4,g=colV com (t,r)∧g≠[]:=by
 unfold grsT at h
 obtain ⟨h1,h2⟩:=List.mem_filter.1 h
 obtain ⟨r,hr,rfl⟩:=List.mem_map.1 h1
 exact ⟨r,hr,rfl,by intro e;rw [e] at h2;simp at h2⟩
theorem colV_rowG {com:List (List WrP)} {t r:Int} (h:colV com (t,r)≠[]):rowG (colV com (t,r))=r:=by
 unfold rowG
 refine (colV_row (com:=com) (t:=t) ?_).1
 exact getD_mem (List.length_pos_iff.2 h)
theorem rowG_lt {com:List (List WrP)} {t:Int}:∀ {R:List Int},R.Pairwise (·<·)→((R.map fun r=>colV com (t,r)).filter fun g=>!g.isEmpty).Pairwise (fun a b=>rowG a<rowG b)
 | [],_=>List.Pairwise.nil
 | r::R,h=>by
  obtain ⟨h1,h2⟩:=List.pairwise_cons.1 h
  rw [List.map_cons]
  by_cases he:colV com (t,r)=[]
  ·rw [he];simpa using rowG_lt h2
  ·rw [List.filter_cons_of_pos (by cases hc:colV com (t,r) with | nil=>exact absurd hc he | cons x l=>rfl)]
   refine List.pairwise_cons.2 ⟨fun g hg=>?_,rowG_lt h2⟩
   obtain ⟨k1,k2⟩:=List.mem_filter.1 hg
   obtain ⟨r',hr',rfl⟩:=List.mem_map.1 k1
   rw [colV_rowG he,colV_rowG (by intro e;rw [e] at k2;simp at k2)]
   exact h1 r' hr'
theorem grsT_ok (com:List (List WrP)) (t:Int):GrsOk (grsT com t):=by
 refine ⟨fun g hg=>?_,fun g hg v hv=>?_,fun k hk=>?_⟩
 ·obtain ⟨r,_,_,h⟩:=grsT_mem hg;exact h
 ·obtain ⟨r,_,rfl,h⟩:=grsT_mem hg
  rw [colV_rowG h,(colV_row hv).1]
 ·have h:=List.pairwise_iff_getElem.1 (rowG_lt (com:=com) (t:=t) (R:=rows4) (by decide)) k (k+1) (by unfold grsT at hk;omega) hk (by omega)
  have h1:(grsT com t).getD k []=(grsT com t)[k]'(by omega):=by rw [List.getD_eq_getElem?_getD,List.getElem?_eq_getElem (by omega)];rfl
  have h2:(grsT com t).getD (k+1) []=(grsT com t)[k+1]:=by rw [List.getD_eq_getElem?_getD,List.getElem?_eq_getElem hk];rfl
  rw [h1,h2]
  intro e
  have h3:rowG (grsT com t)[k]<rowG (grsT com t)[k+1]:=h
  omega
theorem grsT_asc {com:List (List WrP)} {t:Int}:∀g∈grsT com t,g.Pairwise (fun a b=>a.stamp<b.stamp):=by
 intro g hg
 obtain ⟨r,_,rfl,_⟩:=grsT_mem hg
 exact colV_lt com (t,r)
theorem colW_len (com:List (List WrP)) (q:Int×Int):(colW com q).length≤com.length:=by
 unfold colW
 exact Nat.le_trans (List.length_filterMap_le _ _) (by simp)
theorem grsT_len {com:List (List WrP)} {t:Int}:(∀g∈grsT com t,g.length≤com.length)∧(grsT com t).length≤4:=by
 refine ⟨fun g hg=>?_,?_⟩
 ·obtain ⟨r,_,rfl,_⟩:=grsT_mem hg
  unfold colV
  rw [List.length_map];exact colW_len com (t,r)
 ·exact Nat.le_trans (List.length_filter_le _ _) (by simp [rows4])
theorem verT_len (com:List (List WrP)) (t:Int):(verT com t).length≤4 * com.length:=by
 have h:∀r,(colV com (t,r)).length≤com.length:=fun r=>by unfold colV;rw [List.length_map];exact colW_len com (t,r)
 unfold verT rows4
 simp only [List.flatMap_cons,List.flatMap_nil,List.length_append,List.length_nil]
 have h1:=h 1
 have h2:=h 2
 have h3:=h 3
 have h4:=h 4
 omega
theorem pick_col (com:List (List WrP)) (q:Int×Int) (k:Nat):pickG k (colV com q)=seeV com k q:=by
 unfold pickG seeV lastC colV
 rw [colW_take,List.filter_map,List.getLast?_map]
 have e:((fun v:VerP=>decide (v.stamp≤(k:Int))) ∘ fun p:WrP×Int=>p.1.ver p.2)=fun p:WrP×Int=>decide (p.2≤(k:Int)):=by funext p;rfl
 rw [e]
 cases ((colW com q).filter fun p=>decide (p.2≤(k:Int))).getLast? with
 | none=>rfl
 | some p=>rfl
theorem fm_ne {f:List VerP→Option VerP} (h0:f []=none) (L:List (List VerP)):(L.filter fun g=>!g.isEmpty).filterMap f=L.filterMap f:=by
 induction L with
 | nil=>rfl
 | cons g L ih =>
  cases g with
  | nil=>rw [List.filterMap_cons,h0];simpa using ih
  | cons x g=>rw [List.filter_cons_of_pos (by rfl),List.filterMap_cons,List.filterMap_cons,ih]
theorem grsT_pick (com:List (List WrP)) (t:Int) (k:Nat):(grsT com t).filterMap (pickG k)=rowsT com t k:=by
 unfold grsT rowsT
 rw [fm_ne (by rfl),List.filterMap_map]
 exact congrArg (fun f=>List.filterMap f rows4) (funext fun r=>pick_col com (t,r) k)
theorem verT_uniq {com:List (List WrP)} {t:Int}:∀ys:List VerP,ys.Perm (verT com t)→ys.Pairwise (Le2 VerP.row VerP.stamp)→ys=(grsT com t).flatten:=by
 intro ys hp ho
 rw [grsT_flatten]
 have hl:=verT_lt com t
 refine perm_sorted_eq hp ho (verLt_le2 hl) (fun a ha b hb h1 h2=>?_)
 have ha':=hp.mem_iff.1 ha
 have hb':=hp.mem_iff.1 hb
 unfold Le2 at h1 h2
 clear hp ho
 generalize verT com t=L at ha' hb' hl
 induction L with
 | nil=>cases ha'
 | cons c L ih =>
  obtain ⟨h3,h4⟩:=List.pairwise_cons.1 hl
  rcases List.mem_cons.1 ha' with ea | ha2
  ·rcases List.mem_cons.1 hb' with eb | hb2
   ·rw [ea,eb]
   ·have:=h3 b hb2;rw [← ea] at this;omega
  ·rcases List.mem_cons.1 hb' with eb | hb2
   ·have:=h3 a ha2;rw [← eb] at this;omega
   ·exact ih ha2 hb2 h4
theorem rowsT_any {com:List (List WrP)} {t:Int} {a:Option Addr} {n c:Nat} {w:World} (hr:Rd w a n c 4 (recC VerP.enc (verT com t))) (hc:com.length≤1000) (k:Nat) :
  Calls Tryz.prog 29 #[.slice a n c,.int .i64 k] w (RetOwn 93 4 (rowsT com t k).length (recC VerP.enc (rowsT com t k)) w):=by
 have hln:=hr.rlen VerP.enc_len (by omega)
 have h1:=verT_len com t
 rw [← grsT_pick]
 exact rows_any hr (by omega) (grsT_ok com t) verT_uniq grsT_asc (fun g hg=>Nat.le_trans (grsT_len.1 g hg) (by omega)) (Nat.le_trans grsT_len.2 (by omega)) k
theorem lastV_le {l:List VerP} {m:Int} (hm:0≤m) (h:∀v∈l,v.stamp≤m):lastV l≤m:=by
 unfold lastV
 have key:∀ (l:List VerP) (a:Int),a≤m→(∀v∈l,v.stamp≤m)→l.foldl (fun m v=>max m v.stamp) a≤m:=by
  intro l
  induction l with
  | nil=>intro a ha _;exact ha
  | cons v l ih=>intro a ha h;exact ih _ (Int.max_le.2 ⟨ha,h v (by simp)⟩) (fun u hu=>h u (by simp [hu]))
 exact key l 0 hm h
theorem addT_any {com:List (List WrP)} {ws:List WrP} (ok:WsOk ws) {t:Int} {a wa:Option Addr} {n c m wc:Nat} {w:World} (hr:Rd w a n c 4 (recC VerP.enc (verT com t))) (hw:Rd w wa m wc 4 (recC WrP.enc (ws.filter fun x=>decide (x.table=t)))) (hc:com.length≤1000) :
  Calls Tryz.prog 54 #[.slice a n c,.int .i64 ((com.length:Int)+1),.slice wa m wc] w (fun e w'=>Below w.heap.size w w'∧∃ (a:Option Addr) (c:Nat),e=.returned (.tuple #[.slice a (verT (com++[ws]) t).length c,.int .i64 0])∧w'.ownsRow w.heap.size 93 4 (.slice a (verT (com++[ws]) t).length c) (verT (com++[ws]) t).length (recC VerP.enc (verT (com++[ws]) t))):=by
 have hln:=hr.rlen VerP.enc_len (by omega)
 have hlm:=hw.rlen WrP.enc_len (by omega)
 have h1:=verT_len com t
 have hf:(ws.filter fun x=>decide (x.table=t)).length≤8:=by
  refine Nat.le_trans (List.length_filter_le _ _) ?_
  have hn:(ws.map WrP.key).Nodup:=by
   have h2:=ok.lt
   unfold List.Nodup
   rw [List.pairwise_map]
   exact h2.imp fun {a b} h e=>by rw [e] at h;omega
  have h3:=nodup_len hn (m:=spots) (fun q hq=>by
   obtain ⟨x,hx,rfl⟩:=List.mem_map.1 hq
   exact ok.spot x hx)
  rw [List.length_map] at h3
  exact h3
 have hlt:((ws.filter fun x=>decide (x.table=t)).map WrP.row).Pairwise (·<·):=by
  have h2:=addV_lt ok t 0
  unfold addV at h2
  rw [List.pairwise_map] at h2
  rw [List.pairwise_map]
  exact h2
 refine (add_any hr hw (s:=(com.length:Int)+1) ?_ (by omega) (by omega) (by omega) (fun x hx=>?_) ?_ (fun x hx=>ok.dead x (List.mem_filter.1 hx).1)).mono ?_
 ·have:=lastV_le (l:=verT com t) (m:=com.length) (by omega) (fun v hv=>(verT_stamp hv).2.1)
  omega
 ·have:=spots_iff.1 (ok.spot x (List.mem_filter.1 hx).1)
  exact ⟨this.2.2.1,this.2.2.2⟩
 ·exact hlt.imp fun {a b} h e=>by omega
 ·rintro e w' ⟨hb,ys,a,c,⟨ho,hp⟩,rfl,hrow⟩
  obtain rfl:=verT_add ok (t:=t) hp ho
  exact ⟨hb,a,c,rfl,hrow⟩
end
end Go.Proofs.YtlfghapllmaigaaGreatDoor
namespace Go.Proofs.YtlfghapllmaigaaGreatDoor.Gr
structure Nd where
 tx:Int
 words:Int
 tick:Int
deriving DecidableEq,Inhabited
structure GS where
 most:Int
 room:Int
 delay:Int
 stamp:Int
 q:List Nd
 opn:Bool
 first:Int
 txs:List Int
def GS.sumW (S:GS) (i:Nat):Int:=((S.q.take i).map Nd.words).sum
theorem GS.sumW_zero (S:GS):S.sumW 0=0:=by simp [GS.sumW]
theorem GS.sumW_succ (S:GS) (i:Nat) (h:i<S.q.length):S.sumW (i+1)=S.sumW i+(S.q.getD i default).words:=by
 unfold GS.sumW
 have e:S.q.getD i default=S.q[i]:=by rw [List.getD_eq_getElem?_getD,List.getElem?_eq_getElem h];rfl
 rw [List.take_succ_eq_append_getElem h,e,List.map_append,List.sum_append,List.map_cons,List.map_nil,List.sum_cons,List.sum_nil,Int.add_zero]
def GS.goes (S:GS) (i:Nat):Bool:=decide (i<S.q.length)&&decide ((i:Int)<S.most)&&decide (S.sumW i+(S.q.getD i default).words≤S.room)
def GS.frontFrom (S:GS):Nat→Nat→Nat
 | 0,i=>i
 | f+1,i=>if S.goes i then S.frontFrom f (i+1) else i
def GS.front (S:GS):Nat:=S.frontFrom S.q.length 0
theorem GS.goes_lt {S:GS} {i:Nat} (h:S.goes i=true):i<S.q.length:=by
 unfold GS.goes at h;simp at h;exact h.1.1
theorem GS.frontFrom_is (S:GS):∀ (f i k:Nat),i≤k→(∀j,i≤j→j<k→S.goes j=true)→S.goes k=false→k≤i+f→S.frontFrom f i=k
 | 0,i,k,h1,_,_,h4=>by unfold GS.frontFrom;omega
 | f+1,i,k,h1,h2,h3,h4=>by
  unfold GS.frontFrom
  by_cases he:i=k
  ·subst he;rw [h3];rfl
  ·rw [h2 i (Nat.le_refl _) (by omega)]
   exact S.frontFrom_is f (i+1) k (by omega) (fun j h5 h6=>h2 j (by omega) h6) h3 (by omega)
theorem GS.front_is (S:GS) {k:Nat} (h2:∀j,j<k→S.goes j=true) (h3:S.goes k=false):S.front=k:=by
 refine S.frontFrom_is S.q.length 0 k (Nat.zero_le _) (fun j _ h=>h2 j h) h3 ?_
 by_cases h0:k=0
 ·omega
 ·have:=GS.goes_lt (h2 (k - 1) (by omega));omega
theorem GS.front_exists (S:GS):∃k,(∀j,j<k→S.goes j=true)∧S.goes k=false∧k≤S.q.length:=by
 have h:∀n,(∀j,j<n→S.goes j=true)∨∃k,k<n∧(∀j,j<k→S.goes j=true)∧S.goes k=false:=by
  intro n
  induction n with
  | zero=>exact .inl (fun j h=>by omega)
  | succ n ih =>
   rcases ih with h | ⟨k,hk,h⟩
   ·cases hg:S.goes n
    ·exact .inr ⟨n,by omega,h,hg⟩
    ·refine .inl (fun j hj=>?_)
     by_cases e:j=n
     ·subst e;exact hg
     ·exact h j (by omega)
   ·exact .inr ⟨k,by omega,h⟩
 rcases h (S.q.length+1) with h | ⟨k,hk,h1,h2⟩
 ·have:=GS.goes_lt (h S.q.length (by omega));omega
 ·exact ⟨k,h1,h2,by omega⟩
theorem GS.front_le (S:GS):S.front≤S.q.length:=by
 obtain ⟨k,h1,h2,h3⟩:=S.front_exists
 rw [S.front_is h1 h2];exact h3
theorem GS.front_goes (S:GS):(∀j,j<S.front→S.goes j=true)∧S.goes S.front=false:=by
 obtain ⟨k,h1,h2,h3⟩:=S.front_exists
 rw [S.front_is h1 h2];exact ⟨h1,h2⟩
def GS.due (S:GS) (tick:Int):Bool:=!S.opn&&decide (0<S.q.length)&&(decide ((S.front:Int)=S.most)||decide (S.front<S.q.length)||decide ((S.q.getD 0 default).tick+S.delay≤tick))
def GS.ask (S:GS) (tx words tick:Int):GS×Int :=
 if words<1∨tick<0∨1099511627776<tick then (S,1)
 else if tx∈S.q.map Nd.tx∨tx∈S.txs then (S,6)
 else if S.room<words∨1073741824<S.stamp+S.q.length then (S,2)
 else ({ S with q:=S.q++[⟨tx,words,tick⟩] },0)
def GS.cut (S:GS):GS:={ S with q:=S.q.drop S.front,stamp:=S.stamp+S.front,opn:=true,first:=S.stamp,txs:=(S.q.take S.front).map Nd.tx }
def GS.done (S:GS):GS:={ S with opn:=false,first:=0,txs:=[] }
structure GS.OK (S:GS):Prop where
 most:1≤S.most∧S.most≤64
 room:1≤S.room∧S.room≤1048576
 delay:0≤S.delay∧S.delay≤1048576
 stamp:1≤S.stamp∧S.stamp+S.q.length≤1073741825
 q:∀n∈S.q,(1≤n.words∧n.words≤S.room)∧(0≤n.tick∧n.tick≤1099511627776)∧(-9223372036854775808≤n.tx∧n.tx≤9223372036854775807)
 first:0≤S.first∧S.first≤1073741825
 txs:S.txs.length≤64∧∀x∈S.txs,-9223372036854775808≤x∧x≤9223372036854775807
 nodup:(S.q.map Nd.tx).Nodup
def GS.new (most room delay next:Int):GS:=⟨most,room,delay,next,[],false,0,[]⟩
def right (most room delay next:Int):Bool:=decide (1≤most∧most≤64∧1≤room∧room≤1048576∧0≤delay∧delay≤1048576∧1≤next∧next≤1073741824)
theorem GS.new_ok {most room delay next:Int} (h:right most room delay next=true):(GS.new most room delay next).OK:=by
 have h':=of_decide_eq_true h
 exact ⟨by simp [GS.new];omega,by simp [GS.new];omega,by simp [GS.new];omega,by simp [GS.new];omega,by simp [GS.new],by simp [GS.new],by simp [GS.new],by simp [GS.new]⟩
theorem GS.ask_ok {S:GS} (h:S.OK) {tx words tick:Int} (ht:-9223372036854775808≤tx∧tx≤9223372036854775807):(S.ask tx words tick).1.OK:=by
 unfold GS.ask
 split
 ·exact h
 ·split
  ·exact h
  ·split
   ·exact h
   ·rename_i h1 h2 h3
    refine ⟨h.most,h.room,h.delay,?_,?_,h.first,h.txs,?_⟩
    ·have:=h.stamp;simp;omega
    ·intro n hn
     simp only [List.mem_append,List.mem_singleton] at hn
     rcases hn with hn | rfl
     ·exact h.q n hn
     ·simp;omega
    ·simp only [List.map_append,List.map_cons,List.map_nil]
     rw [List.nodup_append]
     refine ⟨h.nodup,by simp,fun a ha b hb e=>?_⟩
     simp only [List.mem_singleton] at hb
     subst hb;subst e
     exact h2 (.inl ha)
theorem GS.front_most {S:GS} (h:S.OK):(S.front:Int)≤S.most:=by
 by_cases h0:S.front=0
 ·have:=h.most;omega
 ·have:=S.front_goes.1 (S.front - 1) (by omega)
  unfold GS.goes at this;simp at this;omega
theorem GS.cut_ok {S:GS} (h:S.OK):S.cut.OK:=by
 have hf:=S.front_le
 have hm:=GS.front_most h
 refine ⟨h.most,h.room,h.delay,?_,fun n hn=>h.q n (List.mem_of_mem_drop hn),?_,?_,?_⟩
 ·have:=h.stamp;simp [GS.cut];omega
 ·have:=h.stamp;simp [GS.cut];omega
 ·refine ⟨by have:=h.most;simp [GS.cut];omega,fun x hx=>?_⟩
  simp only [GS.cut,List.mem_map] at hx
  obtain ⟨n,hn,rfl⟩:=hx
  exact (h.q n (List.mem_of_mem_take hn)).2.2
 ·simp only [GS.cut,List.map_drop]
  exact h.nodup.sublist (List.drop_sublist _ _)
theorem GS.done_ok {S:GS} (h:S.OK):S.done.OK:=⟨h.most,h.room,h.delay,h.stamp,h.q,by simp [GS.done],by simp [GS.done],h.nodup⟩
end Go.Proofs.YtlfghapllmaigaaGreatDoor.Gr
