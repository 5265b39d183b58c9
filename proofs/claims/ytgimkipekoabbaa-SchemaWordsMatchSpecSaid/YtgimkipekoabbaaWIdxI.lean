/-
  The walks of IndexFunc, ContainsFunc and repeated at lists of indexes. No condition.
-/
import Derived.Test.YtgimkipekoabbaaWIdxC
namespace Go.Proofs.Ytgimkipekoabbaa
open Go.RowKit

set_option maxRecDepth 20000 in
set_option maxHeartbeats 2000000 in
theorem iidx_any (p : IxP → Bool) (g : Nat) (lb : Array Value) (eg : ∀ args w, (callFunc g args).run Try.prog w = .ok (.enter g args) w) (zs : List IxP) (a : Option Addr) (n cap : Nat) (w : World)
    (hr : Rd w a n cap 3 (recC IxP.enc zs)) (hp : PredB g lb IxP.v p w) :
    Calls Try.prog 63 #[.slice a n cap, .func (.func g) #[] lb] w (RetV (.int .i64 (idxP p zs)) w) := by
  have hln := hr.rlen IxP.enc_len (by omega)
  have hmax := hr.lenMax
  have R := Box.mk hr; clear hr
  have HP := Box.mk hp; clear hp
  go_enter Try.func63, Try.ntmps63
  go_wp2_with fail
  go_loopg [5, 8] n (fun gg _ s8 wr => ∃ k : Nat, k ≤ n ∧ n - k ≤ gg ∧ s8 = .int .i64 k ∧ Box (Below w.heap.size w wr) ∧ Box (∀ j, j < k → p (zs.getD j default) = false))
  case atStart => exact ⟨0, Nat.zero_le _, by omega, rfl, ⟨Below.refl _ w⟩, ⟨fun j hj => by omega⟩⟩
  case round =>
    obtain ⟨k, hk, hg, rfl, BW, A⟩ := hrel
    by_cases hlt : k < n
    · obtain ⟨b, off, rfl, hb, hc⟩ := (R.out.below BW.out (Nat.le_refl _)).recAt IxP.enc_len (by omega) k hlt
      have hcall := HP.out wr (zs.getD k default) BW.out
      cases hq : p (zs.getD k default) with
      | true =>
        have HI := Box.mk (idxP_hit (p := p) (l := zs) (k := k) A.out (by omega) hq)
        rw [hq] at hcall
        generalize zs.getD k default = y at *
        obtain ⟨⟨nm, kd, nl⟩, ya, yc⟩ := y
        have c0 := hc 0 _ rfl
        have c1 := hc 1 _ rfl
        have c2 := hc 2 _ rfl
        clear hc hq
        simp only [IxP.v, Nat.add_zero] at hcall c0 c1 c2
        go_wp2_with fail
        refine hcall.mono ?_
        rintro e w' ⟨rfl, hb'⟩
        clear hcall
        go_wp2_with fail
        go_ret
        exact ⟨by rw [HI.out]; rfl, BW.out.trans (hb'.mono BW.out.size)⟩
      | false =>
        have HI := Box.mk (show ∀ j, j < k + 1 → p (zs.getD j default) = false from fun j hj => by
          by_cases e : j = k
          · subst e; exact hq
          · exact A.out j (by omega))
        rw [hq] at hcall
        generalize zs.getD k default = y at *
        obtain ⟨⟨nm, kd, nl⟩, ya, yc⟩ := y
        have c0 := hc 0 _ rfl
        have c1 := hc 1 _ rfl
        have c2 := hc 2 _ rfl
        clear hc hq
        simp only [IxP.v, Nat.add_zero] at hcall c0 c1 c2
        go_wp2_with fail
        refine hcall.mono ?_
        rintro e w' ⟨rfl, hb'⟩
        clear hcall
        go_wp2_with fail
        go_roundg (n - (k + 1))
        case measure => omega
        case rel => exact ⟨k + 1, by omega, by omega, by go_num, ⟨BW.out.trans (hb'.mono BW.out.size)⟩, HI⟩
    · have hkn : k = n := by omega
      have HI := Box.mk (idxP_miss (p := p) (l := zs) (fun j hj => A.out j (by omega)))
      go_wp2_with fail
      go_ret
      exact ⟨by rw [HI.out]; rfl, BW.out⟩

set_option maxRecDepth 20000 in
set_option maxHeartbeats 2000000 in
theorem icontains_any (p : IxP → Bool) (g : Nat) (lb : Array Value) (eg : ∀ args w, (callFunc g args).run Try.prog w = .ok (.enter g args) w) (zs : List IxP) (a : Option Addr) (n cap : Nat) (w : World)
    (hr : Rd w a n cap 3 (recC IxP.enc zs)) (hp : PredB g lb IxP.v p w) :
    Calls Try.prog 80 #[.slice a n cap, .func (.func g) #[] lb] w (RetV (.bool (zs.any p)) w) := by
  have HC := Box.mk (iidx_any p g lb eg zs a n cap w hr hp)
  have HD := idxP_nonneg p zs
  generalize idxP p zs = i at *
  generalize zs.any p = d at *
  go_enter Try.func80, Try.ntmps80
  go_wp2_with fail
  refine HC.out.mono ?_
  rintro e w1 ⟨rfl, hb⟩
  go_wp2_with fail
  go_ret
  exact ⟨by first | rfl | rw [HD], hb⟩

/-- The literal in Check: two indexes of one name. -/
theorem isame_any (x y : IxP) (w : World) : Calls Try.prog 47 #[x.v, y.v] w (RetV (.bool (x.x.name == y.x.name)) w) := by
  obtain ⟨⟨n1, k1, u1⟩, a1, p1⟩ := x
  obtain ⟨⟨n2, k2, u2⟩, a2, p2⟩ := y
  unfold IxP.v
  generalize hd : (n1 == n2) = d
  go_enter Try.func47, Try.ntmps47
  go_wp2_with fail
  go_ret
  exact ⟨by rw [← hd]; rfl, ((Below.refl _ _).alloc (Nat.le_refl _) _).alloc (by simp) _⟩

set_option maxRecDepth 20000 in
set_option maxHeartbeats 2000000 in
/-- The literal in repeated. -/
theorem irep1_any (zs : List IxP) (i : Nat) (a : Option Addr) (n cap : Nat) (bf bl bi : Nat) (w : World) (hr : Rd w a n cap 3 (recC IxP.enc zs)) (hi : i < n)
    (hf : w.cell? ⟨bf, 0, none⟩ = some (.func (.func 47) #[] #[])) (hl : w.cell? ⟨bl, 0, none⟩ = some (.slice a n cap)) (hii : w.cell? ⟨bi, 0, none⟩ = some (.int .i64 i)) :
    PredB 81 #[.pointer (some ⟨bf, 0, none⟩), .pointer (some ⟨bl, 0, none⟩), .pointer (some ⟨bi, 0, none⟩)] IxP.v (fun x => x.x.name == (zs.getD i default).x.name) w := by
  intro W x hb
  have f1 := cell_block_lt hf
  have f2 := cell_block_lt hl
  have f3 := cell_block_lt hii
  have g1 := (hb.cell (p := ⟨bf, 0, none⟩) f1).trans hf
  have g2 := (hb.cell (p := ⟨bl, 0, none⟩) f2).trans hl
  have g3 := (hb.cell (p := ⟨bi, 0, none⟩) f3).trans hii
  have hs := hb.size
  have hz1 : bf < W.heap.size := by simp only at f1; omega
  have hz2 : bl < W.heap.size := by simp only at f2; omega
  have hz3 : bi < W.heap.size := by simp only at f3; omega
  obtain ⟨b, off, rfl, hg, hc⟩ := (hr.below hb (Nat.le_refl _)).recAt IxP.enc_len (by omega) i hi
  have hmax := hr.lenMax
  clear hr hf hl hii hb f1 f2 f3 hs
  have HC := Box.mk (fun W => isame_any x (zs.getD i default) W)
  show Calls _ _ _ _ (RetV (.bool (x.x.name == (zs.getD i default).x.name)) W)
  generalize zs.getD i default = y at *
  obtain ⟨⟨n1, k1, u1⟩, a1, p1⟩ := x
  obtain ⟨⟨n2, k2, u2⟩, a2, p2⟩ := y
  have c0 := hc 0 _ rfl
  have c1 := hc 1 _ rfl
  have c2 := hc 2 _ rfl
  clear hc
  simp only [IxP.v, Nat.add_zero] at HC c0 c1 c2 ⊢
  generalize (n1 == n2) = d at *
  simp only [List.append_toArray, List.cons_append, List.nil_append] 
  go_enter Try.func81, Try.ntmps81
  go_wp2_with fail
  have x0 := cell_block_lt c0
  have e1 := Lib.cell?_alloc_some (.cells #[.string ⟨n1.toArray⟩, .slice a1 k1.length p1, .bool u1] 55) g1
  have e2 := Lib.cell?_alloc_some (.cells #[.string ⟨n1.toArray⟩, .slice a1 k1.length p1, .bool u1] 55) g2
  have e3 := Lib.cell?_alloc_some (.cells #[.string ⟨n1.toArray⟩, .slice a1 k1.length p1, .bool u1] 55) g3
  have d0 := Lib.cell?_alloc_some (.cells #[.string ⟨n1.toArray⟩, .slice a1 k1.length p1, .bool u1] 55) c0
  have d1 := Lib.cell?_alloc_some (.cells #[.string ⟨n1.toArray⟩, .slice a1 k1.length p1, .bool u1] 55) c1
  have d2 := Lib.cell?_alloc_some (.cells #[.string ⟨n1.toArray⟩, .slice a1 k1.length p1, .bool u1] 55) c2
  have hB := Blk.new (w := W) (k := W.heap.size) (ty := 55) (cs := [.string ⟨n1.toArray⟩, .slice a1 k1.length p1, .bool u1]) rfl rfl
  have y0 := hB.cellOf (i := 0) rfl
  have y1 := hB.cellOf (i := 1) rfl
  have y2 := hB.cellOf (i := 2) rfl
  have BA := Box.mk ((Below.refl W.heap.size W).alloc (Nat.le_refl _) (.cells #[.string ⟨n1.toArray⟩, .slice a1 k1.length p1, .bool u1] 55))
  clear hB g1 g2 g3 c0 c1 c2 x0 hz1 hz2 hz3 hg
  generalize (W.alloc (.cells #[.string ⟨n1.toArray⟩, .slice a1 k1.length p1, .bool u1] 55)) = W1 at *
  have BS := Box.mk BA.out.size
  generalize hQ : RetV (.bool d) W = Q
  have HQ := Box.mk hQ
  clear hQ
  generalize hbb : W.heap.size = bb at *
  go_still_tail 6, (by kernel_rfl)
  change wpList _ _ _ _ _ (World.drew _)
  go_wp2_with fail
  refine (HC.out _).mono ?_
  rintro e w' ⟨rfl, hb'⟩
  clear HC
  go_wp2_with fail
  go_ret
  first | rw [← HQ.out] | skip
  refine ⟨rfl, ?_⟩
  rw [hbb]
  exact BA.out.drew.trans (hb'.mono BS.out)

set_option maxRecDepth 20000 in
set_option maxHeartbeats 2000000 in
theorem irepeated_any (zs : List IxP) (i : Nat) (a : Option Addr) (n cap : Nat) (w : World) (hr : Rd w a n cap 3 (recC IxP.enc zs)) (hi : i < n) :
    Calls Try.prog 46 #[.slice a n cap, .int .i64 i, .func (.func 47) #[] #[]] w (RetV (.bool (ixTwice (zs.map (·.x)) i)) w) := by
  have hmf : ∀ (fn : Fn) (first cap : Array Value) (w : World), (Instr.makeFunc fn first cap).run Try.prog w = .ok (.func fn first cap) w := fun _ _ _ _ => rfl
  have hmax := hr.lenMax
  have hcap := hr.hcap
  have eg : ∀ args w, (callFunc 81 args).run Try.prog w = .ok (.enter 81 args) w := enters_fn Try.func81 (by kernel_rfl) (by kernel_rfl)
  have BA : Below w.heap.size w (((w.alloc (.cells #[.slice a n cap] 25)).alloc (.cells #[.int .i64 i] 3)).alloc (.cells #[.func (.func 47) #[] #[]] 69)) :=
    (((Below.refl _ _).alloc (Nat.le_refl _) _).alloc (by simp) _).alloc (by simp; omega) _
  have HE := Box.mk (show (zs.take i).any (fun x => x.x.name == (zs.getD i default).x.name) = ixTwice (zs.map (·.x)) i from by
    unfold ixTwice; rw [← List.map_take, List.any_map, getD_map_x]; simp only [name_beq]; rfl)
  have HC := Box.mk (icontains_any (fun x => x.x.name == (zs.getD i default).x.name) 81 #[.pointer (some ⟨w.heap.size + 1 + 1, 0, none⟩), .pointer (some ⟨w.heap.size, 0, none⟩), .pointer (some ⟨w.heap.size + 1, 0, none⟩)] eg (zs.take i) a i cap
    (((w.alloc (.cells #[.slice a n cap] 25)).alloc (.cells #[.int .i64 i] 3)).alloc (.cells #[.func (.func 47) #[] #[]] 69))
    (((hr.preK IxP.enc_len i (by omega)).alloc _).alloc _ |>.alloc _)
    (irep1_any zs i a n cap _ _ _ _ (((hr.alloc _).alloc _).alloc _) hi
      ((Blk.new (cs := [.func (.func 47) #[] #[]]) (by simp) rfl).cellOf (i := 0) rfl)
      ((((Blk.new (cs := [.slice a n cap]) rfl rfl).alloc _).alloc _).cellOf (i := 0) rfl)
      (((Blk.new (cs := [.int .i64 i]) (by simp) rfl).alloc _).cellOf (i := 0) rfl)))
  rw [HE.out] at HC
  generalize ixTwice (zs.map (·.x)) i = d at *
  clear HE hr
  go_enter Try.func46, Try.ntmps46
  go_wp2_with fail
  refine HC.out.mono ?_
  rintro e w1 ⟨rfl, hb⟩
  go_wp2_with fail
  go_ret
  exact ⟨rfl, BA.trans (hb.mono BA.size)⟩
end Go.Proofs.Ytgimkipekoabbaa
