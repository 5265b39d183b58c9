/-
  The walks of the check of a text: Add, Crc40. No condition.
-/
import Derived.Test.YtcngnpkpaliflaaDoorWNib
import Derived.OneCell
namespace Go.Proofs.YtcngnpkpaliflaaDoor
open Go.RowKit

theorem Tabs.drew {w : World} (h : Tabs w) : Tabs w.drew := ⟨h.nib, h.big⟩
theorem Tabs.setCell {w : World} (h : Tabs w) {p : Addr} (hp : 3 ≤ p.block) (u : Value) : Tabs (w.setCell p u) :=
  ⟨fun i hi => by rw [((Below.refl 3 w).setCell hp u).cell (p := ⟨1, i, none⟩) (by simp)]; exact h.nib i hi, by simpa [World.setCell] using h.big⟩

theorem nibble_i (r : BitVec 40) (n : Int) (h0 : 0 ≤ n) (h1 : n < 256) (w : World) (hT : Tabs w) :
    Calls Tryd.prog 41 #[.agg #[.int .u64 (r.toNat : Int)], .int .u8 n] w fun e w' => e = .returned (.agg #[.int .u64 ((stps r (bits4 (n.toNat % 16))).toNat : Int)]) ∧ Below w.heap.size w w' := by
  obtain ⟨k, rfl⟩ := Int.eq_ofNat_of_zero_le h0
  exact nibble_any r k (by omega) w hT

/-- A register in a block of its own. -/
def Reg (w : World) (g : Nat) (r : BitVec 40) : Prop := w.heap[g]? = some (.cells #[.int .u64 (r.toNat : Int)] 30 (0, 0))
theorem Reg.cell {w : World} {g : Nat} {r : BitVec 40} (h : Reg w g r) : w.cell? ⟨g, 0, none⟩ = some (.int .u64 (r.toNat : Int)) := cell_of_one h
theorem Reg.free {w : World} {g : Nat} {r : BitVec 40} (h : Reg w g r) : w.frozen? ⟨g, 0, none⟩ = false := free_of_one h
theorem Reg.below {w w' : World} {g : Nat} {r : BitVec 40} (h : Reg w g r) {B : Nat} (hb : Below B w w') (hB : w.heap.size ≤ B) : Reg w' g r := by
  unfold Reg at h ⊢
  rw [hb.block g (by have := lt_of_block h; omega)]; exact h
theorem Reg.set {w : World} {g : Nat} {r : BitVec 40} (h : Reg w g r) (s : BitVec 40) : Reg (w.setCell ⟨g, 0, none⟩ (.int .u64 (s.toNat : Int))) g s := one_setCell h
theorem Reg.setOther {w : World} {g k : Nat} {r : BitVec 40} (h : Reg w g r) (hk : g ≠ k) (v : Value) : Reg (w.setCell ⟨k, 0, none⟩ v) g r := by
  unfold Reg at h ⊢
  rw [Below.heap_setCell _ _ _ _ (by simpa using hk)]; exact h

theorem Reg.two {w w1 w2 : World} {g : Nat} {r : BitVec 40} (h : Reg w g r) (hb1 : Below w.drew.heap.size w.drew w1) (hb2 : Below w1.heap.size w1 w2) : Reg w2 g r :=
  (Reg.below (w := w1) (Reg.below (w := w.drew) h hb1 (Nat.le_refl _)) hb2 (Nat.le_refl _))

theorem feed_take (s : ByteArray) (r : BitVec 40) (k : Nat) (h : k < s.size) :
    stps (stps (feed r (s.data.toList.take k)) (bits4 ((((s[k]).toNat : Int) / 16).toNat % 16))) (bits4 (((s[k]).toNat : Int).toNat % 16)) = feed r (s.data.toList.take (k + 1)) := by
  rw [List.take_succ_eq_append_getElem (by simpa using h), feed_snoc]
  have e : s.data.toList[k]'(by simpa using h) = s[k] := rfl
  have hlt : (s[k]).toNat < 256 := (s[k]).toNat_lt
  rw [e, bits8_split, stps_append, show (((s[k]).toNat : Int) / 16).toNat % 16 = (s[k]).toNat / 16 from by omega, Int.toNat_natCast]

set_option maxRecDepth 20000 in
set_option maxHeartbeats 4000000 in
theorem add_any (r : BitVec 40) (s : ByteArray) (w : World) (hs : s.size ≤ 1099511627776) (hT : Tabs w) :
    Calls Tryd.prog 20 #[.agg #[.int .u64 (r.toNat : Int)], .string s] w fun e w' => e = .returned (.agg #[.int .u64 ((feed r s.data.toList).toNat : Int)]) ∧ Below w.heap.size w w' := by
  have hbig := hT.big
  have T0 := (hT.alloc (.cells #[.int .u64 (r.toNat : Int)] 30)).alloc (.cells #[.int .u64 0] 30)
  go_enter Tryd.func20, Tryd.ntmps20
  go_wp2_with fail
  go_loopw [8] (fun i wr => ∃ k : Nat, k ≤ s.size ∧ i = .int .i64 k ∧ Reg wr w.heap.size (feed r (s.data.toList.take k)) ∧ Reg wr (w.heap.size + 1) 0#40 ∧ Below w.heap.size w wr ∧ Tabs wr)
    (fun i _ => s.size - (intOf i).toNat)
  case atStart => exact ⟨0, Nat.zero_le _, rfl, by unfold Reg; rw [Below.heap_alloc _ _ _ (by simp)]; exact heap_at rfl, by unfold Reg; exact heap_at (by simp), ((Below.refl _ _).alloc (Nat.le_refl _) _).alloc (by simp) _, T0⟩
  case round =>
    obtain ⟨k, hk, rfl, hR, hR2, hB, hTr⟩ := hrel
    obtain ⟨wo, rfl⟩ : ∃ wo : World, wo = wr := ⟨_, rfl⟩
    by_cases hlt : k < s.size
    · have hst := Lib.hid (feed_take s r k hlt)
      have hb8 : (s[k]).toNat < 256 := (s[k]).toNat_lt
      have hc := hR.cell
      go_wp2_with fail
      --REGION [1, 2, 3, 4, 6, 7, 8, (0,), (5, "refine (nibble_i _ _ (by omega) (by omega) _ hTr.drew).mono ?_", "rintro e w1 ⟨rfl, hb1⟩"), (9, "refine (nibble_i _ _ (by omega) (by omega) _ (hTr.drew.call0 hb1)).mono ?_", "rintro e w2 ⟨rfl, hb2⟩", "rw [hst.out]"), (10, "have hcc := (hR.two hb1 hb2).cell", "have hff := (hR.two hb1 hb2).free", "go_simp")]
      --BEGIN
      refine wp_region_any (by kernel_rfl) ?_
      (change wpAny _ _ _ _ _ _ _ (World.drew _))
      refine wpAny_take (i := 1) (v := ?_) rfl (by kernel_rfl) (by kernel_rfl) (by kernel_rfl) (fun _ _ _ h => h) (Or.inl ⟨by rfl, ?_⟩) ?_
      rotate_left
      · intro w
        go_simp
        all_goals with_reducible rfl
      refine wpAny_take (i := 2) (v := ?_) rfl (by kernel_rfl) (by kernel_rfl) (by kernel_rfl) (fun _ _ _ h => h) (Or.inl ⟨by rfl, ?_⟩) ?_
      rotate_left
      · intro w
        go_simp
        all_goals with_reducible rfl
      refine wpAny_take (i := 3) (v := ?_) rfl (by kernel_rfl) (by kernel_rfl) (by kernel_rfl) (fun _ _ _ h => h) (Or.inl ⟨by rfl, ?_⟩) ?_
      rotate_left
      · intro w
        go_simp
        all_goals with_reducible rfl
      refine wpAny_take (i := 4) (v := ?_) rfl (by kernel_rfl) (by kernel_rfl) (by kernel_rfl) (fun _ _ _ h => h) (Or.inl ⟨by rfl, ?_⟩) ?_
      rotate_left
      · intro w
        go_simp
        all_goals with_reducible rfl
      refine wpAny_take (i := 6) (v := ?_) rfl (by kernel_rfl) (by kernel_rfl) (by kernel_rfl) (fun _ _ _ h => h) (Or.inl ⟨by rfl, ?_⟩) ?_
      rotate_left
      · intro w
        go_simp
        all_goals with_reducible rfl
      refine wpAny_take (i := 7) (v := ?_) rfl (by kernel_rfl) (by kernel_rfl) (by kernel_rfl) (fun _ _ _ h => h) (Or.inl ⟨by rfl, ?_⟩) ?_
      rotate_left
      · intro w
        go_simp
        all_goals with_reducible rfl
      refine wpAny_take (i := 8) (v := ?_) rfl (by kernel_rfl) (by kernel_rfl) (by kernel_rfl) (fun _ _ _ h => h) (Or.inl ⟨by rfl, ?_⟩) ?_
      rotate_left
      · intro w
        go_simp
        all_goals with_reducible rfl
      refine wpAny_ready (rs := [0]) (by kernel_rfl) (by simp) (AllReady.cons rfl (fun K hK => ?_) AllReady.nil)
      go_simp
      refine hK _ _ ?_
      clear hK K
      refine wpAny_ready (rs := [5]) (by kernel_rfl) (by simp) (AllReady.cons rfl (fun K hK => ?_) AllReady.nil)
      go_simp
      refine (nibble_i _ _ (by omega) (by omega) _ hTr.drew).mono ?_
      rintro e w1 ⟨rfl, hb1⟩
      refine hK _ _ ?_
      clear hK K
      refine wpAny_ready (rs := [9]) (by kernel_rfl) (by simp) (AllReady.cons rfl (fun K hK => ?_) AllReady.nil)
      go_simp
      refine (nibble_i _ _ (by omega) (by omega) _ (hTr.drew.call0 hb1)).mono ?_
      rintro e w2 ⟨rfl, hb2⟩
      rw [hst.out]
      refine hK _ _ ?_
      clear hK K
      refine wpAny_ready (rs := [10]) (by kernel_rfl) (by simp) (AllReady.cons rfl (fun K hK => ?_) AllReady.nil)
      go_simp
      have hcc := (hR.two hb1 hb2).cell
      have hff := (hR.two hb1 hb2).free
      go_simp
      refine hK _ _ ?_
      clear hK K
      refine wpAny_done (by kernel_rfl) ?_ _
      --END
      go_wp2_with fail
      go_roundw
      case rel => exact ⟨k + 1, by omega, by go_num, (hR.two hb1 hb2).set _, (hR2.two hb1 hb2).setOther (by omega) _, ((hB.drew.call0 (Nat.le_refl _) hb1).call0 (Nat.le_refl _) hb2).setCell (Nat.le_refl _) _, ((hTr.drew.call0 hb1).call0 hb2).setCell hbig _⟩
      case measure => simp [intOf]; omega
    · have hkn : k = s.size := by omega
      subst hkn
      have hS := Lib.hid (show s.data.toList.take s.size = s.data.toList from List.take_of_length_le (by simp))
      rw [hS.out] at hR
      have hc := hR.cell
      have hc2 := hR2.cell
      have hf2 := hR2.free
      go_wp2_with fail
      exact bodyPost_ret (v := .agg #[.int .u64 ((feed r s.data.toList).toNat : Int)]) (results_cell1 (g := w.heap.size + 1) (cs := [.int .u64 ((feed r s.data.toList).toNat : Int)]) rfl _ rfl (hR2.set _) agg30) rfl ⟨rfl, hB.setCell (by simp) _⟩
end Go.Proofs.YtcngnpkpaliflaaDoor
