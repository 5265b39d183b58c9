/-
  The walk of schema.Name. No condition.
-/
import Derived.Test.YtgimkipekoabbaaResv
import Derived.Lib.ConvBytes
namespace Go.Proofs.Ytgimkipekoabbaa
open Go.RowKit

theorem nameB_parts (s : List UInt8) (h0 : s ≠ []) (h16 : s.length ≤ 16) (hr : reservedB s = false) (h97 : 97 ≤ (s.getD 0 0).toNat) : nameB s = s.all charB := by
  unfold nameB
  have : 0 < s.length := List.length_pos_iff.2 h0
  rw [decide_eq_true this, decide_eq_true h16, hr, decide_eq_true h97]
  simp

theorem bytesWorld_below {w : World} (e : TypeId) (s : ByteArray) : Below w.heap.size w (Lib.bytesWorld w e s) := by
  exact ⟨rfl, rfl, rfl, by rw [Lib.bytesWorld_size]; omega, fun k hk => Lib.bytesWorld_at_old w e s k hk⟩

theorem charB_true (c : UInt8) : charB c = true ↔ (97 ≤ (c.toNat : Int) ∧ (c.toNat : Int) ≤ 122) ∨ (48 ≤ (c.toNat : Int) ∧ (c.toNat : Int) ≤ 57) ∨ (c.toNat : Int) = 95 := by
  unfold charB letterB
  simp only [Bool.or_eq_true, decide_eq_true_eq]
  omega
theorem charB_false (c : UInt8) : charB c = false ↔ ((c.toNat : Int) < 97 ∨ 122 < (c.toNat : Int)) ∧ ((c.toNat : Int) < 48 ∨ 57 < (c.toNat : Int)) ∧ (c.toNat : Int) ≠ 95 := by
  have := charB_true c
  cases h : charB c
  · rw [h] at this; simp only [Bool.false_eq_true, false_iff] at this; simp only [true_iff]; omega
  · rw [h] at this; simp only [true_iff] at this; simp only [Bool.true_eq_false, false_iff]; omega

set_option maxRecDepth 20000 in
set_option maxHeartbeats 2000000 in
theorem name_any (s : List UInt8) (w : World) : Calls Try.prog 16 #[.string ⟨s.toArray⟩] w fun e w' => e = .returned (.bool (nameB s)) ∧ Below w.heap.size w w' := by
  have hz : (⟨s.toArray⟩ : ByteArray).size = s.length := str_size s
  have HR := Box.mk (reserved_any s w)
  generalize hB : nameB s = B
  have HB := Box.mk hB
  clear hB
  go_enter Try.func16, Try.ntmps16
  by_cases h0 : s = []
  · subst h0
    have : B = false := by rw [← HB.out]; rfl
    subst this
    go_wp2_with fail
    go_ret
    exact ⟨rfl, Below.refl _ _⟩
  have he : s.isEmpty = false := by cases s with | nil => exact absurd rfl h0 | cons _ _ => rfl
  by_cases h16 : 16 < s.length
  · have : B = false := by rw [← HB.out]; unfold nameB; rw [decide_eq_false (p := s.length ≤ 16) (by omega)]; simp
    subst this
    go_wp2_with fail
    go_ret
    exact ⟨rfl, Below.refl _ _⟩
  have H0 := Box.mk h0
  clear h0
  cases hr : reservedB s with
  | true =>
    have : B = false := by rw [← HB.out]; unfold nameB; rw [hr]; simp
    subst this
    rw [hr] at HR
    clear hr
    go_wp2_with fail
    refine HR.out.mono ?_
    rintro e w1 ⟨rfl, rfl⟩
    go_wp2_with fail
    go_ret
    exact ⟨rfl, Below.refl _ _⟩
  | false =>
    have hpos : 0 < s.length := List.length_pos_iff.2 H0.out
    have d16 : decide ((16 : Int) < (s.length : Int)) = false := decide_eq_false (by omega)
    have e0 : (⟨s.toArray⟩ : ByteArray)[0]'(by rw [hz]; exact hpos) = s.getD 0 0 := by
      show s.toArray[0]'_ = _
      rw [List.getD_eq_getElem?_getD, List.getElem?_eq_getElem hpos]; simp
    by_cases h97 : (s.getD 0 0).toNat < 97
    · have : B = false := by rw [← HB.out]; unfold nameB; rw [decide_eq_false (p := 97 ≤ (s.getD 0 0).toNat) (by omega)]; simp
      subst this
      rw [hr] at HR
      clear hr
      generalize (s.getD 0 0) = c at *
      have d97 : decide (((((⟨s.toArray⟩ : ByteArray)[0]'(by rw [hz]; exact hpos)).toNat : Nat) : Int) < 97) = true := decide_eq_true (by rw [e0]; omega)
      clear e0
      go_wp2_with fail
      refine HR.out.mono ?_
      rintro e w1 ⟨rfl, rfl⟩
      go_wp2_with fail
      go_ret
      exact ⟨rfl, Below.refl _ _⟩
    have HB2 := Box.mk (HB.out.symm.trans (nameB_parts s H0.out (by omega) hr (by omega)))
    rw [hr] at HR
    clear hr HB
    have d97 : decide (((((⟨s.toArray⟩ : ByteArray)[0]'(by rw [hz]; exact hpos)).toNat : Nat) : Int) < 97) = false := decide_eq_false (by rw [e0]; omega)
    clear e0 h97
    have hcv := Lib.run_convert_string_bytes (P := Try.prog) w 9 63 5 ⟨s.toArray⟩ (u := .string) (by kernel_rfl) (by kernel_rfl) (by kernel_rfl)
    have hbel := bytesWorld_below (w := w) 5 ⟨s.toArray⟩
    have HC := Box.mk (fun j (hj : j < s.length) => Lib.bytesWorld_cell w 5 ⟨s.toArray⟩ j (by rw [hz]; exact hj))
    rw [hz] at hcv
    generalize Lib.bytesWorld w 5 ⟨s.toArray⟩ = W1 at *
    generalize grownCap w s.length 0 5 = cap at *
    go_wp2_with fail
    refine HR.out.mono ?_
    rintro e w1 ⟨rfl, rfl⟩
    go_wp2_with fail
    go_loopw [24] (fun i wr => ∃ k : Nat, k ≤ s.length ∧ i = .int .i64 k ∧ (∀ j, j < k → charB (s.getD j 0) = true) ∧ wr = W1) (fun i _ => s.length - (intOf i).toNat)
    case atStart => exact ⟨0, Nat.zero_le _, rfl, fun j h => by omega, rfl⟩
    case round =>
      obtain ⟨k, hk, rfl, hne, rfl⟩ := hrel
      have HNE := Box.mk hne; clear hne
      by_cases hlt : k < s.length
      · have hc := HC.out k hlt
        have hcd : ((⟨s.toArray⟩ : ByteArray).data.toList.getD k 0) = s.getD k 0 := by simp
        rw [hcd] at hc
        clear hcd
        generalize hx : s.getD k 0 = x at *
        have HX := Box.mk hx
        clear hx
        cases hb : charB x with
        | true =>
          have hp := (charB_true x).1 hb
          have HBX := Box.mk hb
          clear hb
          go_wp2_with fail
          all_goals first
            | (exfalso; simp only [bne_iff_ne, ne_eq, bne_eq_false_iff_eq] at *; omega)
            | (refine ⟨⟨k + 1, by omega, by go_num, fun j hj => ?_, trivial⟩, by simp [intOf]; omega⟩
               by_cases e : j = k
               · subst e; rw [HX.out]; exact HBX.out
               · exact HNE.out j (by omega))
        | false =>
          have hp := (charB_false x).1 hb
          have HBX := Box.mk hb
          clear hb
          have hF : B = false := by
            rw [HB2.out, List.all_eq_false]
            refine ⟨x, ?_, by rw [HBX.out]; decide⟩
            rw [← HX.out, List.getD_eq_getElem?_getD, List.getElem?_eq_getElem hlt]; exact List.getElem_mem hlt
          subst hF
          go_wp2_with fail
          all_goals first
            | (exfalso; simp only [bne_iff_ne, ne_eq, bne_eq_false_iff_eq] at *; omega)
            | (go_ret; exact ⟨rfl, hbel⟩)
      · have hk2 : k = s.length := by omega
        have hT : B = true := by
          rw [HB2.out, List.all_eq_true]
          intro x hx
          obtain ⟨j, hj, he⟩ := List.getElem_of_mem hx
          have := HNE.out j (by omega)
          rwa [List.getD_eq_getElem?_getD, List.getElem?_eq_getElem hj, he] at this
        subst hT
        go_wp2_with fail
        all_goals first
          | (exfalso; omega)
          | (go_ret; exact ⟨rfl, hbel⟩)
end Go.Proofs.Ytgimkipekoabbaa
