/-
  The walk of the reference's GetInt: it returns what the plain decoder returns. No condition.
-/
import Derived.Test.YtppmlhjpdmndoaaWGetInt
namespace Go.Proofs.Ytppmlhjpdmndoaa
open Go.RowKit

/-- The first k bytes have their highest bit set. -/
def highs (l : List UInt8) (k : Nat) : Prop := ∀ j (hj : j < l.length), j < k → ¬ (l[j]).toNat < 128

theorem highs_zero (l : List UInt8) : highs l 0 := fun _ _ h => by omega
theorem highs_succ {l : List UInt8} {k : Nat} (h : highs l k) (hk : k < l.length) (hc : ¬ (l[k]).toNat < 128) : highs l (k + 1) := by
  intro j hj hjk
  by_cases e : j = k
  · subst e; exact hc
  · exact h j hj (by omega)

theorem getN_highs {l : List UInt8} {k : Nat} (h : highs l k) (hk : k ≤ l.length) (h9 : k ≤ 9) : getN 0 l = lift (l.take k) (getN k (l.drop k)) := by
  induction k with
  | zero => exact getN_start l
  | succ k ih =>
    rw [ih (fun j hj hjk => h j hj (by omega)) (by omega) (by omega)]
    have hc := h k (by omega) (by omega)
    exact getN_step (by omega) (by omega) (by omega) hc

theorem getN_ten {l : List UInt8} (h : highs l 10) (hk : 10 ≤ l.length) : getN 0 l = (0, 0, 11) := by
  rw [getN_highs (k := 9) (fun j hj hjk => h j hj (by omega)) (by omega) (by omega)]
  have hc := h 9 (by omega) (by omega)
  exact getN_bad (by omega) (.inl ⟨rfl, by omega⟩)

theorem valN_drop_le (t : List UInt8) (j : Nat) : valN (t.drop j) ≤ valN t := by
  induction t generalizing j with
  | nil => simp
  | cons c t ih =>
    cases j with
    | zero => simp
    | succ j => rw [List.drop_succ_cons]; have := ih j; simp only [valN]; omega

theorem valN_drop_step {t : List UInt8} {j : Nat} (h : j < t.length) : valN (t.drop j) = (t[j]).toNat % 128 + 128 * valN (t.drop (j + 1)) := by
  rw [List.drop_eq_getElem_cons h, valN]

/-- The value of all digits fits. -/
theorem valN_fits {l : List UInt8} {k : Nat} (hk : k < l.length) (h9 : k ≤ 9) (h1 : k = 9 → (l[k]).toNat ≤ 1) : valN (l.take (k + 1)) < 18446744073709551616 := by
  have hv : valN (l.take k) < 128 ^ k := by have := valN_lt (l.take k); rwa [List.length_take, Nat.min_eq_left (by omega)] at this
  obtain ⟨z', hz', hz64, _⟩ := or_digit h9 (l[k]).toNat_lt h1 hv
  have hs := valN_snoc (l.take k) l[k]
  rw [← List.take_succ_eq_append_getElem hk, List.length_take, Nat.min_eq_left (by omega)] at hs
  omega

set_option maxRecDepth 20000 in
set_option maxHeartbeats 1000000 in
theorem refGetInt_any (l : List UInt8) (a : Option Addr) (cap : Nat) (w : World) (hrd : Rd w a l.length cap 1 (byteVals l)) :
    Calls Try.prog 25 #[.slice a l.length cap] w (Ret3 (getI l) w) := by
  have hmax := hrd.lenMax
  go_enter Try.func25, Try.ntmps25
  go_wp2_with fail
  go_loop [5] (fun i => ∃ k : Nat, k ≤ l.length ∧ k ≤ 10 ∧ i = .int .i64 k ∧ highs l k)
    (fun i => (10 - intOf i).toNat)
  case atStart => exact ⟨0, Nat.zero_le _, by omega, rfl, highs_zero l⟩
  case round =>
    obtain ⟨k, hk, hk10, rfl, HH⟩ := hrel
    by_cases hlt : k < l.length
    · obtain ⟨b, off, rfl, hc⟩ := hrd.byteAt k hlt
      have hc8 : (l[k]).toNat < 256 := (l[k]).toNat_lt
      by_cases hten : 10 ≤ k
      · have hk' : k = 10 := by omega
        have Hr := Lib.hid (getI_err (by omega) (getN_ten (hk' ▸ HH) (by omega)))
        clear hk'
        go_wp2_with fail
        go_ret3
        exact ⟨by rw [Hr.out]; rfl, rfl⟩
      · by_cases hlow : (l[k]).toNat < 128
        · have HG := Lib.hid (getN_highs HH hk (by omega))
          have Hlast := Lib.hid (getN_last hlt)
          have Hbad := Lib.hid (getN_bad hlt)
          rw [← HG.out] at Hlast Hbad
          have Hfit := Lib.hid (valN_fits hlt (by omega : k ≤ 9))
          have Hck := Lib.hid (show (l[k]).toNat = (l[k]).toNat from rfl)
          generalize hcc : (l[k]).toNat = c at hc hc8 hlow Hlast Hbad Hfit Hck
          have Hcc := Lib.hid hcc; clear hcc Hck
          by_cases hbad : k = 9 ∧ 1 < c ∨ 0 < k ∧ c = 0
          · have Hr := Lib.hid (getI_err (by omega) (Hbad.out hbad))
            have hb2 : (9 ≤ k ∧ ((k : Int) == 9) = true ∧ 1 < c) ∨ (k < 9 ∧ ((k : Int) == 9) = false ∧ 0 < k ∧ c = 0) ∨ (9 ≤ k ∧ ((k : Int) == 9) = true ∧ c = 0) := by simp; omega
            clear hbad
            have hc9 : 9 ≤ k → w.cell? ⟨b, off + 9, none⟩ = some (.int .u8 (c : Int)) := fun h => by rw [show (9 : Nat) = k from by omega]; exact hc
            rcases hb2 with ⟨h1, h2, h3⟩ | ⟨h1, h2, h3, rfl⟩ | ⟨h1, h2, rfl⟩
            all_goals
              (try (have hc9' := hc9 h1)); clear hc9
              go_wp2_with fail
              go_ret3
              exact ⟨by rw [Hr.out]; rfl, rfl⟩
          · have Hr := Lib.hid (getI_of (Hlast.out (by omega) (by omega) hlow))
            have Hf := Lib.hid (Hfit.out (by omega))
            have hb2 : (9 ≤ k ∧ ((k : Int) == 9) = true ∧ c = 1) ∨ (k < 9 ∧ ((k : Int) == 9) = false ∧ 0 < k ∧ ((c : Int) == 0) = false) ∨ (k < 1) := by simp; omega
            clear hbad
            have hc9 : 9 ≤ k → w.cell? ⟨b, off + 9, none⟩ = some (.int .u8 (c : Int)) := fun h => by rw [show (9 : Nat) = k from by omega]; exact hc
            have hk1 : k < 10 := by omega
            rcases hb2 with ⟨h1, h2, rfl⟩ | ⟨h1, h2, h3, h4⟩ | h1
            all_goals
              (try (have hc9' := hc9 h1)); clear hc9
              go_wp2_with fail
              go_loop [6, 7] (fun z i => ∃ j : Nat, j ≤ k + 1 ∧ i = .int .i64 ((j : Int) - 1) ∧ z = .int .u64 (valN ((l.take (k + 1)).drop j)))
                (fun _ i => (intOf i + 1).toNat)
              case atStart => exact ⟨k + 1, Nat.le_refl _, by go_num, by rw [List.drop_eq_nil_of_le (by simp; omega)]; rfl⟩
              case round =>
                obtain ⟨j, hj, rfl, rfl⟩ := hrel
                have hd := valN_drop_le (l.take (k + 1)) j
                have hf := Hf.out
                cases j with
                | zero =>
                  have hz0 : valN ((l.take (k + 1)).drop 0) = valN (l.take (k + 1)) := by rw [List.drop_zero]
                  rw [hz0] at hd ⊢
                  clear hz0 hd
                  generalize valN (l.take (k + 1)) = z at *
                  have hu := Lib.hid (show unzig z = if z % 2 = 1 then -1 - ((z / 2 : Nat) : Int) else ((z / 2 : Nat) : Int) from rfl)
                  by_cases hodd : z % 2 = 1
                  · have Hu := Lib.hid (hu.out.trans (if_pos hodd)); clear hu
                    have Ho := Lib.hid hodd; clear hodd
                    have ho2 : 1 ≤ z % 2 := by have := Ho.out; omega
                    have ho3 : z % 2 ≤ 1 := by omega
                    go_wp2_with fail
                    go_ret3
                    exact ⟨by rw [Hr.out, Hu.out]; first | rfl | (congr 4 <;> omega), rfl⟩
                  · have Hu := Lib.hid (hu.out.trans (if_neg hodd)); clear hu
                    have ho2 : z % 2 < 1 := by omega
                    clear hodd
                    go_wp2_with fail
                    go_ret3
                    exact ⟨by rw [Hr.out, Hu.out]; first | rfl | (congr 4 <;> omega), rfl⟩
                | succ m =>
                  have hi : (((m + 1 : Nat) : Int) - 1) = (m : Int) := by omega
                  rw [hi]
                  clear hi
                  have hml : m < l.length := by omega
                  obtain ⟨b', off', he, hcm⟩ := hrd.byteAt m hml
                  simp only [Option.some.injEq, Addr.mk.injEq, and_true] at he
                  obtain ⟨rfl, rfl⟩ := he
                  have hst := valN_drop_step (t := l.take (k + 1)) (j := m) (by simp; omega)
                  have hdm := valN_drop_le (l.take (k + 1)) m
                  rw [List.getElem_take] at hst
                  have hcm8 : (l[m]).toNat < 256 := (l[m]).toNat_lt
                  generalize (l[m]).toNat = cm at *
                  generalize hz1 : valN ((l.take (k + 1)).drop (m + 1)) = z1 at *
                  generalize hz2 : valN ((l.take (k + 1)).drop m) = z2 at *
                  have Hst := Lib.hid hst; have Hz1 := Lib.hid hz1; have Hz2 := Lib.hid hz2
                  have hb1 : z1 * 128 + cm % 128 < 18446744073709551616 := by omega
                  clear hst hz1 hz2 hd hdm hf
                  go_wp2_with fail
                  go_round
                  case rel => exact ⟨m, by omega, by go_num, by (rw [Hz2.out, Hst.out] <;> go_num)⟩
                  case measure => simp [intOf]
        · go_wp2_with fail
          go_round
          case rel => exact ⟨k + 1, by omega, by omega, by go_num, highs_succ HH hlt hlow⟩
          case measure => simp [intOf]; omega
    · have hkl : k = l.length := by omega
      by_cases hten : 10 ≤ k
      · have hk' : k = 10 := by omega
        have Hr := Lib.hid (getI_err (by omega) (getN_ten (hk' ▸ HH) (by omega)))
        clear hk' hkl
        go_wp2_with fail
        go_ret3
        exact ⟨by rw [Hr.out]; rfl, rfl⟩
      · have Hr := Lib.hid (getI_err (by omega) ((getN_highs HH hk (by omega)).trans (getN_end (by omega))))
        clear hkl
        go_wp2_with fail
        go_ret3
        exact ⟨by rw [Hr.out]; rfl, rfl⟩
end Go.Proofs.Ytppmlhjpdmndoaa
