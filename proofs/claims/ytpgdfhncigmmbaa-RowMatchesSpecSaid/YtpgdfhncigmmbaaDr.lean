/-
  Plain mathematics of chapter 21: the words of a row. No condition.
-/
import Derived.Test.YtpgdfhncigmmbaaWUnp
namespace Go.Proofs.Ytpgdfhncigmmbaa
open Go.RowKit

/-- A right value. -/
def OkV (v : Val) : Prop := (validB v || nullB v) = true
theorem okV_cases {v : Val} (h : OkV v) : v = ⟨0, 0, []⟩ ∨ (∃ n, v = ⟨1, n, []⟩ ∧ -549755813888 ≤ n ∧ n ≤ 549755813887) ∨ (∃ s, v = ⟨2, 0, s⟩ ∧ s.length ≤ 40) ∨ (∃ n, v = ⟨3, n, []⟩ ∧ 0 ≤ n ∧ n ≤ 1) := by
  obtain ⟨k, n, s⟩ := v
  unfold OkV at h
  rw [Bool.or_eq_true] at h
  rcases h with h | h
  · have hl := valid_len h
    unfold validB at h
    simp only at h hl
    by_cases h1 : k = 1
    · subst h1
      rw [if_pos rfl] at h
      simp only [Bool.and_eq_true, List.isEmpty_iff, decide_eq_true_eq] at h
      obtain ⟨⟨rfl, h2⟩, h3⟩ := h
      exact .inr (.inl ⟨n, rfl, h2, h3⟩)
    · rw [if_neg h1] at h
      by_cases h3 : k = 3
      · subst h3
        rw [if_pos rfl] at h
        simp only [Bool.and_eq_true, List.isEmpty_iff, decide_eq_true_eq] at h
        obtain ⟨rfl, h2⟩ := h
        exact .inr (.inr (.inr ⟨n, rfl, by omega, by omega⟩))
      · rw [if_neg h3] at h
        by_cases h2 : k = 2
        · subst h2
          rw [if_pos rfl] at h
          simp only [Bool.and_eq_true, decide_eq_true_eq] at h
          obtain ⟨rfl, h2⟩ := h
          exact .inr (.inr (.inl ⟨s, rfl, h2⟩))
        · rw [if_neg h2] at h; cases h
  · rw [nullB_eq] at h
    exact .inl (by simpa using h)
/-- The words of a value; a null has none. -/
def valR (v : Val) : List Int := if v.kind = 0 then [] else valW v
def nullsN (r : List Val) : Nat → Nat
  | 0 => 0
  | k + 1 => nullsN r k + if (r.getD k default).kind = 0 then 2 ^ k else 0
theorem nullsN_succ (r : List Val) (k : Nat) : nullsN r (k + 1) = nullsN r k + if (r.getD k default).kind = 0 then 2 ^ k else 0 := rfl
def wordsUp (r : List Val) (k : Nat) : List Int := [((256 * r.length + nullsN r k : Nat) : Int)] ++ flatW valR (r.take k)
def wordsR (r : List Val) : List Int := wordsUp r r.length
theorem nullsN_lt (r : List Val) (k : Nat) : nullsN r k < 2 ^ k := by
  induction k with
  | zero => simp [nullsN]
  | succ k ih =>
    unfold nullsN
    have : 2 ^ (k + 1) = 2 ^ k + 2 ^ k := by rw [Nat.pow_succ]; omega
    split <;> omega
theorem valR_null : valR ⟨0, 0, []⟩ = [] := rfl
theorem valR_int (n : Int) : valR ⟨1, n, []⟩ = [n + 549755813888] := rfl
theorem valR_bool (n : Int) : valR ⟨3, n, []⟩ = [n] := rfl
theorem valR_text (s : List UInt8) : valR ⟨2, 0, s⟩ = [(s.length : Int)] ++ textW s := rfl
theorem valR_len {v : Val} (h : OkV v) : (valR v).length ≤ 9 := by
  rcases okV_cases h with rfl | ⟨n, rfl, _⟩ | ⟨s, rfl, hs⟩ | ⟨n, rfl, _⟩
  · simp [valR_null]
  · simp [valR_int]
  · rw [valR_text, List.length_append, textW_length]; simp; unfold nWords; omega
  · simp [valR_bool]
def OkR (r : List Val) : Prop := ∀ v ∈ r, OkV v
theorem OkR.at {r : List Val} (h : OkR r) {k : Nat} (hk : k < r.length) : OkV (r.getD k default) := h _ (getD_mem hk)
theorem wordsUp_len {r : List Val} (h : OkR r) (k : Nat) (hk : k ≤ r.length) : (wordsUp r k).length ≤ 1 + 9 * k := by
  unfold wordsUp
  rw [List.length_append]
  have := flatW_le (f := valR) (l := r) (c := 9) (fun i hi => valR_len (h.at hi)) k hk
  simp; omega
theorem wordsUp_pos (r : List Val) (k : Nat) : 0 < (wordsUp r k).length := by unfold wordsUp; simp
theorem wordsUp_succ {r : List Val} {k : Nat} (hk : k < r.length) {v : Val} (hv : r.getD k default = v) (h0 : v.kind ≠ 0) : wordsUp r (k + 1) = wordsUp r k ++ valR v := by
  unfold wordsUp
  rw [flatW_succ _ _ _ hk, hv, show nullsN r (k + 1) = nullsN r k from by rw [nullsN_succ, hv, if_neg h0]; rfl, List.append_assoc]
theorem wordsUp_null {r : List Val} {k : Nat} (hk : k < r.length) {v : Val} (hv : r.getD k default = v) (h0 : v.kind = 0) : wordsUp r (k + 1) = [((256 * r.length + (nullsN r k + 2 ^ k) : Nat) : Int)] ++ flatW valR (r.take k) := by
  unfold wordsUp
  rw [flatW_succ _ _ _ hk, hv, show nullsN r (k + 1) = nullsN r k + 2 ^ k from by rw [nullsN_succ, hv, if_pos h0], show valR v = [] from if_pos h0, List.append_nil]
theorem wordsUp_nullLen {r : List Val} {k : Nat} (hk : k < r.length) {v : Val} (hv : r.getD k default = v) (h0 : v.kind = 0) : (wordsUp r (k + 1)).length = (wordsUp r k).length := by
  rw [wordsUp_null hk hv h0]; unfold wordsUp; simp
theorem wordsUp_set {r : List Val} {k : Nat} (hk : k < r.length) {v : Val} (hv : r.getD k default = v) (h0 : v.kind = 0) : (intVals (wordsUp r k)).set 0 (.int .i64 ((256 * r.length + (nullsN r k + 2 ^ k) : Nat) : Int)) = intVals (wordsUp r (k + 1)) := by
  rw [wordsUp_null hk hv h0]; rfl
theorem wordsUp_zero (r : List Val) : wordsUp r 0 = [((256 * r.length : Nat) : Int)] := by unfold wordsUp nullsN; simp [flatW]
theorem wordsUp_head (r : List Val) (k : Nat) : (intVals (wordsUp r k))[0]? = some (.int .i64 ((256 * r.length + nullsN r k : Nat) : Int)) := rfl
theorem nullsN_bd (r : List Val) {k : Nat} (hk : k ≤ 20) : nullsN r k < 1048576 := Nat.lt_of_lt_of_le (nullsN_lt r k) (Nat.pow_le_pow_right (by omega) hk : 2 ^ k ≤ 2 ^ 20)
end Go.Proofs.Ytpgdfhncigmmbaa
