/-
  Plain mathematics of chapter 1: decoding an integer. No condition.
-/
import Derived.Test.YtppmlhjpdmndoaaEnc
namespace Go.Proofs.Ytppmlhjpdmndoaa

/-- The value of digits to the base 128, the lowest first. -/
def valN : List UInt8 → Nat
  | [] => 0
  | c :: t => c.toNat % 128 + 128 * valN t

theorem valN_snoc (p : List UInt8) (c : UInt8) : valN (p ++ [c]) = valN p + (c.toNat % 128) * 128 ^ p.length := by
  induction p with
  | nil => simp [valN]
  | cons d p ih => simp only [List.cons_append, valN, ih, List.length_cons, Nat.pow_succ]; rw [Nat.mul_add, ← Nat.mul_assoc, Nat.mul_comm 128 (c.toNat % 128), Nat.mul_assoc, Nat.mul_comm 128 (128 ^ _)]; omega

theorem valN_lt (p : List UInt8) : valN p < 128 ^ p.length := by
  induction p with
  | nil => simp [valN]
  | cons d p ih => simp only [valN, List.length_cons, Nat.pow_succ]; omega

/-- Decoding from place k on: the number, the bytes used, the error. -/
def getN (k : Nat) : List UInt8 → Nat × Nat × Nat
  | [] => (0, 0, 10)
  | c :: t =>
    if k = 9 ∧ 1 < c.toNat ∨ 0 < k ∧ c.toNat = 0 then (0, 0, 11)
    else if c.toNat < 128 then (c.toNat, 1, 0)
    else if (getN (k + 1) t).2.2 = 0 then (c.toNat % 128 + 128 * (getN (k + 1) t).1, (getN (k + 1) t).2.1 + 1, 0) else (0, 0, (getN (k + 1) t).2.2)

/-- What has been read ahead of a result. -/
def lift (p : List UInt8) (r : Nat × Nat × Nat) : Nat × Nat × Nat :=
  if r.2.2 = 0 then (valN p + 128 ^ p.length * r.1, p.length + r.2.1, 0) else (0, 0, r.2.2)

theorem lift_nil (r : Nat × Nat × Nat) (h : r.2.2 ≠ 0 → r.1 = 0 ∧ r.2.1 = 0) : lift [] r = r := by
  obtain ⟨a, b, c⟩ := r
  unfold lift
  by_cases hc : c = 0
  · subst hc; simp [valN]
  · simp only at h; rw [if_neg hc]; obtain ⟨rfl, rfl⟩ := h hc; rfl

theorem getN_err (k : Nat) (l : List UInt8) : (getN k l).2.2 ≠ 0 → (getN k l).1 = 0 ∧ (getN k l).2.1 = 0 := by
  cases l with
  | nil => simp [getN]
  | cons c t =>
    unfold getN
    split
    · simp
    · split
      · simp
      · split
        · simp
        · simp

theorem lift_snoc (p : List UInt8) (c : UInt8) (r : Nat × Nat × Nat) (hr : r.2.2 ≠ 0 → r.1 = 0 ∧ r.2.1 = 0) :
    lift p (if r.2.2 = 0 then (c.toNat % 128 + 128 * r.1, r.2.1 + 1, 0) else (0, 0, r.2.2)) = lift (p ++ [c]) r := by
  obtain ⟨a, b, e⟩ := r
  by_cases he : e = 0
  · subst he
    simp only [lift, if_true, List.length_append, List.length_singleton, valN_snoc, Nat.pow_succ]
    refine Prod.ext ?_ (Prod.ext ?_ rfl)
    · simp only; rw [Nat.mul_add, Nat.mul_comm (128 ^ p.length) (c.toNat % 128), Nat.mul_assoc]; omega
    · simp only; omega
  · simp only [lift, if_neg he]

/-- One more high byte read. -/
theorem getN_step {l : List UInt8} {k : Nat} (hk : k < l.length) (h1 : ¬ (k = 9 ∧ 1 < (l[k]).toNat)) (h2 : ¬ (0 < k ∧ (l[k]).toNat = 0)) (h3 : ¬ (l[k]).toNat < 128) :
    lift (l.take k) (getN k (l.drop k)) = lift (l.take (k + 1)) (getN (k + 1) (l.drop (k + 1))) := by
  rw [List.drop_eq_getElem_cons hk, List.take_succ_eq_append_getElem hk]
  conv => lhs; rw [getN]
  rw [if_neg (by rintro (h | h); exact h1 h; exact h2 h), if_neg h3]
  exact lift_snoc _ _ _ (getN_err _ _)

theorem getN_last {l : List UInt8} {k : Nat} (hk : k < l.length) (h1 : ¬ (k = 9 ∧ 1 < (l[k]).toNat)) (h2 : ¬ (0 < k ∧ (l[k]).toNat = 0)) (h3 : (l[k]).toNat < 128) :
    lift (l.take k) (getN k (l.drop k)) = (valN (l.take (k + 1)), k + 1, 0) := by
  rw [List.drop_eq_getElem_cons hk, List.take_succ_eq_append_getElem hk, getN, if_neg (by rintro (h | h); exact h1 h; exact h2 h), if_pos h3]
  simp only [lift, if_true, valN_snoc, List.length_take, Nat.min_eq_left (Nat.le_of_lt hk)]
  rw [Nat.mod_eq_of_lt h3, Nat.mul_comm]

theorem getN_bad {l : List UInt8} {k : Nat} (hk : k < l.length) (h : (k = 9 ∧ 1 < (l[k]).toNat) ∨ (0 < k ∧ (l[k]).toNat = 0)) :
    lift (l.take k) (getN k (l.drop k)) = (0, 0, 11) := by
  rw [List.drop_eq_getElem_cons hk, getN, if_pos h]
  simp [lift]

theorem getN_end {l : List UInt8} {k : Nat} (hk : l.length ≤ k) : lift (l.take k) (getN k (l.drop k)) = (0, 0, 10) := by
  rw [List.drop_eq_nil_of_le hk, getN]; simp [lift]

theorem getN_start (l : List UInt8) : getN 0 l = lift (l.take 0) (getN 0 (l.drop 0)) := by
  rw [List.take_zero, List.drop_zero, lift_nil _ (getN_err 0 l)]

/-- The integer that a number stands for. -/
def unzig (z : Nat) : Int := if z % 2 = 1 then -1 - ((z / 2 : Nat) : Int) else ((z / 2 : Nat) : Int)

/-- Decoding an integer: the integer, the bytes used, the error. -/
def getI (l : List UInt8) : Int × Nat × Nat := if (getN 0 l).2.2 = 0 then (unzig (getN 0 l).1, (getN 0 l).2.1, 0) else (0, 0, (getN 0 l).2.2)

theorem getI_of {l : List UInt8} {z u : Nat} (h : getN 0 l = (z, u, 0)) : getI l = (unzig z, u, 0) := by unfold getI; rw [h]; rfl
theorem getI_err {l : List UInt8} {e : Nat} (he : e ≠ 0) (h : getN 0 l = (0, 0, e)) : getI l = (0, 0, e) := by unfold getI; rw [h, if_neg he]
end Go.Proofs.Ytppmlhjpdmndoaa
