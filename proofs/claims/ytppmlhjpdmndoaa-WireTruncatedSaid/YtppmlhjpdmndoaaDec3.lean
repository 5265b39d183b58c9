/-
  Plain mathematics of chapter 1: decoding lengths, byte strings and lists. No condition.
-/
import Derived.Test.YtppmlhjpdmndoaaDec2
namespace Go.Proofs.Ytppmlhjpdmndoaa

theorem getN_used (k : Nat) (l : List UInt8) : (getN k l).2.1 ≤ l.length ∧ ((getN k l).2.2 = 0 → 0 < (getN k l).2.1) := by
  induction l generalizing k with
  | nil => simp [getN]
  | cons c t ih =>
    have h := ih (k + 1)
    unfold getN
    split
    · simp
    · split
      · simp
      · split
        · simp only [List.length_cons]; omega
        · rename_i h3; simp only; exact ⟨Nat.zero_le _, fun h4 => (h3 h4).elim⟩

theorem getI_used (l : List UInt8) : (getI l).2.1 ≤ l.length ∧ ((getI l).2.2 = 0 → 0 < (getI l).2.1) := by
  have h := getN_used 0 l
  unfold getI
  split
  · rename_i h0; exact ⟨h.1, fun _ => h.2 h0⟩
  · rename_i h0; exact ⟨Nat.zero_le _, fun h1 => (h0 h1).elim⟩

theorem getI_errs (l : List UInt8) : (getI l).2.2 ≠ 0 → (getI l).1 = 0 ∧ (getI l).2.1 = 0 := by
  unfold getI
  split
  · intro h; exact absurd rfl h
  · intro _; exact ⟨rfl, rfl⟩

/-- Decoding a length. -/
def getLen (l : List UInt8) (least : Int) : Int × Nat × Nat :=
  if (getI l).2.2 ≠ 0 then (0, 0, (getI l).2.2) else if (getI l).1 < 0 then (0, 0, 11)
  else if ((l.length : Int) - (getI l).2.1) / least < (getI l).1 then (0, 0, 10) else getI l

theorem getLen_eq (l : List UInt8) (least : Int) : getLen l least = if (getI l).2.2 ≠ 0 then (0, 0, (getI l).2.2) else if (getI l).1 < 0 then (0, 0, 11)
  else if ((l.length : Int) - (getI l).2.1) / least < (getI l).1 then (0, 0, 10) else getI l := rfl

theorem getLen_ok {l : List UInt8} {least : Int} (h1 : 1 ≤ least) (h : (getLen l least).2.2 = 0) :
    getLen l least = getI l ∧ (getI l).2.2 = 0 ∧ 0 ≤ (getI l).1 ∧ (getI l).1 * least ≤ (l.length : Int) - (getI l).2.1 := by
  unfold getLen at h ⊢
  split at h
  · exact absurd h ‹_›
  · rename_i h0
    split at h
    · cases h
    · rename_i h2
      split at h
      · cases h
      · rename_i h3
        rw [if_neg h0, if_neg h2, if_neg h3]
        refine ⟨rfl, h, by omega, ?_⟩
        have h4 : (getI l).1 ≤ ((l.length : Int) - (getI l).2.1) / least := by omega
        exact (Int.le_ediv_iff_mul_le (by omega)).1 h4

/-- Decoding a byte string. -/
def getB (l : List UInt8) : List UInt8 × Nat × Nat :=
  if (getLen l 1).2.2 ≠ 0 then ([], 0, (getLen l 1).2.2)
  else ((l.drop (getLen l 1).2.1).take (getLen l 1).1.toNat, (getLen l 1).2.1 + (getLen l 1).1.toNat, 0)

/-- Decoding n elements, one after the other, from place at on. -/
def getEls {α : Type} (f : List UInt8 → α × Nat × Nat) (l : List UInt8) : Nat → Nat → List α → List α × Nat × Nat
  | 0, at_, acc => (acc, at_, 0)
  | n + 1, at_, acc => if (f (l.drop at_)).2.2 ≠ 0 then ([], 0, (f (l.drop at_)).2.2) else getEls f l n (at_ + (f (l.drop at_)).2.1) (acc ++ [(f (l.drop at_)).1])

/-- Decoding a list. -/
def getL {α : Type} (f : List UInt8 → α × Nat × Nat) (least : Int) (l : List UInt8) : List α × Nat × Nat :=
  if (getLen l least).2.2 ≠ 0 then ([], 0, (getLen l least).2.2) else getEls f l (getLen l least).1.toNat (getLen l least).2.1 []

/-- A digest is what stands there. -/
def getD16 (l : List UInt8) : List UInt8 × Nat × Nat := (l.take 16, 16, 0)

theorem getB_used (l : List UInt8) : (getB l).2.1 ≤ l.length ∧ ((getB l).2.2 = 0 → 0 < (getB l).2.1) := by
  unfold getB
  split
  · rename_i h; exact ⟨Nat.zero_le _, fun h1 => (h h1).elim⟩
  · rename_i h
    have h' : (getLen l 1).2.2 = 0 := Decidable.not_not.1 h
    obtain ⟨e, h0, h1, h2⟩ := getLen_ok (by omega) h'
    have hu := getI_used l
    rw [e]
    simp only
    omega
end Go.Proofs.Ytppmlhjpdmndoaa
