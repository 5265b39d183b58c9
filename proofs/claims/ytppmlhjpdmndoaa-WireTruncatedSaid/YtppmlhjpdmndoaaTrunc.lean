/-
  Plain laws of chapter 1: a proper prefix of an encoding is truncated. No condition.
-/
import Derived.Test.YtppmlhjpdmndoaaRound
namespace Go.Proofs.Ytppmlhjpdmndoaa

theorem getLen_prefix {n least : Nat} {t : List UInt8} (hn : n ≤ 1099511627776) (hl : 1 ≤ least) : (getLen (enc n ++ t) least = (0, 0, 10) ∧ t.length < n * least) ∨ (getLen (enc n ++ t) least = ((n : Int), (enc n).length, 0) ∧ n * least ≤ t.length) := by
  by_cases h : n * least ≤ t.length
  · exact .inr ⟨getLen_round hn hl h, h⟩
  · left
    refine ⟨?_, by omega⟩
    have he := getI_enc (n : Int) t (by omega) (by omega)
    rw [getLen_eq, he]
    simp only
    rw [if_neg (by simp), if_neg (by omega), if_pos]
    have : ¬ (n : Int) ≤ (((enc (n : Int) ++ t).length : Int) - ((enc (n : Int)).length : Nat)) / (least : Int) := by
      rw [Int.le_ediv_iff_mul_le (by omega), List.length_append]
      have : (n : Int) * (least : Int) = ((n * least : Nat) : Int) := by simp
      omega
    omega

theorem getLen_short {n least i : Nat} (hn : n ≤ 1099511627776) (hi : i < (enc (n : Int)).length) : getLen ((enc (n : Int)).take i) least = (0, 0, 10) := by
  rw [getLen_eq, getI_trunc _ i (by omega) (by omega) hi]
  rfl

theorem getB_trunc (s : List UInt8) (hs : s.length ≤ 1099511627776) (i : Nat) (hi : i < (encB s).length) : getB ((encB s).take i) = ([], 0, 10) := by
  unfold encB at hi ⊢
  rw [List.length_append] at hi
  unfold getB
  rw [List.take_append]
  rcases Nat.lt_or_ge i (enc (s.length : Int)).length with h | h
  · have := getLen_short (least := 1) hs h
    rw [show ((1 : Nat) : Int) = (1 : Int) from rfl] at this
    rw [show i - (enc (s.length : Int)).length = 0 from by omega, List.take_zero, List.append_nil, this]
    rfl
  · rw [List.take_of_length_le h]
    have hp := getLen_prefix (n := s.length) (least := 1) (t := s.take (i - (enc (s.length : Int)).length)) hs (by omega)
    rw [show ((1 : Nat) : Int) = (1 : Int) from rfl] at hp
    rcases hp with ⟨h1, _⟩ | ⟨_, h2⟩
    · rw [h1]; rfl
    · rw [List.length_take] at h2; omega

/-- A proper prefix of an element's encoding is truncated. -/
def Cuts {α : Type} (f : List UInt8 → α × Nat × Nat) (g : α → List UInt8) (ok : α → Prop) : Prop :=
  ∀ x i, ok x → i < (g x).length → (f ((g x).take i)).2.2 = 10

theorem getEls_trunc {α : Type} {f : List UInt8 → α × Nat × Nat} {g : α → List UInt8} {ok : α → Prop} {least : Nat} (C : Codec f g ok least) (D : Cuts f g ok) :
    ∀ (xs acc : List α) (at_ i : Nat), (∀ x ∈ xs, ok x) → i < (xs.flatMap g).length → ∀ l : List UInt8, l.drop at_ = (xs.flatMap g).take i → getEls f l xs.length at_ acc = ([], 0, 10)
  | [], acc, at_, i, _, hi, l, hl => by simp at hi
  | x :: xs, acc, at_, i, hok, hi, l, hl => by
    rw [List.flatMap_cons, List.length_append] at hi
    rw [List.flatMap_cons, List.take_append] at hl
    rw [List.length_cons, getEls, hl]
    rcases Nat.lt_or_ge i (g x).length with h | h
    · rw [show i - (g x).length = 0 from by omega, List.take_zero, List.append_nil, D x i (hok x (by simp)) h, if_pos (by omega)]
    · rw [List.take_of_length_le h] at hl ⊢
      rw [C.round x _ (hok x (by simp)), if_neg (by simp)]
      have hl2 : l.drop (at_ + (g x).length) = (xs.flatMap g).take (i - (g x).length) := by
        rw [← List.drop_drop, hl, List.drop_left]
      exact getEls_trunc C D xs _ _ _ (fun y hy => hok y (by simp [hy])) (by omega) l hl2

theorem getL_trunc {α : Type} {f : List UInt8 → α × Nat × Nat} {g : α → List UInt8} {ok : α → Prop} {least : Nat} (C : Codec f g ok least) (D : Cuts f g ok) (hl : 1 ≤ least) (xs : List α) (hok : ∀ x ∈ xs, ok x) (hn : xs.length ≤ 1099511627776)
    (i : Nat) (hi : i < (encL g xs).length) : getL f least ((encL g xs).take i) = ([], 0, 10) := by
  unfold encL at hi ⊢
  rw [List.length_append] at hi
  unfold getL
  rw [List.take_append]
  rcases Nat.lt_or_ge i (enc (xs.length : Int)).length with h | h
  · rw [show i - (enc (xs.length : Int)).length = 0 from by omega, List.take_zero, List.append_nil, getLen_short hn h]
    rfl
  · rw [List.take_of_length_le h]
    rcases getLen_prefix (n := xs.length) (least := least) (t := (xs.flatMap g).take (i - (enc (xs.length : Int)).length)) hn hl with ⟨h1, _⟩ | ⟨h1, _⟩
    · rw [h1]; rfl
    · rw [h1]
      simp only [Int.toNat_natCast]
      rw [if_neg (by simp), getEls_trunc C D xs [] _ (i - (enc (xs.length : Int)).length) hok (by omega) _ (by rw [List.drop_left])]

theorem flatMap_dig : ∀ ds : List (List UInt8), (∀ d ∈ ds, d.length = 16) → (ds.flatMap fun d => d).length = ds.length * 16
  | [], _ => by simp
  | d :: ds, h => by
    rw [List.flatMap_cons, List.length_append, flatMap_dig ds (fun y hy => h y (by simp [hy])), h d (by simp), List.length_cons]; omega

theorem getLD_trunc (ds : List (List UInt8)) (hd : ∀ d ∈ ds, d.length = 16) (hn : ds.length ≤ 1099511627776) (i : Nat) (hi : i < (encL (fun d => d) ds).length) : getL getD16 16 ((encL (fun d => d) ds).take i) = ([], 0, 10) := by
  unfold encL at hi ⊢
  rw [List.length_append] at hi
  unfold getL
  rw [List.take_append]
  rcases Nat.lt_or_ge i (enc (ds.length : Int)).length with h | h
  · have := getLen_short (least := 16) hn h
    rw [show ((16 : Nat) : Int) = (16 : Int) from rfl] at this
    rw [show i - (enc (ds.length : Int)).length = 0 from by omega, List.take_zero, List.append_nil, this]
    rfl
  · rw [List.take_of_length_le h]
    have hp := getLen_prefix (n := ds.length) (least := 16) (t := (ds.flatMap fun d => d).take (i - (enc (ds.length : Int)).length)) hn (by omega)
    rw [show ((16 : Nat) : Int) = (16 : Int) from rfl] at hp
    rcases hp with ⟨h1, _⟩ | ⟨_, h2⟩
    · rw [h1]; rfl
    · have := flatMap_dig ds hd
      rw [List.length_take] at h2
      omega

theorem cutsI : Cuts getI enc (fun n => -9223372036854775808 ≤ n ∧ n ≤ 9223372036854775807) := fun x i h hi => by rw [getI_trunc x i h.1 h.2 hi]
theorem cutsB : Cuts getB encB (fun s => s.length ≤ 1099511627776) := fun x i h hi => by rw [getB_trunc x h i hi]
end Go.Proofs.Ytppmlhjpdmndoaa
