/-
  Plain mathematics of chapter 20: the words of a table. No condition.
-/
import Derived.Test.YtgimkipekoabbaaWrd
import Derived.Test.YtgimkipekoabbaaFit
namespace Go.Proofs.Ytgimkipekoabbaa
open Go.RowKit

def b2i (b : Bool) : Int := if b then 1 else 0
theorem b2i_le (b : Bool) : 0 ≤ b2i b ∧ b2i b ≤ 1 := by cases b <;> simp [b2i]
/-- The numbers of a list, base 16, the first the lowest. -/
def packI : List Int → Int
  | [] => 0
  | c :: l => c + 16 * packI l
def colH (c : Col) : Int := c.kind + 4 * b2i c.null + 8 * (c.name.length : Int)
def colW (c : Col) : List Int := [colH c] ++ textW c.name
def ixH (x : Ix) : Int := b2i x.uniq + 2 * (x.cols.length : Int) + 32 * (x.name.length : Int)
def ixW (x : Ix) : List Int := [ixH x, packI x.cols] ++ textW x.name
def chkH (x : Chk) : Int := x.col + 16 * x.op
def valW (v : Val) : List Int := if v.kind = 1 then [v.n + 549755813888] else if v.kind = 3 then [v.n] else [(v.s.length : Int)] ++ textW v.s
def chkW (x : Chk) : List Int := [chkH x] ++ valW x.val
def flatW {α : Type} (f : α → List Int) (l : List α) : List Int := (l.map f).flatten
def headW (T : Tab) : Int := (T.cols.length : Int) + 16 * (T.ixs.length : Int) + 256 * (T.chks.length : Int) + 4096 * (T.name.length : Int)
/-- The words of a valid table. -/
def wordsT (T : Tab) : List Int := [headW T] ++ textW T.name ++ flatW colW T.cols ++ flatW ixW T.ixs ++ flatW chkW T.chks

section
variable {α : Type} [Inhabited α]
theorem take_succ_getD (l : List α) (k : Nat) (hk : k < l.length) : l.take (k + 1) = l.take k ++ [l.getD k default] := by
  rw [List.take_succ_eq_append_getElem hk, getD_eq hk]
omit [Inhabited α] in
theorem flatW_append (f : α → List Int) (l m : List α) : flatW f (l ++ m) = flatW f l ++ flatW f m := by simp [flatW]
theorem flatW_succ (f : α → List Int) (l : List α) (k : Nat) (hk : k < l.length) : flatW f (l.take (k + 1)) = flatW f (l.take k) ++ f (l.getD k default) := by
  rw [take_succ_getD l k hk, flatW_append]; simp [flatW]
omit [Inhabited α] in
theorem flatW_zero (f : α → List Int) (l : List α) : flatW f (l.take 0) = [] := by simp [flatW]
omit [Inhabited α] in
theorem flatW_all (f : α → List Int) (l : List α) (k : Nat) (hk : l.length ≤ k) : flatW f (l.take k) = flatW f l := by rw [List.take_of_length_le hk]
theorem flatW_le {f : α → List Int} {l : List α} {c : Nat} (h : ∀ i, i < l.length → (f (l.getD i default)).length ≤ c) (k : Nat) (hk : k ≤ l.length) : (flatW f (l.take k)).length ≤ c * k := by
  induction k with
  | zero => simp [flatW]
  | succ k ih =>
    rw [flatW_succ f l k (by omega), List.length_append]
    have := ih (by omega)
    have := h k (by omega)
    rw [Nat.mul_succ]; omega
end

theorem textW_length (s : List UInt8) : (textW s).length = nWords s.length := textUp_length _ _
theorem nWords_mono {a b : Nat} (h : a ≤ b) : nWords a ≤ nWords b := by unfold nWords; omega

theorem name_len {s : List UInt8} (h : nameB s = true) : 0 < s.length ∧ s.length ≤ 16 := by
  unfold nameB at h
  simp only [Bool.and_eq_true, decide_eq_true_eq] at h
  exact ⟨h.1.1.1.1, h.1.1.1.2⟩
theorem colErr_zero {l : List Col} {i : Nat} (h : colErr l i = 0) : nameB (l.getD i default).name = true ∧ kindB (l.getD i default).kind = true ∧ colTwice l i = false := by
  unfold colErr at h
  split at h
  · cases h
  rename_i h1
  split at h
  · cases h
  rename_i h2
  split at h
  · cases h
  rename_i h3
  exact ⟨by simpa using h1, by simpa using h3, by simpa using h2⟩
theorem ixErr_zero {l : List Ix} {n i : Nat} (h : ixErr l n i = 0) : nameB (l.getD i default).name = true ∧ placesB (l.getD i default).cols n = true ∧ ixTwice l i = false := by
  unfold ixErr at h
  split at h
  · cases h
  rename_i h1
  split at h
  · cases h
  rename_i h2
  split at h
  · cases h
  rename_i h3
  exact ⟨by simpa using h1, by simpa using h3, by simpa using h2⟩
theorem TabOk.col {T : Tab} (h : TabOk T) {i : Nat} (hi : i < T.cols.length) : 0 < (T.cols.getD i default).name.length ∧ (T.cols.getD i default).name.length ≤ 16 ∧ 1 ≤ (T.cols.getD i default).kind ∧ (T.cols.getD i default).kind ≤ 3 := by
  obtain ⟨h1, h2, _⟩ := colErr_zero (firstE_eq_zero h.colsE i hi)
  unfold kindB at h2
  simp only [decide_eq_true_eq] at h2
  exact ⟨(name_len h1).1, (name_len h1).2, h2.1, h2.2⟩
theorem TabOk.ix {T : Tab} (h : TabOk T) {i : Nat} (hi : i < T.ixs.length) : 0 < (T.ixs.getD i default).name.length ∧ (T.ixs.getD i default).name.length ≤ 16 ∧ 0 < (T.ixs.getD i default).cols.length ∧ (T.ixs.getD i default).cols.length ≤ 8 ∧ ∀ k, k < (T.ixs.getD i default).cols.length → 0 ≤ (T.ixs.getD i default).cols.getD k 0 ∧ (T.ixs.getD i default).cols.getD k 0 < 8 := by
  obtain ⟨h1, h2, _⟩ := ixErr_zero (firstE_eq_zero h.ixsE i hi)
  obtain ⟨h3, h4, _⟩ := placesB_true h2
  have h5 := placesB_le h2
  have h6 := h.cols8
  refine ⟨(name_len h1).1, (name_len h1).2, h3, by omega, fun k hk => ?_⟩
  have := h4 _ (List.getElem_mem hk)
  rw [List.getD_eq_getElem?_getD, List.getElem?_eq_getElem hk]
  simp only [Option.getD_some]
  omega
theorem valid_len {v : Val} (h : validB v = true) : v.s.length ≤ 40 ∧ (v.kind = 1 → -549755813888 ≤ v.n ∧ v.n ≤ 549755813887) ∧ (v.kind = 3 → 0 ≤ v.n ∧ v.n ≤ 1) := by
  unfold validB at h
  split at h
  · rename_i hk
    simp only [Bool.and_eq_true, decide_eq_true_eq, List.isEmpty_iff] at h
    rw [h.1.1]
    exact ⟨by simp, fun _ => ⟨h.1.2, h.2⟩, fun h3 => by omega⟩
  rename_i hk1
  split at h
  · rename_i hk
    simp only [Bool.and_eq_true, decide_eq_true_eq, List.isEmpty_iff] at h
    rw [h.1]
    exact ⟨by simp, fun h3 => by omega, fun _ => by rcases h.2 with h | h <;> omega⟩
  rename_i hk3
  split at h
  · simp only [Bool.and_eq_true, decide_eq_true_eq] at h
    exact ⟨h.2, fun h3 => absurd h3 hk1, fun h3 => absurd h3 hk3⟩
  · cases h
theorem TabOk.name16 {T : Tab} (h : TabOk T) : 0 < T.name.length ∧ T.name.length ≤ 16 := name_len h.name

theorem colW_le {T : Tab} (h : TabOk T) (i : Nat) (hi : i < T.cols.length) : (colW (T.cols.getD i default)).length ≤ 5 := by
  have := (h.col hi).2.1
  unfold colW; rw [List.length_append, textW_length]; unfold nWords; simp only [List.length_singleton]; omega
theorem ixW_le {T : Tab} (h : TabOk T) (i : Nat) (hi : i < T.ixs.length) : (ixW (T.ixs.getD i default)).length ≤ 6 := by
  have := (h.ix hi).2.1
  unfold ixW; rw [List.length_append, textW_length]; unfold nWords; simp only [List.length_cons, List.length_nil]; omega
theorem valW_le {v : Val} (h : validB v = true) : (valW v).length ≤ 9 := by
  have := (valid_len h).1
  unfold valW
  split
  · simp
  split
  · simp
  rw [List.length_append, textW_length]; unfold nWords; simp only [List.length_singleton]; omega
theorem chkW_le {T : Tab} (h : TabOk T) (i : Nat) (hi : i < T.chks.length) : (chkW (T.chks.getD i default)).length ≤ 10 := by
  have := valW_le (h.chk hi).2.2.2.2.1
  unfold chkW; rw [List.length_append]; simp only [List.length_singleton]; omega

/-- 'a | b << k' where a has k bits. -/
theorem or_mul (a b : Int) (k : Nat) (m : Int) (hm : m = ((2 ^ k : Nat) : Int)) (ha : 0 ≤ a) (ha2 : a < m) (hb : 0 ≤ b) (hb2 : b * m < 9223372036854775808) (ham : m < 9223372036854775808) : bits .or .i64 a (b * m) = a + b * m := by
  obtain ⟨x, rfl⟩ := Int.eq_ofNat_of_zero_le ha
  obtain ⟨y, rfl⟩ := Int.eq_ofNat_of_zero_le hb
  subst hm
  rw [show ((y : Int) * ((2 ^ k : Nat) : Int)) = ((y * 2 ^ k : Nat) : Int) from by simp] at hb2 ⊢
  rw [i64_or_nat x (y * 2 ^ k) (by omega) (by omega), Nat.or_comm, or_low y x k (by omega)]
  omega

theorem packI_append (l m : List Int) : packI (l ++ m) = packI l + ((16 ^ l.length : Nat) : Int) * packI m := by
  induction l with
  | nil => simp [packI]
  | cons c l ih =>
    rw [List.cons_append, packI, ih, packI, List.length_cons, Nat.pow_succ, Int.mul_add, Int.natCast_mul, Int.mul_comm ((16 ^ l.length : Nat) : Int) ((16 : Nat) : Int), Int.mul_assoc]
    simp [Int.add_assoc]
theorem packI_succ (l : List Int) (k : Nat) (hk : k < l.length) : packI (l.take (k + 1)) = packI (l.take k) + l.getD k 0 * ((16 ^ k : Nat) : Int) := by
  rw [List.take_succ_eq_append_getElem hk, packI_append, List.length_take, Nat.min_eq_left (by omega)]
  rw [List.getD_eq_getElem?_getD, List.getElem?_eq_getElem hk]
  simp [packI, Int.mul_comm]
theorem packI_lt {l : List Int} (h : ∀ k, k < l.length → 0 ≤ l.getD k 0 ∧ l.getD k 0 < 8) (k : Nat) (hk : k ≤ l.length) : 0 ≤ packI (l.take k) ∧ packI (l.take k) < ((16 ^ k : Nat) : Int) := by
  induction k with
  | zero => simp [packI]
  | succ k ih =>
    obtain ⟨h1, h2⟩ := ih (by omega)
    obtain ⟨h3, h4⟩ := h k (by omega)
    rw [packI_succ l k (by omega), Nat.pow_succ]
    have h5 : 0 ≤ l.getD k 0 * ((16 ^ k : Nat) : Int) := Int.mul_nonneg h3 (by omega)
    have h6 : l.getD k 0 * ((16 ^ k : Nat) : Int) ≤ 7 * ((16 ^ k : Nat) : Int) := Int.mul_le_mul_of_nonneg_right (by omega) (by omega)
    rw [Int.natCast_mul]
    omega
theorem packI_drop (l : List Int) (k : Nat) (hk : k < l.length) : packI (l.drop k) = packI (l.drop (k + 1)) * 16 + l.getD k 0 := by
  rw [List.drop_eq_getElem_cons hk, packI, List.getD_eq_getElem?_getD, List.getElem?_eq_getElem hk]
  simp; omega
end Go.Proofs.Ytgimkipekoabbaa
