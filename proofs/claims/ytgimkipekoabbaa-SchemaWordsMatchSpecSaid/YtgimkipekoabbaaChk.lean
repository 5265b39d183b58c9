/-
  Plain mathematics of chapter 20: what Check and Fits return. No condition.
-/
import Derived.Test.YtgimkipekoabbaaRec
namespace Go.Proofs.Ytgimkipekoabbaa

/-- The first that is not 0 of f 0 .. f (n - 1). -/
def firstE (f : Nat → Int) : Nat → Int
  | 0 => 0
  | n + 1 => if firstE f n ≠ 0 then firstE f n else f n
theorem firstE_zero {f : Nat → Int} {n : Nat} (h : ∀ j, j < n → f j = 0) : firstE f n = 0 := by
  induction n with
  | zero => rfl
  | succ n ih => unfold firstE; rw [ih (fun j hj => h j (by omega)), h n (by omega)]; simp
theorem firstE_hit {f : Nat → Int} {n k : Nat} (h : ∀ j, j < k → f j = 0) (hk : k < n) (hf : f k ≠ 0) : firstE f n = f k := by
  induction n with
  | zero => omega
  | succ n ih =>
    unfold firstE
    by_cases hkn : k = n
    · subst hkn; rw [firstE_zero h]; simp
    · rw [ih (by omega), if_pos hf]
theorem firstE_eq_zero {f : Nat → Int} {n : Nat} (h : firstE f n = 0) : ∀ j, j < n → f j = 0 := by
  induction n with
  | zero => intro j hj; omega
  | succ n ih =>
    unfold firstE at h
    by_cases h0 : firstE f n = 0
    · rw [if_neg (by simpa using h0)] at h
      intro j hj
      by_cases e : j = n
      · subst e; exact h
      · exact ih h0 j (by omega)
    · rw [if_pos h0] at h; exact absurd h h0
theorem firstE_ne {f : Nat → Int} {n : Nat} (h : firstE f n ≠ 0) : ∃ k, k < n ∧ firstE f n = f k ∧ f k ≠ 0 ∧ ∀ j, j < k → f j = 0 := by
  induction n with
  | zero => exact absurd rfl h
  | succ n ih =>
    by_cases h0 : firstE f n = 0
    · have hn := firstE_eq_zero h0
      unfold firstE at h ⊢
      rw [if_neg (by simpa using h0)] at h ⊢
      exact ⟨n, by omega, rfl, h, hn⟩
    · obtain ⟨k, h1, h2, h3, h4⟩ := ih h0
      unfold firstE
      rw [if_pos h0]
      exact ⟨k, by omega, h2, h3, h4⟩
theorem firstE_congr {f g : Nat → Int} {n : Nat} (h : ∀ j, j < n → f j = g j) : firstE f n = firstE g n := by
  induction n with
  | zero => rfl
  | succ n ih => unfold firstE; rw [ih (fun j hj => h j (by omega)), h n (by omega)]

/-- The name of element i stands ahead of it. -/
def colTwice (l : List Col) (i : Nat) : Bool := (l.take i).any fun d => decide (d.name = (l.getD i default).name)
def ixTwice (l : List Ix) (i : Nat) : Bool := (l.take i).any fun d => decide (d.name = (l.getD i default).name)
def kindB (k : Int) : Bool := decide (1 ≤ k ∧ k ≤ 3)
def colErr (l : List Col) (i : Nat) : Int :=
  if nameB (l.getD i default).name = false then 5 else if colTwice l i = true then 6 else if kindB (l.getD i default).kind = false then 7 else 0
def placeErr (l : List Int) (n : Nat) (i : Nat) : Int := if l.getD i 0 < 0 ∨ (n : Int) ≤ l.getD i 0 ∨ l.getD i 0 ∈ l.take i then 1 else 0
/-- Different places of n columns, at least one. -/
def placesB (l : List Int) (n : Nat) : Bool := decide (0 < l.length) && decide (firstE (placeErr l n) l.length = 0)
def ixErr (l : List Ix) (n : Nat) (i : Nat) : Int :=
  if nameB (l.getD i default).name = false then 5 else if ixTwice l i = true then 6 else if placesB (l.getD i default).cols n = false then 1 else 0
def chkPlaceB (x : Chk) (n : Nat) : Bool := decide (0 ≤ x.col ∧ x.col < n ∧ 6 ≤ x.op ∧ x.op ≤ 11)
def chkTypeB (x : Chk) (cols : List Col) : Bool := validB x.val && decide (x.val.kind = (cols.getD x.col.toNat default).kind)
def chkErr (l : List Chk) (cols : List Col) (i : Nat) : Int :=
  if chkPlaceB (l.getD i default) cols.length = false then 1 else if chkTypeB (l.getD i default) cols = false then 7 else 0
def colsE (l : List Col) : Int := firstE (colErr l) l.length
def ixsE (l : List Ix) (n : Nat) : Int := firstE (ixErr l n) l.length
def chksE (l : List Chk) (cols : List Col) : Int := firstE (chkErr l cols) l.length
/-- What Check returns. -/
def checkT (T : Tab) : Int :=
  if nameB T.name = false then 5
  else if T.cols.length = 0 ∨ 8 < T.cols.length then 2
  else if colsE T.cols ≠ 0 then colsE T.cols
  else if 4 < T.ixs.length then 2
  else if ixsE T.ixs T.cols.length ≠ 0 then ixsE T.ixs T.cols.length
  else if 4 < T.chks.length then 2
  else chksE T.chks T.cols

theorem checkT_name {T : Tab} (h : nameB T.name = false) : checkT T = 5 := by unfold checkT; rw [if_pos h]
theorem checkT_cols {T : Tab} (h : nameB T.name = true) (h1 : T.cols.length = 0 ∨ 8 < T.cols.length) : checkT T = 2 := by unfold checkT; rw [if_neg (by simp [h]), if_pos h1]
theorem checkT_colsE {T : Tab} (h : nameB T.name = true) (h1 : ¬ (T.cols.length = 0 ∨ 8 < T.cols.length)) (h2 : colsE T.cols ≠ 0) : checkT T = colsE T.cols := by
  unfold checkT; rw [if_neg (by simp [h]), if_neg h1, if_pos h2]
theorem checkT_ixs {T : Tab} (h : nameB T.name = true) (h1 : ¬ (T.cols.length = 0 ∨ 8 < T.cols.length)) (h2 : colsE T.cols = 0) (h3 : 4 < T.ixs.length) : checkT T = 2 := by
  unfold checkT; rw [if_neg (by simp [h]), if_neg h1, if_neg (by simpa using h2), if_pos h3]
theorem checkT_ixsE {T : Tab} (h : nameB T.name = true) (h1 : ¬ (T.cols.length = 0 ∨ 8 < T.cols.length)) (h2 : colsE T.cols = 0) (h3 : ¬ 4 < T.ixs.length) (h4 : ixsE T.ixs T.cols.length ≠ 0) : checkT T = ixsE T.ixs T.cols.length := by
  unfold checkT; rw [if_neg (by simp [h]), if_neg h1, if_neg (by simpa using h2), if_neg h3, if_pos h4]
theorem checkT_chks {T : Tab} (h : nameB T.name = true) (h1 : ¬ (T.cols.length = 0 ∨ 8 < T.cols.length)) (h2 : colsE T.cols = 0) (h3 : ¬ 4 < T.ixs.length) (h4 : ixsE T.ixs T.cols.length = 0) (h5 : 4 < T.chks.length) : checkT T = 2 := by
  unfold checkT; rw [if_neg (by simp [h]), if_neg h1, if_neg (by simpa using h2), if_neg h3, if_neg (by simpa using h4), if_pos h5]
theorem checkT_chksE {T : Tab} (h : nameB T.name = true) (h1 : ¬ (T.cols.length = 0 ∨ 8 < T.cols.length)) (h2 : colsE T.cols = 0) (h3 : ¬ 4 < T.ixs.length) (h4 : ixsE T.ixs T.cols.length = 0) (h5 : ¬ 4 < T.chks.length) : checkT T = chksE T.chks T.cols := by
  unfold checkT; rw [if_neg (by simp [h]), if_neg h1, if_neg (by simpa using h2), if_neg h3, if_neg (by simpa using h4), if_neg h5]

/-- Numbers below n that differ are at most n. -/
theorem nodup_le (n : Nat) : ∀ (l : List Int), (∀ x ∈ l, 0 ≤ x ∧ x < (n : Int)) → l.Nodup → l.length ≤ n := by
  induction n with
  | zero =>
    intro l h _
    cases l with
    | nil => simp
    | cons x l => have := h x (by simp); omega
  | succ n ih =>
    intro l h hd
    have h1 := ih (l.filter fun x => decide (x ≠ (n : Int))) (fun x hx => by
      obtain ⟨h1, h2⟩ := List.mem_filter.1 hx
      have := h x h1
      simp at h2
      omega) (hd.filter _)
    have h2 : l.length ≤ (l.filter fun x => decide (x ≠ (n : Int))).length + 1 := by
      clear h1 ih h
      induction l with
      | nil => simp
      | cons x l ihl =>
        have hd' := List.nodup_cons.1 hd
        by_cases e : x = (n : Int)
        · subst e
          have : l.filter (fun x => decide (x ≠ (n : Int))) = l := List.filter_eq_self.2 (fun y hy => by
            simp; intro e; subst e; exact hd'.1 hy)
          rw [List.filter_cons, if_neg (by simp), this]; simp
        · rw [List.filter_cons, if_pos (by simpa using e)]
          have := ihl hd'.2
          simp only [List.length_cons]; omega
    omega

theorem placesB_true {l : List Int} {n : Nat} (h : placesB l n = true) : 0 < l.length ∧ (∀ x ∈ l, 0 ≤ x ∧ x < (n : Int)) ∧ l.Nodup := by
  unfold placesB at h
  simp only [Bool.and_eq_true, decide_eq_true_eq] at h
  obtain ⟨h0, h1⟩ := h
  have h2 := firstE_eq_zero h1
  have h3 : ∀ j, j < l.length → 0 ≤ l.getD j 0 ∧ l.getD j 0 < (n : Int) ∧ l.getD j 0 ∉ l.take j := fun j hj => by
    have := h2 j hj
    unfold placeErr at this
    split at this
    · cases this
    · rename_i hn
      exact ⟨by omega, by omega, fun hm => hn (.inr (.inr hm))⟩
  refine ⟨h0, fun x hx => ?_, ?_⟩
  · obtain ⟨i, hi, rfl⟩ := List.getElem_of_mem hx
    have := h3 i hi
    rw [List.getD_eq_getElem?_getD, List.getElem?_eq_getElem hi] at this
    exact ⟨this.1, this.2.1⟩
  · rw [List.nodup_iff_pairwise_ne, List.pairwise_iff_getElem]
    intro i j hi hj hij e
    have := (h3 j hj).2.2
    rw [List.getD_eq_getElem?_getD, List.getElem?_eq_getElem hj] at this
    exact this (by rw [Option.getD_some, ← e]; exact List.mem_take_iff_getElem.2 ⟨i, by omega, rfl⟩)
theorem placesB_le {l : List Int} {n : Nat} (h : placesB l n = true) : l.length ≤ n := by
  obtain ⟨_, h1, h2⟩ := placesB_true h
  exact nodup_le n l h1 h2
theorem placesB_long {l : List Int} {n : Nat} (h : n < l.length) : placesB l n = false := by
  cases hp : placesB l n
  · rfl
  · have := placesB_le hp; omega
theorem placesB_nil {l : List Int} {n : Nat} (h : l.length = 0) : placesB l n = false := by unfold placesB; simp [h]
theorem placesB_hit {l : List Int} {n k : Nat} (h : ∀ j, j < k → placeErr l n j = 0) (hk : k < l.length) (hf : placeErr l n k ≠ 0) : placesB l n = false := by
  unfold placesB; rw [firstE_hit h hk hf]; simp [hf]
theorem placesB_all {l : List Int} {n : Nat} (h0 : 0 < l.length) (h : ∀ j, j < l.length → placeErr l n j = 0) : placesB l n = true := by
  unfold placesB; rw [firstE_zero h]; simp [h0]
end Go.Proofs.Ytgimkipekoabbaa
