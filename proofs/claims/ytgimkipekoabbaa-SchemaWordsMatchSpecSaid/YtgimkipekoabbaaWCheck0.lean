/-
  Lemmas for the walks of Check. No condition.
-/
import Derived.Test.YtgimkipekoabbaaWSl
namespace Go.Proofs.Ytgimkipekoabbaa
open Go.RowKit

theorem name_is {s : List UInt8} {b : Bool} (h : nameB s = b) (w : World) : Calls Try.prog 16 #[.string ⟨s.toArray⟩] w fun e w' => e = .returned (.bool b) ∧ Below w.heap.size w w' := by
  subst h; exact name_any s w
theorem crep_is {zs : List Col} {i : Nat} {d : Bool} (h : colTwice zs i = d) {a : Option Addr} {n cap : Nat} {w : World} (hr : Rd w a n cap 3 (recC Col.enc zs)) (hi : i < n) :
    Calls Try.prog 44 #[.slice a n cap, .int .i64 i, .func (.func 45) #[] #[]] w (RetV (.bool d) w) := by
  subst h; exact crepeated_any zs i a n cap w hr hi
theorem irep_is {zs : List IxP} {i : Nat} {d : Bool} (h : ixTwice (zs.map (·.x)) i = d) {a : Option Addr} {n cap : Nat} {w : World} (hr : Rd w a n cap 3 (recC IxP.enc zs)) (hi : i < n) :
    Calls Try.prog 46 #[.slice a n cap, .int .i64 i, .func (.func 47) #[] #[]] w (RetV (.bool d) w) := by
  subst h; exact irepeated_any zs i a n cap w hr hi

theorem valid_is {k n : Int} {s : List UInt8} {b : Bool} (h : validB ⟨k, n, s⟩ = b) (w : World) : Calls Try.prog 49 #[.agg #[.int .i64 k, .int .i64 n, .string ⟨s.toArray⟩]] w fun e w' => e = .returned (.bool b) ∧ Below w.heap.size w w' := by
  subst h; exact valid_any k n s w

theorem nm_valid : (Try.f49.name == "runtime.NumGoroutine") = false := by kernel_rfl
theorem bd_valid : Try.f49.body.isNone = false := by kernel_rfl
theorem agg40 : AggT Try.prog 40 3 := ⟨by kernel_rfl, by kernel_rfl⟩

theorem colErr_name {l : List Col} {i : Nat} {y : Col} (hy : l.getD i default = y) (h : nameB y.name = false) : colErr l i = 5 := by subst hy; unfold colErr; rw [if_pos h]
theorem colErr_twice {l : List Col} {i : Nat} {y : Col} (hy : l.getD i default = y) (h : nameB y.name = true) (h2 : colTwice l i = true) : colErr l i = 6 := by subst hy; unfold colErr; rw [h, if_neg (by decide), if_pos h2]
theorem colErr_kind {l : List Col} {i : Nat} {y : Col} (hy : l.getD i default = y) (h : nameB y.name = true) (h2 : colTwice l i = false) (h3 : kindB y.kind = false) : colErr l i = 7 := by
  subst hy; unfold colErr; rw [h, if_neg (by decide), h2, if_neg (by decide), if_pos h3]
theorem colErr_ok {l : List Col} {i : Nat} {y : Col} (hy : l.getD i default = y) (h : nameB y.name = true) (h2 : colTwice l i = false) (h3 : kindB y.kind = true) : colErr l i = 0 := by
  subst hy; unfold colErr; rw [h, if_neg (by decide), h2, if_neg (by decide), h3, if_neg (by decide)]
theorem ixErr_name {l : List Ix} {n i : Nat} {y : Ix} (hy : l.getD i default = y) (h : nameB y.name = false) : ixErr l n i = 5 := by subst hy; unfold ixErr; rw [if_pos h]
theorem ixErr_twice {l : List Ix} {n i : Nat} {y : Ix} (hy : l.getD i default = y) (h : nameB y.name = true) (h2 : ixTwice l i = true) : ixErr l n i = 6 := by subst hy; unfold ixErr; rw [h, if_neg (by decide), if_pos h2]
theorem ixErr_place {l : List Ix} {n i : Nat} {y : Ix} (hy : l.getD i default = y) (h : nameB y.name = true) (h2 : ixTwice l i = false) (h3 : placesB y.cols n = false) : ixErr l n i = 1 := by
  subst hy; unfold ixErr; rw [h, if_neg (by decide), h2, if_neg (by decide), if_pos h3]
theorem ixErr_ok {l : List Ix} {n i : Nat} {y : Ix} (hy : l.getD i default = y) (h : nameB y.name = true) (h2 : ixTwice l i = false) (h3 : placesB y.cols n = true) : ixErr l n i = 0 := by
  subst hy; unfold ixErr; rw [h, if_neg (by decide), h2, if_neg (by decide), h3, if_neg (by decide)]
theorem chkErr_place {l : List Chk} {cols : List Col} {i : Nat} {y : Chk} (hy : l.getD i default = y) (h : chkPlaceB y cols.length = false) : chkErr l cols i = 1 := by subst hy; unfold chkErr; rw [if_pos h]
theorem chkErr_type {l : List Chk} {cols : List Col} {i : Nat} {y : Chk} (hy : l.getD i default = y) (h : chkPlaceB y cols.length = true) (h2 : chkTypeB y cols = false) : chkErr l cols i = 7 := by subst hy; unfold chkErr; rw [h, if_neg (by decide), if_pos h2]
theorem chkErr_ok {l : List Chk} {cols : List Col} {i : Nat} {y : Chk} (hy : l.getD i default = y) (h : chkPlaceB y cols.length = true) (h2 : chkTypeB y cols = true) : chkErr l cols i = 0 := by
  subst hy; unfold chkErr; rw [h, if_neg (by decide), h2, if_neg (by decide)]
theorem placeErr_neg {l : List Int} {n i : Nat} {y : Int} (hy : l.getD i 0 = y) (h : y < 0) : placeErr l n i = 1 := by subst hy; unfold placeErr; rw [if_pos (.inl h)]
theorem placeErr_far {l : List Int} {n i : Nat} {y : Int} (hy : l.getD i 0 = y) (h : (n : Int) ≤ y) : placeErr l n i = 1 := by subst hy; unfold placeErr; rw [if_pos (.inr (.inl h))]
theorem placeErr_mem {l : List Int} {n i : Nat} {y : Int} (hy : l.getD i 0 = y) (h : decide (y ∈ l.take i) = true) : placeErr l n i = 1 := by subst hy; unfold placeErr; rw [if_pos (.inr (.inr (by simpa using h)))]
theorem placeErr_ok {l : List Int} {n i : Nat} {y : Int} (hy : l.getD i 0 = y) (h0 : 0 ≤ y) (h1 : y < (n : Int)) (h : decide (y ∈ l.take i) = false) : placeErr l n i = 0 := by
  subst hy; unfold placeErr; rw [if_neg]
  rintro (h2 | h2 | h2)
  · omega
  · omega
  · exact (of_decide_eq_false h) h2
theorem intVals_take (l : List Int) (k : Nat) : intVals (l.take k) = (intVals l).take k := by simp [intVals, List.map_take]

theorem all_succ {f : Nat → Int} {k : Nat} (h : ∀ j, j < k → f j = 0) (hk : f k = 0) : ∀ j, j < k + 1 → f j = 0 := fun j hj => by
  by_cases e : j = k
  · subst e; exact hk
  · exact h j (by omega)

theorem rname_is {s : List UInt8} {b : Bool} (h : nameB s = b) (w : World) : Calls Try.prog 17 #[.string ⟨s.toArray⟩] w fun e w' => e = .returned (.bool b) ∧ Below w.heap.size w w' := by
  subst h; exact rname_any s w
theorem colTwice_hit {l : List Col} {i m : Nat} (hm : m < i) (hi : i < l.length) (h : (l.getD m default).name = (l.getD i default).name) : colTwice l i = true := by
  unfold colTwice
  refine List.any_eq_true.2 ⟨l.getD m default, ?_, decide_eq_true h⟩
  rw [getD_eq (show m < l.length by omega)]
  exact List.mem_take_iff_getElem.2 ⟨m, by omega, rfl⟩
theorem colTwice_none {l : List Col} {i : Nat} (h : ∀ j, j < i → (l.getD j default).name ≠ (l.getD i default).name) : colTwice l i = false := by
  unfold colTwice
  rw [List.any_eq_false]
  intro x hx
  obtain ⟨m, hm, rfl⟩ := List.mem_take_iff_getElem.1 hx
  have := h m (by omega)
  rw [getD_eq (show m < l.length by omega)] at this
  simpa using this
theorem ixTwice_hit {l : List Ix} {i m : Nat} (hm : m < i) (hi : i < l.length) (h : (l.getD m default).name = (l.getD i default).name) : ixTwice l i = true := by
  unfold ixTwice
  refine List.any_eq_true.2 ⟨l.getD m default, ?_, decide_eq_true h⟩
  rw [getD_eq (show m < l.length by omega)]
  exact List.mem_take_iff_getElem.2 ⟨m, by omega, rfl⟩
theorem ixTwice_none {l : List Ix} {i : Nat} (h : ∀ j, j < i → (l.getD j default).name ≠ (l.getD i default).name) : ixTwice l i = false := by
  unfold ixTwice
  rw [List.any_eq_false]
  intro x hx
  obtain ⟨m, hm, rfl⟩ := List.mem_take_iff_getElem.1 hx
  have := h m (by omega)
  rw [getD_eq (show m < l.length by omega)] at this
  simpa using this
end Go.Proofs.Ytgimkipekoabbaa
