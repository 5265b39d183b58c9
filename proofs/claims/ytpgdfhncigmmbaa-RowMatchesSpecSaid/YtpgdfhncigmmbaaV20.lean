/-
  Chapter 20: the walk of schema.Words. No condition.
-/
import Derived.Test.YtpgdfhncigmmbaaC20
import Derived.Test.YtpgdfhncigmmbaaWFits
/-
  A writer behind a start, and its calls. No condition.
-/
namespace Go.Proofs.Ytpgdfhncigmmbaa
open Go.RowKit

theorem rd_one (w : World) (x : Int) : Rd (w.alloc (.cells #[.int .i64 x] 3)) (some ⟨w.heap.size, 0, none⟩) 1 1 1 (intVals [x]) :=
  Rd.ofOwn (own_new (e := 3) (base := 0) (Blk.new (w := w) (cs := intVals [x]) rfl rfl) (Nat.zero_le _) rfl (by decide))
theorem rd_two (w : World) (x y : Int) : Rd (w.alloc (.cells #[.int .i64 x, .int .i64 y] 3)) (some ⟨w.heap.size, 0, none⟩) 2 2 1 (intVals [x, y]) :=
  Rd.ofOwn (own_new (e := 3) (base := 0) (Blk.new (w := w) (cs := intVals [x, y]) rfl rfl) (Nat.zero_le _) rfl (by decide))

/-- 'c << (4 * k)' of a place. -/
theorem wrap_shl4 (c : Int) {k : Nat} (hk : k < 8) (h0 : 0 ≤ c) (h1 : c < 8) : wrap64 (c * 2 ^ (4 * k)) = c * ((16 ^ k : Nat) : Int) := by
  have hk8 : k = 0 ∨ k = 1 ∨ k = 2 ∨ k = 3 ∨ k = 4 ∨ k = 5 ∨ k = 6 ∨ k = 7 := by omega
  rcases hk8 with rfl | rfl | rfl | rfl | rfl | rfl | rfl | rfl <;> (simp; unfold wrap64; omega)
end Go.Proofs.Ytpgdfhncigmmbaa

/-
  The walk of schema.Words. No condition.
-/
namespace Go.Proofs.Ytpgdfhncigmmbaa
open Go.RowKit

/-- What Words returns. -/
def RetWords (T : Tab) (w : World) (e : Ending) (w' : World) : Prop :=
  Below w.heap.size w w' ∧ ∃ a n cap, e = .returned (.tuple #[.slice a n cap, .int .i64 (checkT T)]) ∧ Rd w' a n cap 1 (intVals (if checkT T = 0 then wordsT T else []))
theorem RetWords.err {T : Tab} {w w' : World} {v : Int} (hv : checkT T = v) (h0 : v ≠ 0) (hb : Below w.heap.size w w') : RetWords T w (.returned (.tuple #[.slice none 0 0, .int .i64 v])) w' := by
  subst hv
  refine ⟨hb, none, 0, 0, rfl, ?_⟩
  rw [if_neg h0]
  exact ⟨rfl, Nat.le_refl _, by decide, fun _ => rfl, fun ad ha => by cases ha⟩

end Go.Proofs.Ytpgdfhncigmmbaa
