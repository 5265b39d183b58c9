/-
  What the bound on the arguments' bulk gives. No condition.
-/
import Derived.Test.YtppmlhjpdmndoaaRows
import Derived.Test.YtppmlhjpdmndoaaWFew
namespace Go.Proofs.Ytppmlhjpdmndoaa.bulks

theorem bound {H : Type} {l : List (DataW H)} (hk : Rows.uptoSmall H l = true) : Rows.uptoBulkAll l ≤ 1048576 := of_decide_eq_true hk

theorem strs {H : Type} (ss : List (List UInt8)) : Rows.uptoBulkAll (ss.map fun x => DataW.lit (H := H) (.string x)) = totLen ss + ss.length := by
  induction ss with
  | nil => simp [Rows.uptoBulkAll, totLen]
  | cons s ss ih =>
    have h : totLen (s :: ss) = s.length + totLen ss := by simp [totLen]
    rw [List.map_cons, Rows.uptoBulkAll, ih, Rows.uptoBulk, h, List.length_cons]; omega

/-- The strings of a slice are short together. -/
theorem tot_le {H : Type} {d : DataW H} {ss : List (List UInt8)} {sp : List (DataW H)} (hd : (d = .slice (ss.map fun x => DataW.lit (.string x)) sp) ∨ (d = .nil ∧ (ss.map fun x => DataW.lit (H := H) (.string x)) = [] ∧ sp = [])) : totLen ss ≤ Rows.uptoBulk d := by
  rcases hd with rfl | ⟨_, h, _⟩
  · rw [Rows.uptoBulk, strs]; omega
  · have : ss = [] := by simpa using h
    subst this; simp [totLen]
end Go.Proofs.Ytppmlhjpdmndoaa.bulks
