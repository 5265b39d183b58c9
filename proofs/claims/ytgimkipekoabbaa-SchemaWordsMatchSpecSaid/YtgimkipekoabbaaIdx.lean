/-
  Plain lemmas on the first place with a property; predicates as function values. No condition.
-/
import Derived.Test.YtgimkipekoabbaaChk
namespace Go.Proofs.Ytgimkipekoabbaa
open Go.RowKit

/-- The first place at which p holds, or -1. -/
def idxP {α : Type} (p : α → Bool) (l : List α) : Int := if l.any p = true then (l.findIdx p : Int) else -1
section
variable {α : Type} [Inhabited α] {p : α → Bool} {l : List α}
theorem getD_eq {k : Nat} (hk : k < l.length) : l.getD k default = l[k] := by rw [List.getD_eq_getElem?_getD, List.getElem?_eq_getElem hk]; rfl
theorem idxP_hit {k : Nat} (h : ∀ j, j < k → p (l.getD j default) = false) (hk : k < l.length) (hp : p (l.getD k default) = true) : idxP p l = k := by
  unfold idxP
  rw [if_pos (List.any_eq_true.2 ⟨_, getD_mem hk, hp⟩)]
  have : l.findIdx p = k := by
    refine (List.findIdx_eq hk).2 ⟨by rw [← getD_eq hk]; exact hp, fun j hj => ?_⟩
    have := h j hj
    rwa [getD_eq (by omega)] at this
  rw [this]
theorem idxP_miss (h : ∀ j, j < l.length → p (l.getD j default) = false) : idxP p l = -1 := by
  unfold idxP
  rw [if_neg]
  intro ha
  obtain ⟨x, hx, hp⟩ := List.any_eq_true.1 ha
  obtain ⟨i, hi, rfl⟩ := List.getElem_of_mem hx
  have := h i hi
  rw [getD_eq hi, hp] at this
  cases this
omit [Inhabited α] in
theorem idxP_nonneg (p : α → Bool) (l : List α) : decide ((0 : Int) ≤ idxP p l) = l.any p := by
  unfold idxP
  cases h : l.any p <;> simp
end

/-- A function value that says p of every x, in every world that keeps what lay in w. -/
def PredB {α : Type} (g : Nat) (lb : Array Value) (enc : α → Value) (p : α → Bool) (w : World) : Prop :=
  ∀ (W : World) (x : α), Below w.heap.size w W → Calls Try.prog g (#[enc x] ++ lb) W (RetV (.bool (p x)) W)

theorem name_beq (l m : List UInt8) : (l == m) = decide (l = m) := by rw [Bool.eq_iff_iff]; simp
theorem enters_fn {P : Program} {f : FuncId} {fn : Func} (hfn : P.funcs[f]? = some fn) (hn : (fn.name == "runtime.NumGoroutine") = false) (hbd : fn.body.isNone = false) (args : Array Value) (w : World) : (callFunc f args).run P w = .ok (.enter f args) w := by
  simp [callFunc, hfn]
  rw [if_neg (by simpa using hn), if_neg (by intro h; rw [h] at hbd; cases hbd)]
end Go.Proofs.Ytgimkipekoabbaa
