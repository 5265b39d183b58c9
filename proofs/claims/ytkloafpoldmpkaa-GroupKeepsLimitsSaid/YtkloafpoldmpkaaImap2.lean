/-
  Maps from int to int that the call itself makes. No condition.
-/
import Derived.Test.YtkloafpoldmpkaaStar
namespace Go.Proofs.Ytkloafpoldmpkaa
open Go.RowKit Go.Maps

section
variable {P : Program} {k e t : TypeId}

/-- Block b is a map of at most n entries in which f is read. -/
structure IntM (P : Program) (k e : TypeId) (w : World) (b n : Nat) (f : Int → Int) : Prop where
  own : ∃ D : DataW Unit, w.ownsMap P k (plainElem P e) b n D ∧ ∀ x, In64 x → D.atKey (.int .i64 x) (.lit (.int .i64 0)) = .lit (.int .i64 (f x))

theorem IntM.eq {w w' : World} {b n : Nat} {f : Int → Int} (h : IntM P k e w b n f) (he : w'.heap[b]? = w.heap[b]?) : IntM P k e w' b n f := by
  obtain ⟨D, ⟨es, clock, hb, F, hs, hD⟩, h3⟩ := h
  exact ⟨D, ⟨es, clock, he.trans hb, F, hs, hD⟩, h3⟩
theorem IntM.lt {w : World} {b n : Nat} {f : Int → Int} (h : IntM P k e w b n f) : b < w.heap.size := by
  obtain ⟨D, h1, _⟩ := h; exact h1.lt
theorem IntM.made (w : World) : IntM P k e (w.alloc (.map #[] 0)) w.heap.size 0 (fun _ => 0) :=
  ⟨.map [], World.ownsMap_made w P k _, fun x _ => by simp [DataW.atKey]⟩

variable (hk : P.underlying k = some (.int .i64)) (he : P.underlying e = some (.int .i64)) (ht : P.underlying t = some (.map k e)) (hz : ∀ w, (zeroValue e).run P w = .ok (.int .i64 0) w)
include hk ht he

include hz in
theorem IntM.look {w : World} {b n : Nat} {f : Int → Int} (h : IntM P k e w b n f) {x : Int} (hx : In64 x) : (Instr.lookup t (.map (some b)) (.int .i64 x) false).run P w = .ok (.int .i64 (f x)) w := by
  obtain ⟨D, h1, h3⟩ := h
  obtain ⟨v, ps, hrun, hv⟩ := h1.lookup (int_keyed hk) ht (hz w) (plainElem_int he (wf64 (x := 0) (by unfold In64; omega))) (keyOf_int_mk hk (wf64 hx))
  rw [h3 x hx] at hv
  rw [hrun]
  have : v = .int .i64 (f x) := by
    obtain ⟨a, rfl, hz, _⟩ := plainElem_int_inv he hv
    simp only [Prod.mk.injEq, DataW.lit.injEq, Lit.int.injEq, true_and] at hz
    rw [hz.1]
  rw [this]

theorem IntM.store {w : World} {b n : Nat} {f : Int → Int} (h : IntM P k e w b n f) {x v : Int} (hx : In64 x) (hv : In64 v) (hn : n < maxLen) :
    ∃ w', (Instr.mapUpdate t (.map (some b)) (.int .i64 x) (.int .i64 v)).run P w = .ok () w' ∧ IntM P k e w' b (n + 1) (fun y => if y = x then v else f y) ∧ w.mapTurned w' b := by
  obtain ⟨D, h1, h3⟩ := h
  obtain ⟨w', hrun, h4, h5⟩ := h1.store (int_keyed hk) ht hn (keyOf_int_mk hk (wf64 hx)) (plainElem_int he (wf64 hv))
  refine ⟨w', hrun, ⟨D.put (.int .i64 x) (.lit (.int .i64 v)), h4, fun y hy => ?_⟩, h5⟩
  by_cases hxy : y = x
  · subst hxy
    rw [atKey_put_same h1.isMap (by simp [WideAt.IsKeyLit]), if_pos rfl]
  · have hne : (Lit.int .i64 y) ≠ (Lit.int .i64 x) := by intro h; injection h with _ h2; exact hxy h2
    rw [atKey_put_other hne, h3 y hy, if_neg hxy]
end

def IntMP (P : Program) (k e : TypeId) (b n : Nat) (f : Int → Int) : HP := fun w F => IntM P k e w b n f ∧ F = [b]
theorem IntMP.stb (P : Program) (k e : TypeId) (b n : Nat) (f : Int → Int) : Stb (IntMP P k e b n f) :=
  ⟨fun w F ⟨h, hF⟩ x hx => by subst hF; simp at hx; subst hx; exact h.lt, fun w w' F ⟨h, hF⟩ he => ⟨h.eq (he b (by simp [hF])), hF⟩⟩
theorem Own.intM {B : Nat} {w : World} {l : List HP} (O : Own B w l) (i : Nat) {P : Program} {k e : TypeId} {b n : Nat} {f : Int → Int} (hi : l[i]? = some (IntMP P k e b n f)) : IntM P k e w b n f := by
  obtain ⟨F, ⟨h1, rfl⟩, _⟩ := O.get i hi; exact h1
theorem Own.newMap {B : Nat} {w : World} {l : List HP} (O : Own B w l) (P : Program) (k e : TypeId) : Own B (w.alloc (.map #[] 0)) (l ++ [IntMP P k e w.heap.size 0 (fun _ => 0)]) :=
  O.more ((Below.refl _ _).alloc (Nat.le_refl _) _) (IntMP.stb _ _ _ _ _ _) ⟨IntM.made w, rfl⟩ (by simp)
theorem Own.mapSet {B : Nat} {w w' : World} {l : List HP} (O : Own B w l) (i : Nat) {P : Program} {k e : TypeId} {b n n' : Nat} {f f' : Int → Int} (hi : l[i]? = some (IntMP P k e b n f)) (h1 : IntM P k e w' b n' f') (h2 : w.mapTurned w' b) : Own B w' (l.set i (IntMP P k e b n' f')) ∧ Below B w w' := by
  obtain ⟨F, ⟨k1, rfl⟩, k2, k3⟩ := O.turn i hi
  exact k3 _ _ [b] (IntMP.stb _ _ _ _ _ _) ((But.refl _ w).turned h2 (.inl (by simp))) ⟨h1, rfl⟩ (fun x hx => .inl hx)
end Go.Proofs.Ytkloafpoldmpkaa
