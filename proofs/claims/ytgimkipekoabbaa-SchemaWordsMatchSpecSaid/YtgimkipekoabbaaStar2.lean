/-
  Two objects that lie apart: their blocks differ. No condition.
-/
import Derived.Test.YtgimkipekoabbaaStar
namespace Go.Proofs.Ytgimkipekoabbaa
open Go.RowKit

theorem Seps.at : ∀ {l : List HP} {w : World} {F : List Nat} (i : Nat) {P : HP}, l[i]? = some P → Seps l w F → ∃ F1, P w F1 ∧ ∀ x ∈ F1, x ∈ F
  | [], _, _, i, _, hi, _ => by simp at hi
  | R :: l, w, F, 0, P, hi, ⟨F1, F2, h1, _, _, hF⟩ => by
    simp only [List.getElem?_cons_zero, Option.some.injEq] at hi
    subst hi; subst hF
    exact ⟨F1, h1, fun x hx => List.mem_append.2 (.inl hx)⟩
  | R :: l, w, F, i + 1, P, hi, ⟨F1, F2, _, h2, _, hF⟩ => by
    subst hF
    obtain ⟨G, k1, k2⟩ := Seps.at i (by simpa using hi) h2
    exact ⟨G, k1, fun x hx => List.mem_append.2 (.inr (k2 x hx))⟩
theorem Seps.two : ∀ {l : List HP} {w : World} {F : List Nat} (i j : Nat) {P Q : HP}, i < j → l[i]? = some P → l[j]? = some Q → Seps l w F → ∃ F1 F2, P w F1 ∧ Q w F2 ∧ ∀ x ∈ F1, x ∉ F2
  | [], _, _, i, _, _, _, _, hi, _, _ => by simp at hi
  | R :: l, w, F, 0, j + 1, P, Q, _, hi, hj, ⟨F1, F2, h1, h2, h3, hF⟩ => by
    simp only [List.getElem?_cons_zero, Option.some.injEq] at hi
    subst hi
    obtain ⟨G, k1, k2⟩ := Seps.at j (by simpa using hj) h2
    exact ⟨F1, G, h1, k1, fun x hx hm => h3 x hx (k2 x hm)⟩
  | R :: l, w, F, i + 1, j + 1, P, Q, hij, hi, hj, ⟨F1, F2, _, h2, _, hF⟩ => Seps.two i j (by omega) (by simpa using hi) (by simpa using hj) h2
theorem Own.ne {B : Nat} {w : World} {l : List HP} (O : Own B w l) (i j : Nat) (hij : i < j) {g h : Nat} {t u : TypeId} {cs ds : List Value} (hi : l[i]? = some (BlkP g t cs)) (hj : l[j]? = some (BlkP h u ds)) : g ≠ h := by
  obtain ⟨_, _, F, hF, _⟩ := O
  obtain ⟨F1, F2, ⟨_, h1⟩, ⟨_, h2⟩, h3⟩ := Seps.two i j hij hi hj hF
  subst h1; subst h2
  intro e; subst e
  exact h3 g (by simp) (by simp)

theorem Own.toRd {B : Nat} {w : World} {l : List HP} (O : Own B w l) (i : Nat) {e : TypeId} {size : Nat} {a : Option Addr} {n cap : Nat} {xs : List Value} (hi : l[i]? = some (RowP e size a n cap xs)) : Own B w (l.set i (RdP size a n cap xs)) := by
  obtain ⟨F, ⟨h1, hF⟩, h2, h3⟩ := O.turn i hi
  exact (h3 (RdP size a n cap xs) w F (RdP.stb _ _ _ _ _) (But.refl _ _) ⟨Rd.ofOwn h1, fun x hx => by rw [hF] at hx; exact (h1.lt x (by simpa using hx)).2, fun ad ha _ => by rw [hF, ha]; simp [Value.ownBlock]⟩ (fun x hx => .inl hx)).1
end Go.Proofs.Ytgimkipekoabbaa
