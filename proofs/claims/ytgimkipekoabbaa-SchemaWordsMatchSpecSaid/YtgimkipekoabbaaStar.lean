/-
  Objects that lie apart from one another in memory: one list of them, each with its blocks; what a call on one of them leaves. No condition.
-/
import Derived.Test.YtgimkipekoabbaaImap
namespace Go.Proofs.Ytgimkipekoabbaa
open Go.RowKit

/-- What an object says of a world, by its blocks. -/
abbrev HP := World → List Nat → Prop

/-- It hangs on its own blocks alone. -/
structure Stb (P : HP) : Prop where
  lt : ∀ w F, P w F → ∀ x ∈ F, x < w.heap.size
  eq : ∀ w w' F, P w F → (∀ x ∈ F, w'.heap[x]? = w.heap[x]?) → P w' F

def Seps : List HP → HP
  | [] => fun _ F => F = []
  | P :: l => fun w F => ∃ F1 F2, P w F1 ∧ Seps l w F2 ∧ (∀ x ∈ F1, x ∉ F2) ∧ F = F1 ++ F2

theorem Seps.lt : ∀ {l : List HP}, (∀ P ∈ l, Stb P) → ∀ {w F}, Seps l w F → ∀ x ∈ F, x < w.heap.size
  | [], _, w, F, h, x, hx => by unfold Seps at h; subst h; cases hx
  | P :: l, hs, w, F, ⟨F1, F2, h1, h2, _, hF⟩, x, hx => by
    subst hF
    rcases List.mem_append.1 hx with hx | hx
    · exact (hs P (by simp)).lt w F1 h1 x hx
    · exact Seps.lt (fun Q hQ => hs Q (by simp [hQ])) h2 x hx
theorem Seps.eq : ∀ {l : List HP}, (∀ P ∈ l, Stb P) → ∀ {w w' : World} {F}, Seps l w F → (∀ x ∈ F, w'.heap[x]? = w.heap[x]?) → Seps l w' F
  | [], _, w, w', F, h, _ => h
  | P :: l, hs, w, w', F, ⟨F1, F2, h1, h2, h3, hF⟩, he => by
    subst hF
    exact ⟨F1, F2, (hs P (by simp)).eq w w' F1 h1 (fun x hx => he x (by simp [hx])), Seps.eq (fun Q hQ => hs Q (by simp [hQ])) h2 (fun x hx => he x (by simp [hx])), h3, rfl⟩

/-- One object out of the list, and what may stand in its place. -/
theorem Seps.split : ∀ {l : List HP}, (∀ P ∈ l, Stb P) → ∀ {w : World} {F : List Nat} (i : Nat) {P : HP}, l[i]? = some P → Seps l w F →
    ∃ F1 F2 : List Nat, P w F1 ∧ (∀ x ∈ F1, x ∉ F2) ∧ (∀ x, x ∈ F ↔ x ∈ F1 ∨ x ∈ F2) ∧ ∀ (Q : HP) (w' : World) (F1' : List Nat), Q w' F1' → (∀ x ∈ F1', x ∉ F2) → (∀ x ∈ F2, w'.heap[x]? = w.heap[x]?) →
      ∃ F', Seps (l.set i Q) w' F' ∧ ∀ x, x ∈ F' ↔ x ∈ F1' ∨ x ∈ F2
  | [], _, w, F, i, P, hi, h => by simp at hi
  | R :: l, hs, w, F, 0, P, hi, ⟨F1, F2, h1, h2, h3, hF⟩ => by
    simp only [List.getElem?_cons_zero, Option.some.injEq] at hi
    subst hi; subst hF
    exact ⟨F1, F2, h1, h3, fun x => List.mem_append, fun Q w' F1' hQ hd he => ⟨F1' ++ F2, ⟨F1', F2, hQ, Seps.eq (fun P hP => hs P (by simp [hP])) h2 he, hd, rfl⟩, fun x => List.mem_append⟩⟩
  | R :: l, hs, w, F, i + 1, P, hi, ⟨G1, G2, h1, h2, h3, hF⟩ => by
    subst hF
    obtain ⟨F1, F2, k1, k2, k3, k4⟩ := Seps.split (fun Q hQ => hs Q (by simp [hQ])) i (by simpa using hi) h2
    refine ⟨F1, G1 ++ F2, k1, fun x hx hm => ?_, fun x => ?_, fun Q w' F1' hQ hd he => ?_⟩
    · rcases List.mem_append.1 hm with hm | hm
      · exact h3 x hm ((k3 x).2 (.inl hx))
      · exact k2 x hx hm
    · rw [List.mem_append, List.mem_append, k3 x]; exact ⟨fun h => by rcases h with h | h | h <;> simp [h], fun h => by rcases h with h | h | h <;> simp [h]⟩
    · obtain ⟨F', h5, h6⟩ := k4 Q w' F1' hQ (fun x hx hm => hd x hx (List.mem_append.2 (.inr hm))) (fun x hx => he x (List.mem_append.2 (.inr hx)))
      refine ⟨G1 ++ F', ⟨G1, F', (hs R (by simp)).eq w w' G1 h1 (fun x hx => he x (List.mem_append.2 (.inl hx))), h5, fun x hx hm => ?_, rfl⟩, fun x => ?_⟩
      · rcases (h6 x).1 hm with hm | hm
        · exact hd x hm (List.mem_append.2 (.inl hx))
        · exact h3 x hx ((k3 x).2 (.inr hm))
      · rw [List.mem_append, h6 x, List.mem_append]; exact ⟨fun h => by rcases h with h | h | h <;> simp [h], fun h => by rcases h with h | h | h <;> simp [h]⟩

theorem Seps.snoc : ∀ {l : List HP} {w : World} {F F1 : List Nat} {Q : HP}, Seps l w F → Q w F1 → (∀ x ∈ F, x ∉ F1) → Seps (l ++ [Q]) w (F ++ F1)
  | [], w, F, F1, Q, h, hQ, hd => by unfold Seps at h; subst h; exact ⟨F1, [], hQ, rfl, by simp, by simp⟩
  | P :: l, w, F, F1, Q, ⟨G1, G2, h1, h2, h3, hF⟩, hQ, hd => by
    subst hF
    exact ⟨G1, G2 ++ F1, h1, Seps.snoc h2 hQ (fun x hx => hd x (List.mem_append.2 (.inr hx))), fun x hx hm => by
      rcases List.mem_append.1 hm with hm | hm
      · exact h3 x hx hm
      · exact hd x (List.mem_append.2 (.inl hx)) hm, by rw [List.append_assoc]⟩

/-- From block B on lie the objects l, apart from one another. -/
structure Own (B : Nat) (w : World) (l : List HP) : Prop where
  base : B ≤ w.heap.size
  stb : ∀ P ∈ l, Stb P
  seps : ∃ F, Seps l w F ∧ ∀ x ∈ F, B ≤ x

theorem Own.start (w : World) : Own w.heap.size w [] := ⟨Nat.le_refl _, by simp, [], rfl, by simp⟩

/-- The turn of object i. -/
theorem Own.turn {B : Nat} {w : World} {l : List HP} (O : Own B w l) (i : Nat) {P : HP} (hi : l[i]? = some P) :
    ∃ F, P w F ∧ (∀ x ∈ F, B ≤ x) ∧ ∀ (Q : HP) (w' : World) (F' : List Nat), Stb Q → But F w w' → Q w' F' → (∀ x ∈ F', x ∈ F ∨ w.heap.size ≤ x) → Own B w' (l.set i Q) ∧ Below B w w' := by
  obtain ⟨hb, hs, F, hF, hB⟩ := O
  obtain ⟨F1, F2, k1, k2, k3, k4⟩ := Seps.split hs i hi hF
  refine ⟨F1, k1, fun x hx => hB x ((k3 x).2 (.inl hx)), fun Q w' F1' sQ hbut hQ hsub => ?_⟩
  have hlt : ∀ x ∈ F, x < w.heap.size := Seps.lt hs hF
  obtain ⟨F', h5, h6⟩ := k4 Q w' F1' hQ (fun x hx hm => by
    rcases hsub x hx with h | h
    · exact k2 x h hm
    · have := hlt x ((k3 x).2 (.inr hm)); omega) (fun x hx => hbut.block x (hlt x ((k3 x).2 (.inr hx))) (fun hm => k2 x hm hx))
  refine ⟨⟨Nat.le_trans hb hbut.size, fun R hR => ?_, F', h5, fun x hx => ?_⟩, hbut.toBelow hb (fun x hx => hB x ((k3 x).2 (.inl hx)))⟩
  · rcases List.mem_or_eq_of_mem_set hR with h | h
    · exact hs R h
    · rw [h]; exact sQ
  · rcases (h6 x).1 hx with h | h
    · rcases hsub x h with h | h
      · exact hB x ((k3 x).2 (.inl h))
      · omega
    · exact hB x ((k3 x).2 (.inr h))

/-- Object i, to read. -/
theorem Own.get {B : Nat} {w : World} {l : List HP} (O : Own B w l) (i : Nat) {P : HP} (hi : l[i]? = some P) : ∃ F, P w F ∧ ∀ x ∈ F, B ≤ x := by
  obtain ⟨F, h1, h2, _⟩ := O.turn i hi; exact ⟨F, h1, h2⟩

/-- A further object that is new. -/
theorem Own.more {B : Nat} {w w' : World} {l : List HP} (O : Own B w l) (hb : Below w.heap.size w w') {Q : HP} (sQ : Stb Q) {F : List Nat} (hQ : Q w' F) (hF : ∀ x ∈ F, w.heap.size ≤ x) : Own B w' (l ++ [Q]) := by
  obtain ⟨h1, hs, G, hG, hB⟩ := O
  have hlt : ∀ x ∈ G, x < w.heap.size := Seps.lt hs hG
  refine ⟨Nat.le_trans h1 hb.size, fun R hR => ?_, G ++ F, Seps.snoc (Seps.eq hs hG (fun x hx => hb.block x (hlt x hx))) hQ (fun x hx hm => ?_), fun x hx => ?_⟩
  · rcases List.mem_append.1 hR with h | h
    · exact hs R h
    · simp at h; rw [h]; exact sQ
  · have := hlt x hx; have := hF x hm; omega
  · rcases List.mem_append.1 hx with h | h
    · exact hB x h
    · have := hF x h; omega
theorem Own.below {B : Nat} {w w' : World} {l : List HP} (O : Own B w l) (hb : Below w.heap.size w w') : Own B w' l := by
  obtain ⟨h1, hs, G, hG, hB⟩ := O
  exact ⟨Nat.le_trans h1 hb.size, hs, G, Seps.eq hs hG (fun x hx => hb.block x (Seps.lt hs hG x hx)), hB⟩
theorem Own.alloc {B : Nat} {w : World} {l : List HP} (O : Own B w l) (o : Obj) : Own B (w.alloc o) l := O.below ((Below.refl _ _).alloc (Nat.le_refl _) o)
theorem Own.drewN {B : Nat} {w : World} {l : List HP} (O : Own B w l) (n : Nat) : Own B (w.drewN n) l := O.below (below_drewN (Below.refl _ _) n)
theorem Own.drew {B : Nat} {w : World} {l : List HP} (O : Own B w l) : Own B w.drew l := O.below ((Below.refl _ _).drew)

/-- Objects that are no longer asked for. -/
theorem Seps.drop : ∀ {l : List HP}, (∀ P ∈ l, Stb P) → ∀ {w : World} {F : List Nat} (i : Nat), Seps l w F → ∃ F', Seps (l.eraseIdx i) w F' ∧ ∀ x ∈ F', x ∈ F
  | [], _, w, F, i, h => ⟨F, by simpa using h, fun _ h => h⟩
  | P :: l, hs, w, F, 0, ⟨F1, F2, h1, h2, h3, hF⟩ => by subst hF; exact ⟨F2, h2, fun x hx => List.mem_append.2 (.inr hx)⟩
  | P :: l, hs, w, F, i + 1, ⟨F1, F2, h1, h2, h3, hF⟩ => by
    subst hF
    obtain ⟨F', k1, k2⟩ := Seps.drop (fun Q hQ => hs Q (by simp [hQ])) i h2
    exact ⟨F1 ++ F', ⟨F1, F', h1, k1, fun x hx hm => h3 x hx (k2 x hm), rfl⟩, fun x hx => by
      rcases List.mem_append.1 hx with h | h
      · exact List.mem_append.2 (.inl h)
      · exact List.mem_append.2 (.inr (k2 x h))⟩
theorem Own.drop {B : Nat} {w : World} {l : List HP} (O : Own B w l) (i : Nat) : Own B w (l.eraseIdx i) := by
  obtain ⟨h1, hs, G, hG, hB⟩ := O
  obtain ⟨F', k1, k2⟩ := Seps.drop hs i hG
  exact ⟨h1, fun P hP => hs P (List.mem_of_mem_eraseIdx hP), F', k1, fun x hx => hB x (k2 x hx)⟩

theorem erase_last {α : Type} : ∀ (l : List α) (q : α), (l ++ [q]).eraseIdx l.length = l
  | [], _ => rfl
  | _ :: l, q => by simpa using erase_last l q
theorem Own.pop {B : Nat} {w : World} {l : List HP} {Q : HP} (O : Own B w (l ++ [Q])) : Own B w l := by
  have := O.drop l.length
  rwa [erase_last] at this

theorem Seps.perm {l l' : List HP} (h : l.Perm l') : ∀ {w : World} {F : List Nat}, Seps l w F → ∃ F', Seps l' w F' ∧ ∀ x, x ∈ F' ↔ x ∈ F := by
  induction h with
  | nil => exact fun h => ⟨_, h, fun _ => Iff.rfl⟩
  | cons P _ ih =>
    rintro w F ⟨F1, F2, h1, h2, h3, rfl⟩
    obtain ⟨F', h4, h5⟩ := ih h2
    exact ⟨F1 ++ F', ⟨F1, F', h1, h4, fun x hx hm => h3 x hx ((h5 x).1 hm), rfl⟩, fun x => by simp [h5 x]⟩
  | swap P Q l =>
    rintro w F ⟨F1, F2, h1, ⟨F3, F4, h2, h3, h4, rfl⟩, h5, rfl⟩
    refine ⟨F3 ++ (F1 ++ F4), ⟨F3, F1 ++ F4, h2, ⟨F1, F4, h1, h3, fun x hx hm => h5 x hx (by simp [hm]), rfl⟩, fun x hx hm => ?_, rfl⟩, fun x => by
      simp only [List.mem_append]
      exact ⟨fun h => by rcases h with h | h | h <;> simp [h], fun h => by rcases h with h | h | h <;> simp [h]⟩⟩
    rcases List.mem_append.1 hm with hm | hm
    · exact h5 x hm (by simp [hx])
    · exact h4 x hx hm
  | trans _ _ ih1 ih2 =>
    intro w F h
    obtain ⟨F1, h1, e1⟩ := ih1 h
    obtain ⟨F2, h2, e2⟩ := ih2 h1
    exact ⟨F2, h2, fun x => (e2 x).trans (e1 x)⟩
theorem Own.perm {B : Nat} {w : World} {l l' : List HP} (O : Own B w l) (h : l.Perm l') : Own B w l' := by
  obtain ⟨h1, hs, F, hF, hB⟩ := O
  obtain ⟨F', h2, h3⟩ := Seps.perm h hF
  exact ⟨h1, fun P hP => hs P (h.mem_iff.2 hP), F', h2, fun x hx => hB x ((h3 x).1 hx)⟩

/-- A block of cells. -/
def BlkP (g : Nat) (ty : TypeId) (cs : List Value) : HP := fun w F => Blk w g ty cs ∧ F = [g]
theorem BlkP.stb (g : Nat) (ty : TypeId) (cs : List Value) : Stb (BlkP g ty cs) :=
  ⟨fun w F ⟨h, hF⟩ x hx => by subst hF; simp at hx; subst hx; exact h.lt, fun w w' F ⟨h, hF⟩ he => ⟨h.eq (he g (by simp [hF])), hF⟩⟩
theorem Own.new {B : Nat} {w : World} {l : List HP} (O : Own B w l) (cs : List Value) (ty : TypeId) : Own B (w.alloc (.cells cs.toArray ty)) (l ++ [BlkP w.heap.size ty cs]) :=
  O.more ((Below.refl _ _).alloc (Nat.le_refl _) _) (BlkP.stb _ _ _) ⟨Blk.new rfl rfl, rfl⟩ (by simp)
theorem Own.blk {B : Nat} {w : World} {l : List HP} (O : Own B w l) (i : Nat) {g : Nat} {ty : TypeId} {cs : List Value} (hi : l[i]? = some (BlkP g ty cs)) : Blk w g ty cs ∧ B ≤ g := by
  obtain ⟨F, ⟨h1, rfl⟩, h2⟩ := O.get i hi; exact ⟨h1, h2 g (by simp)⟩
theorem Own.setCell {B : Nat} {w : World} {l : List HP} (O : Own B w l) (i : Nat) {g : Nat} {ty : TypeId} {cs : List Value} (hi : l[i]? = some (BlkP g ty cs)) (j : Nat) (v : Value) :
    Own B (w.setCell ⟨g, j, none⟩ v) (l.set i (BlkP g ty (cs.set j v))) ∧ Below B w (w.setCell ⟨g, j, none⟩ v) := by
  obtain ⟨F, ⟨h1, rfl⟩, h2, h3⟩ := O.turn i hi
  exact h3 _ _ [g] (BlkP.stb _ _ _) ((But.refl _ w).setCell (.inl (by simp)) v) ⟨h1.set j v, rfl⟩ (fun x hx => .inl hx)
theorem Own.setRow {B : Nat} {w : World} {l : List HP} (O : Own B w l) (i : Nat) {g : Nat} {ty : TypeId} {cs : List Value} (hi : l[i]? = some (BlkP g ty cs)) (ds : List Value) :
    Own B (w.setRow g ds.toArray) (l.set i (BlkP g ty ds)) ∧ Below B w (w.setRow g ds.toArray) := by
  obtain ⟨F, ⟨h1, rfl⟩, h2, h3⟩ := O.turn i hi
  exact h3 _ _ [g] (BlkP.stb _ _ _) ((But.refl _ w).setRow (.inl (by simp)) _) ⟨h1.row ds, rfl⟩ (fun x hx => .inl hx)

/-- A slice of the call's own. -/
def RowP (e : TypeId) (size : Nat) (a : Option Addr) (n cap : Nat) (xs : List Value) : HP := fun w F => w.ownsRow 0 e size (.slice a n cap) n xs ∧ F = (Value.slice a n cap).ownBlock.toList
theorem RowP.stb (e : TypeId) (size : Nat) (a : Option Addr) (n cap : Nat) (xs : List Value) : Stb (RowP e size a n cap xs) :=
  ⟨fun w F ⟨h, hF⟩ x hx => by subst hF; exact (h.lt x (by simpa using hx)).2, fun w w' F ⟨h, hF⟩ he => ⟨own_eq h (fun k hk => he k (by rw [hF]; simpa using hk)), hF⟩⟩
theorem Own.row {B : Nat} {w : World} {l : List HP} (O : Own B w l) (i : Nat) {e : TypeId} {size : Nat} {a : Option Addr} {n cap : Nat} {xs : List Value} (hi : l[i]? = some (RowP e size a n cap xs)) : w.ownsRow 0 e size (.slice a n cap) n xs := by
  obtain ⟨F, ⟨h1, rfl⟩, _⟩ := O.get i hi; exact h1
theorem Own.newRow {B : Nat} {w w' : World} {l : List HP} (O : Own B w l) (hb : Below w.heap.size w w') {e : TypeId} {size : Nat} {a : Option Addr} {n cap : Nat} {xs : List Value} {b0 : Nat} (h : w'.ownsRow b0 e size (.slice a n cap) n xs) (h0 : w.heap.size ≤ b0) : Own B w' (l ++ [RowP e size a n cap xs]) :=
  O.more hb (RowP.stb _ _ _ _ _ _) ⟨own_base h (Nat.zero_le _), rfl⟩ (fun x hx => by have := (h.lt x (by simpa using hx)).1; omega)
theorem Own.nilRow {B : Nat} {w : World} {l : List HP} (O : Own B w l) (e : TypeId) (size : Nat) : Own B w (l ++ [RowP e size none 0 0 []]) :=
  O.more (Below.refl _ _) (RowP.stb _ _ _ _ _ _) (F := []) ⟨World.ownsRow_nil _ _ _ _, rfl⟩ (by simp)
theorem Own.grown {B : Nat} {w w' : World} {l : List HP} (O : Own B w l) (i : Nat) {e : TypeId} {size : Nat} {a a' : Option Addr} {n cap n' cap' : Nat} {xs xs' : List Value} (hi : l[i]? = some (RowP e size a n cap xs))
    (h1 : w'.ownsRow 0 e size (.slice a' n' cap') n' xs') (h2 : w.grownBy w' (Value.slice a n cap).ownBlock) (h3 : ∀ ad, a' = some ad → (a = some ad ∨ w.heap.size ≤ ad.block)) : Own B w' (l.set i (RowP e size a' n' cap' xs')) ∧ Below B w w' := by
  obtain ⟨F, ⟨k1, rfl⟩, k2, k3⟩ := O.turn i hi
  refine k3 _ _ (Value.slice a' n' cap').ownBlock.toList (RowP.stb _ _ _ _ _ _) ((But.refl _ w).grown h2 (fun k hk => .inl (by simpa using hk))) ⟨h1, rfl⟩ (fun x hx => ?_)
  cases ha : a' with
  | none => subst ha; simp [Value.ownBlock] at hx
  | some ad =>
    subst ha
    simp [Value.ownBlock] at hx
    subst hx
    rcases h3 ad rfl with h | h
    · subst h; exact .inl (by simp [Value.ownBlock])
    · exact .inr h

/-- A slice that can be read and lies apart. -/
def RdP (size : Nat) (a : Option Addr) (n cap : Nat) (xs : List Value) : HP := fun w F => Rd w a n cap size xs ∧ (∀ x ∈ F, x < w.heap.size) ∧ ∀ ad, a = some ad → xs ≠ [] → ad.block ∈ F
theorem RdP.stb (size : Nat) (a : Option Addr) (n cap : Nat) (xs : List Value) : Stb (RdP size a n cap xs) := by
  refine ⟨fun w F ⟨_, h, _⟩ => h, fun w w' F ⟨h1, h2, h3⟩ he => ⟨?_, fun x hx => ?_, h3⟩⟩
  · cases hx : xs with
    | nil => subst hx; exact ⟨h1.hlen, h1.hcap, h1.hmax, h1.hnil, fun ad _ j u hu => by simp at hu⟩
    | cons y ys => rw [← hx]; exact h1.eq (fun ad ha => he _ (h3 ad ha (by rw [hx]; simp)))
  · have h4 := h2 x hx
    have h5 := he x hx
    rw [Array.getElem?_eq_getElem h4] at h5
    exact (Array.getElem?_eq_some_iff.1 h5).1
theorem Own.rd {B : Nat} {w : World} {l : List HP} (O : Own B w l) (i : Nat) {size : Nat} {a : Option Addr} {n cap : Nat} {xs : List Value} (hi : l[i]? = some (RdP size a n cap xs)) : Rd w a n cap size xs := by
  obtain ⟨F, ⟨h1, _⟩, _⟩ := O.get i hi; exact h1
theorem Own.newRd {B : Nat} {w w' : World} {l : List HP} (O : Own B w l) (hb : Below w.heap.size w w') {size : Nat} {a : Option Addr} {n cap : Nat} {xs : List Value} (h : Rd w' a n cap size xs) (h0 : ∀ ad, a = some ad → w.heap.size ≤ ad.block) : Own B w' (l ++ [RdP size a n cap xs]) := by
  cases a with
  | none => exact O.more hb (RdP.stb _ _ _ _ _) (F := []) ⟨h, by simp, fun _ h => by cases h⟩ (by simp)
  | some ad =>
    cases hx : xs with
    | nil => exact O.more hb (RdP.stb _ _ _ _ _) (F := []) ⟨by rw [← hx]; exact h, by simp, fun _ _ h => absurd rfl h⟩ (by simp)
    | cons y ys =>
      rw [← hx]
      have hc := h.hcell ad rfl 0 y (by rw [hx]; rfl)
      have hl := cell_block_lt hc
      rw [add_block] at hl
      exact O.more hb (RdP.stb _ _ _ _ _) (F := [ad.block]) ⟨h, by simp [hl], fun ad' h _ => by cases h; simp⟩ (by simp [h0 ad rfl])

/-- Two objects as one. -/
def Both (Q R : HP) : HP := fun w F => ∃ F1 F2, Q w F1 ∧ R w F2 ∧ (∀ x ∈ F1, x ∉ F2) ∧ F = F1 ++ F2
theorem Both.stb {Q R : HP} (hQ : Stb Q) (hR : Stb R) : Stb (Both Q R) :=
  ⟨fun w F ⟨F1, F2, h1, h2, _, hF⟩ x hx => by
    subst hF
    rcases List.mem_append.1 hx with h | h
    · exact hQ.lt w F1 h1 x h
    · exact hR.lt w F2 h2 x h, fun w w' F ⟨F1, F2, h1, h2, h3, hF⟩ he => by
    subst hF
    exact ⟨F1, F2, hQ.eq w w' F1 h1 (fun x hx => he x (by simp [hx])), hR.eq w w' F2 h2 (fun x hx => he x (by simp [hx])), h3, rfl⟩⟩
theorem Own.part {B : Nat} {w : World} {l : List HP} (O : Own B w l) (i : Nat) {Q R : HP} (hi : l[i]? = some (Both Q R)) (hQ : Stb Q) (hR : Stb R) : Own B w (l.set i Q ++ [R]) := by
  obtain ⟨h1, hs, F, hF, hB⟩ := O
  obtain ⟨F1, F2, ⟨A, G, a1, a2, a3, hAG⟩, k2, k3, k4⟩ := Seps.split hs i hi hF
  subst hAG
  obtain ⟨F', h5, h6⟩ := k4 Q w A a1 (fun x hx => k2 x (by simp [hx])) (fun _ _ => rfl)
  refine ⟨h1, fun P hP => ?_, F' ++ G, Seps.snoc h5 a2 (fun x hx hm => ?_), fun x hx => ?_⟩
  · rcases List.mem_append.1 hP with h | h
    · rcases List.mem_or_eq_of_mem_set h with h | h
      · exact hs P h
      · rw [h]; exact hQ
    · simp at h; rw [h]; exact hR
  · rcases (h6 x).1 hx with h | h
    · exact a3 x h hm
    · exact k2 x (by simp [hm]) h
  · rcases List.mem_append.1 hx with h | h
    · rcases (h6 x).1 h with h | h
      · exact hB x ((k3 x).2 (.inl (by simp [h])))
      · exact hB x ((k3 x).2 (.inr h))
    · exact hB x ((k3 x).2 (.inl (by simp [h])))

/-- append, as one operation; where the new slice lies. -/
theorem oper_append2 {P : Program} {w : World} {ops : Array Oper} {o : Oper} {a : Act} {K : Act → World → Prop} {Q : Exit → Act → World → Prop} (hgd : Region.wanted o (yielded ops a.tmps) = true) (s x : Operand) (t tx : TypeId)
    (ho : o.op = .call { callee := .builtin .append, args := #[s, x], argTypes := #[t, tx] })
    {e : TypeId} {z : Value} {size bytes : Nat} (hT : SlT P t e z size bytes) (htx : P.underlying tx = some (.slice e) ∨ P.underlying tx = some .string)
    {base : Nat} {a0 : Option Addr} {n cap : Nat} {xs : List Value} (hs : a.eval s = .slice a0 n cap) (hown : w.ownsRow base e size (.slice a0 n cap) n xs)
    {xv : Value} {m : Nat} {news : List Value} (hx : a.eval x = xv) (hsrc : Src P w xv m size news)
    (hbytes : (n + m) * bytes ≤ 140737488355328) (h63 : n + m ≤ maxLen) (hbase : base ≤ w.heap.size)
    (h : ∀ a' cap' w', w'.ownsRow base e size (.slice a' (n + m) cap') (n + m) (xs ++ news) → w.grownBy w' (Value.slice a0 n cap).ownBlock → (∀ ad, a' = some ad → (a0 = some ad ∨ w.heap.size ≤ ad.block)) → K (a.put o.dst (.slice a' (n + m) cap')) w') :
    if Region.wanted o (yielded ops a.tmps) = true then Oper.wp P o a w K Q else K (a.put o.dst undef) w := by
  rw [if_pos hgd]
  obtain ⟨i, hi, hz, hsz, hby⟩ := info_parts hT.info
  obtain ⟨a', cap', w', hr, h2, h3, h4⟩ := run_append_src (P := P) w base t tx o.type e i z size bytes hT.ht htx hi hz hsz hby hT.hz a0 n cap xs hown xv m news hsrc h63 hbytes hbase
  unfold Oper.wp execOp
  simp only [ho, resolve, invoke, builtin, Sem.run_bind, Sem.run_pure, Result.andThen_ok, List.map_toArray, List.map_cons, List.map_nil, hs, hx, hr]
  exact h a' cap' w' h2 h3 h4

/-- What a call on own objects returns. -/
def RetW (v : Value) (B : Nat) (l : List HP) (w : World) (e : Ending) (w' : World) : Prop := e = .returned v ∧ Own B w' l ∧ Below B w w'
end Go.Proofs.Ytgimkipekoabbaa
