/-
  Lists of records of the call's own: a cell of one is stored; a table all of whose lists are the call's own. No condition.
-/
import Derived.Test.YtpgdfhncigmmbaaF20
namespace Go.Proofs.Ytpgdfhncigmmbaa
open Go.RowKit

/-- One cell of an own row is stored. -/
theorem own_store1 {w : World} {base e size g n cap : Nat} {xs : List Value} (h : w.ownsRow base e size (.slice (some ⟨g, 0, none⟩) n cap) n xs) (j : Nat) (hj : j < xs.length) (v : Value) :
    ∃ cur, Blk w g e cur ∧ j + 1 ≤ cur.length ∧ (w.setRow g (splice cur j [v]).toArray).ownsRow base e size (.slice (some ⟨g, 0, none⟩) n cap) n (xs.set j v) ∧ w.grownBy (w.setRow g (splice cur j [v]).toArray) (some g) := by
  rcases h.2 with ⟨h', _⟩ | ⟨g', cap', cur, h', hb, hg, hnc, hcm, hcs, htake⟩
  · simp at h'
  · simp only [Value.slice.injEq, Option.some.injEq, Addr.mk.injEq, and_true, true_and] at h'
    obtain ⟨rfl, rfl⟩ := h'
    have hlen := h.1
    have hle : xs.length ≤ cur.toList.length := by rw [← htake, List.length_take]; omega
    have hsl : splice cur.toList j [v] = cur.toList.set j v := by
      unfold splice
      rw [List.set_eq_take_append_cons_drop, if_pos (by omega)]; simp
    have hset : Blk (w.setRow g (splice cur.toList j [v]).toArray) g e (splice cur.toList j [v]) := Blk.row (cs := cur.toList) (by unfold Blk; simpa using hg) _
    refine ⟨cur.toList, by unfold Blk; simpa using hg, by omega, ⟨by simpa using hlen, .inr ⟨g, cap, (splice cur.toList j [v]).toArray, rfl, hb, hset, hnc, hcm, ?_, ?_⟩⟩, ⟨rfl, rfl, rfl, by simp, fun k _ hk => setRow_other w g k _ (fun e => hk (by simp [e]))⟩⟩
    · rw [hsl]; simpa using hcs
    · rw [hsl, List.take_set, htake]

section
variable {α : Type} [Inhabited α] {enc : α → List Value} {k : Nat}
theorem recC_set (hk : ∀ x, (enc x).length = k) (l : List α) (i : Nat) (hi : i < l.length) (j : Nat) (hj : j < k) (v : Value) (y : α) (hy : enc y = (enc (l.getD i default)).set j v) : (recC enc l).set (i * k + j) v = recC enc (l.set i y) := by
  induction l generalizing i with
  | nil => simp at hi
  | cons x l ih =>
    rw [recC_cons]
    cases i with
    | zero =>
      rw [Nat.zero_mul, Nat.zero_add, List.set_append, if_pos (by rw [hk]; exact hj), List.set_cons_zero, recC_cons, hy]; simp
    | succ i =>
      rw [List.set_append, if_neg (by rw [hk, Nat.succ_mul]; omega), hk, show (i + 1) * k + j - k = i * k + j from by rw [Nat.succ_mul]; omega, ih i (by simpa using hi) (by simpa using hy), List.set_cons_succ, recC_cons]
end

/-- A table all of whose lists are the call's own, apart from one another. -/
structure TabOwn (B : Nat) (w : World) (X : TabP) : Prop where
  cols : w.ownsRow B 55 3 (.slice X.ca X.cols.length X.cc) X.cols.length (recC Col.enc X.cols)
  ixs : w.ownsRow B 91 3 (.slice X.ia X.ixs.length X.ic) X.ixs.length (recC IxP.enc X.ixs)
  chks : w.ownsRow B 86 5 (.slice X.ha X.chks.length X.hc) X.chks.length (recC Chk.enc X.chks)
  nums : ∀ p ∈ X.ixs, Rd w p.a p.x.cols.length p.cap 1 (intVals p.x.cols)
  ci : ∀ a b, X.ca = some a → X.ia = some b → a.block ≠ b.block
  ch : ∀ a b, X.ca = some a → X.ha = some b → a.block ≠ b.block
  ih : ∀ a b, X.ia = some a → X.ha = some b → a.block ≠ b.block
  nc : ∀ p ∈ X.ixs, ∀ a b, p.a = some a → X.ca = some b → a.block ≠ b.block
  ni : ∀ p ∈ X.ixs, ∀ a b, p.a = some a → X.ia = some b → a.block ≠ b.block
  nb : ∀ p ∈ X.ixs, ∀ a, p.a = some a → B ≤ a.block ∧ a.block < w.heap.size
theorem TabOwn.rd {B : Nat} {w : World} {X : TabP} (h : TabOwn B w X) : TabRd w X := ⟨Rd.ofOwn h.cols, Rd.ofOwn h.ixs, h.nums, Rd.ofOwn h.chks⟩
theorem TabOwn.step {B : Nat} {w w' : World} {X : TabP} (h : TabOwn B w X) (hb : Below w.heap.size w w') : TabOwn B w' X :=
  ⟨own_below h.cols hb (Nat.le_refl _), own_below h.ixs hb (Nat.le_refl _), own_below h.chks hb (Nat.le_refl _), fun p hp => (h.nums p hp).call0 hb, h.ci, h.ch, h.ih, h.nc, h.ni, fun p hp a ha => by have := h.nb p hp a ha; have := hb.size; omega⟩
theorem Rd.grown {w w' : World} {a : Option Addr} {n cap size : Nat} {xs : List Value} {row : Option Nat} (h : Rd w a n cap size xs) (hg : w.grownBy w' row) (hne : ∀ ad, a = some ad → row ≠ some ad.block) : Rd w' a n cap size xs :=
  ⟨h.hlen, h.hcap, h.hmax, h.hnil, fun ad ha j u hu => by
    have hc := h.hcell ad ha j u hu
    have hl := cell_block_lt hc
    rw [add_block] at hl
    rw [cell_eq (w := w) (by rw [add_block]; exact hg.block ad.block hl (fun e => hne ad ha e.symm))]; exact hc⟩
theorem ownBlock_eq {a : Option Addr} {n c : Nat} {k : Nat} (h : (Value.slice a n c).ownBlock = some k) : ∃ ad, a = some ad ∧ ad.block = k := by
  cases a with
  | none => simp [Value.ownBlock] at h
  | some ad => exact ⟨ad, rfl, by simpa [Value.ownBlock] using h⟩
/-- A block below all of it is turned. -/
theorem TabOwn.setRow {B : Nat} {w : World} {X : TabP} (h : TabOwn B w X) {b : Nat} (hb : b < B) (ds : Array Value) : TabOwn B (w.setRow b ds) X :=
  ⟨own_eq h.cols (fun k hk => setRow_other w b k _ (by have := (h.cols.lt k hk).1; omega)), own_eq h.ixs (fun k hk => setRow_other w b k _ (by have := (h.ixs.lt k hk).1; omega)), own_eq h.chks (fun k hk => setRow_other w b k _ (by have := (h.chks.lt k hk).1; omega)),
    fun p hp => (h.nums p hp).eq (fun ad ha => setRow_other w b _ _ (by have := h.nb p hp ad ha; omega)), h.ci, h.ch, h.ih, h.nc, h.ni, fun p hp a ha => by have := h.nb p hp a ha; simpa using this⟩
theorem TabOwn.setCell {B : Nat} {w : World} {X : TabP} (h : TabOwn B w X) {b : Nat} (hb : b < B) (j : Nat) (v : Value) : TabOwn B (w.setCell ⟨b, j, none⟩ v) X :=
  ⟨ownsRow_setCell_below h.cols hb v, ownsRow_setCell_below h.ixs hb v, ownsRow_setCell_below h.chks hb v,
    fun p hp => (h.nums p hp).eq (fun ad ha => Below.heap_setCell _ _ _ _ (by have := h.nb p hp ad ha; show ad.block ≠ b; omega)), h.ci, h.ch, h.ih, h.nc, h.ni, fun p hp a ha => by
      have := h.nb p hp a ha
      show _ ∧ a.block < (w.heap.modify b _).size
      rw [Array.size_modify]; exact this⟩
/-- A further column. -/
def TabP.addCol (X : TabP) (a : Option Addr) (c : Nat) (y : Col) : TabP := ⟨X.name, a, c, X.cols ++ [y], X.ia, X.ic, X.ixs, X.ha, X.hc, X.chks⟩
theorem TabOwn.addCol {B : Nat} {w w' : World} {X : TabP} {a : Option Addr} {c : Nat} {y : Col} {us : List Value} (h : TabOwn B w X) (hg : w.grownBy w' (Value.slice X.ca X.cols.length X.cc).ownBlock)
    (hown : w'.ownsRow B 55 3 (.slice a (X.cols.length + 1) c) (X.cols.length + 1) (recC Col.enc X.cols ++ us)) (hnew : ∀ ad, a = some ad → X.ca = some ad ∨ w.heap.size ≤ ad.block) (hu : us = recC Col.enc [y]) : TabOwn B w' (X.addCol a c y) := by
  subst hu
  have hlt : ∀ {e size n cap : Nat} {a : Option Addr} {xs : List Value}, w.ownsRow B e size (.slice a n cap) n xs → ∀ ad, a = some ad → ad.block < w.heap.size := fun ho ad ha => (ho.lt ad.block (by rw [ha]; rfl)).2
  refine ⟨?_, own_eq h.ixs (fun k hk => hg.block k (h.ixs.lt k hk).2 (fun e => ?_)), own_eq h.chks (fun k hk => hg.block k (h.chks.lt k hk).2 (fun e => ?_)), fun p hp => (h.nums p hp).grown hg (fun ad ha e => ?_), fun x b hx hb => ?_, fun x b hx hb => ?_, h.ih, fun p hp x b hx hb => ?_, h.ni, fun p hp x hx => by have := h.nb p hp x hx; have := hg.size; omega⟩
  · show w'.ownsRow B _ 3 (.slice a (X.cols ++ [y]).length c) (X.cols ++ [y]).length (recC Col.enc (X.cols ++ [y]))
    rw [List.length_append, recC_append]; exact hown
  · obtain ⟨a1, h1, h2⟩ := ownBlock_eq hk
    obtain ⟨a2, h3, h4⟩ := ownBlock_eq e.symm
    exact h.ci a2 a1 h3 h1 (h4.trans h2.symm)
  · obtain ⟨a1, h1, h2⟩ := ownBlock_eq hk
    obtain ⟨a2, h3, h4⟩ := ownBlock_eq e.symm
    exact h.ch a2 a1 h3 h1 (h4.trans h2.symm)
  · obtain ⟨a2, h1, h2⟩ := ownBlock_eq e; exact h.nc p hp ad a2 ha h1 h2.symm
  · rcases hnew x hx with h1 | h1
    · exact h.ci x b h1 hb
    · have := hlt h.ixs b hb; omega
  · rcases hnew x hx with h1 | h1
    · exact h.ch x b h1 hb
    · have := hlt h.chks b hb; omega
  · rcases hnew b hb with h1 | h1
    · exact h.nc p hp x b hx h1
    · have := (h.nb p hp x hx).2; omega
/-- Other indexes. -/
def TabP.withIxs (X : TabP) (a : Option Addr) (c : Nat) (l : List IxP) : TabP := ⟨X.name, X.ca, X.cc, X.cols, a, c, l, X.ha, X.hc, X.chks⟩
theorem TabOwn.withIxs {B n : Nat} {w w' : World} {X : TabP} {a : Option Addr} {c : Nat} {l : List IxP} {us : List Value} (h : TabOwn B w X) (hg : w.grownBy w' (Value.slice X.ia X.ixs.length X.ic).ownBlock)
    (hown : w'.ownsRow B 91 3 (.slice a n c) n us) (hnew : ∀ ad, a = some ad → X.ia = some ad ∨ w.heap.size ≤ ad.block) (hu : us = recC IxP.enc l) (hl : l.length = n)
    (hn : ∀ p ∈ l, p ∈ X.ixs ∨ (Rd w p.a p.x.cols.length p.cap 1 (intVals p.x.cols) ∧ ∀ x, p.a = some x → B ≤ x.block ∧ x.block < w.heap.size ∧ (∀ b, X.ia = some b → x.block ≠ b.block) ∧ ∀ b, X.ca = some b → x.block ≠ b.block)) : TabOwn B w' (X.withIxs a c l) := by
  subst hu; subst hl
  have hlt : ∀ {e size n cap : Nat} {a : Option Addr} {xs : List Value}, w.ownsRow B e size (.slice a n cap) n xs → ∀ ad, a = some ad → ad.block < w.heap.size := fun ho ad ha => (ho.lt ad.block (by rw [ha]; rfl)).2
  refine ⟨own_eq h.cols (fun k hk => hg.block k (h.cols.lt k hk).2 (fun e => ?_)), hown, own_eq h.chks (fun k hk => hg.block k (h.chks.lt k hk).2 (fun e => ?_)), fun p hp => ?_, fun x b hx hb => ?_, h.ch, fun x b hx hb => ?_, fun p hp x b hx hb => ?_, fun p hp x b hx hb => ?_, fun p hp x hx => ?_⟩
  · obtain ⟨a1, h1, h2⟩ := ownBlock_eq hk
    obtain ⟨a2, h3, h4⟩ := ownBlock_eq e.symm
    exact h.ci a1 a2 h1 h3 (h2.trans h4.symm)
  · obtain ⟨a1, h1, h2⟩ := ownBlock_eq hk
    obtain ⟨a2, h3, h4⟩ := ownBlock_eq e.symm
    exact h.ih a2 a1 h3 h1 (h4.trans h2.symm)
  · rcases hn p hp with hp | ⟨hp, hp2⟩
    · exact (h.nums p hp).grown hg (fun ad ha e => by obtain ⟨a2, h1, h2⟩ := ownBlock_eq e; exact h.ni p hp ad a2 ha h1 h2.symm)
    · exact hp.grown hg (fun ad ha e => by obtain ⟨a2, h1, h2⟩ := ownBlock_eq e; exact (hp2 ad ha).2.2.1 a2 h1 h2.symm)
  · rcases hnew b hb with h1 | h1
    · exact h.ci x b hx h1
    · have := hlt h.cols x hx; omega
  · rcases hnew x hx with h1 | h1
    · exact h.ih x b h1 hb
    · have := hlt h.chks b hb; omega
  · rcases hn p hp with hp | ⟨_, hp2⟩
    · exact h.nc p hp x b hx hb
    · exact (hp2 x hx).2.2.2 b hb
  · rcases hnew b hb with h1 | h1
    · rcases hn p hp with hp | ⟨_, hp2⟩
      · exact h.ni p hp x b hx h1
      · exact (hp2 x hx).2.2.1 b h1
    · rcases hn p hp with hp | ⟨_, hp2⟩
      · have := (h.nb p hp x hx).2; omega
      · have := (hp2 x hx).2.1; omega
  · have hs := hg.size
    rcases hn p hp with hp | ⟨_, hp2⟩
    · have := h.nb p hp x hx; omega
    · have := hp2 x hx; omega

/-- What copied returns. -/
def RetCopy (T : Tab) (w : World) (e : Ending) (w' : World) : Prop := Below w.heap.size w w' ∧ ∃ X : TabP, e = .returned X.v ∧ TabOwn w.heap.size w' X ∧ X.t = T
/-- What a function returns that makes a table, with an error. -/
def RetTab (T : Tab) (v : Int) (w : World) (e : Ending) (w' : World) : Prop := Below w.heap.size w w' ∧ ∃ X : TabP, e = .returned (.tuple #[X.v, .int .i64 v]) ∧ TabRd w' X ∧ X.t = T
end Go.Proofs.Ytpgdfhncigmmbaa
