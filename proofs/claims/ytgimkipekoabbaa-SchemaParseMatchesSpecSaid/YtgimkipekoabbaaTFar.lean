/-
  What can be read lies in no block that holds a table; a store of a table keeps it. No condition.
-/
import Derived.Test.YtgimkipekoabbaaRDropI
import Derived.Test.YtgimkipekoabbaaLIx
namespace Go.Proofs.Ytgimkipekoabbaa
open Go.RowKit

/-- The cells of a table. -/
def tabCells (s : ByteArray) (a b c : Option Addr) (n1 c1 n2 c2 n3 c3 : Nat) : List Value := [.string s, .slice a n1 c1, .slice b n2 c2, .slice c n3 c3]
/-- Cells that are no part of a table's. -/
def NotTab (xs : List Value) : Prop := xs = [] ∨ ∀ (off : Nat) (s : ByteArray) (a b c : Option Addr) (n1 c1 n2 c2 n3 c3 : Nat), ∃ (j : Nat) (u : Value), xs[j]? = some u ∧ (tabCells s a b c n1 c1 n2 c2 n3 c3)[off + j]? ≠ some u
theorem NotTab.ints (l : List Int) : NotTab (intVals l) := by
  cases l with
  | nil => exact .inl rfl
  | cons x l =>
    refine .inr fun off s a b c n1 c1 n2 c2 n3 c3 => ⟨0, .int .i64 x, rfl, ?_⟩
    match off with
    | 0 | 1 | 2 | 3 => simp [tabCells]
    | n + 4 => simp [tabCells]
theorem NotTab.cols (l : List Col) : NotTab (recC Col.enc l) := by
  cases l with
  | nil => exact .inl rfl
  | cons x l =>
    refine .inr fun off s a b c n1 c1 n2 c2 n3 c3 => ?_
    match off with
    | 0 => exact ⟨1, .int .i64 x.kind, rfl, by simp [tabCells]⟩
    | 1 | 2 | 3 => exact ⟨0, .string ⟨x.name.toArray⟩, rfl, by simp [tabCells]⟩
    | n + 4 => exact ⟨0, .string ⟨x.name.toArray⟩, rfl, by simp [tabCells]⟩
theorem NotTab.ixs (l : List IxP) : NotTab (recC IxP.enc l) := by
  cases l with
  | nil => exact .inl rfl
  | cons x l =>
    refine .inr fun off s a b c n1 c1 n2 c2 n3 c3 => ?_
    match off with
    | 0 => exact ⟨2, .bool x.x.uniq, rfl, by simp [tabCells]⟩
    | 1 | 2 | 3 => exact ⟨0, .string ⟨x.x.name.toArray⟩, rfl, by simp [tabCells]⟩
    | n + 4 => exact ⟨0, .string ⟨x.x.name.toArray⟩, rfl, by simp [tabCells]⟩
theorem NotTab.chks (l : List Chk) : NotTab (recC Chk.enc l) := by
  cases l with
  | nil => exact .inl rfl
  | cons x l =>
    refine .inr fun off s a b c n1 c1 n2 c2 n3 c3 => ⟨0, .int .i64 x.col, rfl, ?_⟩
    match off with
    | 0 | 1 | 2 | 3 => simp [tabCells]
    | n + 4 => simp [tabCells]
theorem Rd.row {w : World} {a : Option Addr} {n cap size : Nat} {xs : List Value} (h : Rd w a n cap size xs) (hx : NotTab xs) {g : Nat} {s : ByteArray} {b1 b2 b3 : Option Addr} {n1 c1 n2 c2 n3 c3 : Nat} (hb : Blk w g 28 (tabCells s b1 b2 b3 n1 c1 n2 c2 n3 c3)) (ds : Array Value) : Rd (w.setRow g ds) a n cap size xs := by
  rcases hx with rfl | hx
  · exact ⟨h.hlen, h.hcap, h.hmax, h.hnil, fun ad _ j u hu => by simp at hu⟩
  · refine h.eq (fun ad ha => setRow_other w g _ _ fun e => ?_)
    obtain ⟨b, off, sp⟩ := ad
    simp only at e
    subst e
    have hsp : sp = none := by
      cases sp with
      | none => rfl
      | some y =>
        exfalso
        obtain ⟨j, u, hu, _⟩ := hx 0 s b1 b2 b3 n1 c1 n2 c2 n3 c3
        obtain ⟨v, hv⟩ : ∃ v, xs[0]? = some v := ⟨_, List.getElem?_eq_getElem (by have := (List.getElem?_eq_some_iff.1 hu).1; omega)⟩
        have h4 := spot_none (h.hcell _ ha 0 v hv)
        simp [Addr.add] at h4
    subst hsp
    obtain ⟨j, u, hu, hne⟩ := hx off s b1 b2 b3 n1 c1 n2 c2 n3 c3
    have hc := h.hcell _ ha j u hu
    have hadd : (⟨b, off, none⟩ : Addr).add j = ⟨b, off + j, none⟩ := by unfold Addr.add; split <;> simp_all
    rw [hadd, cell_of_row w b (off + j) _ _ (0, 0) hb] at hc
    exact hne (by simpa using hc)
theorem TabRd.row {w : World} {X : TabP} (h : TabRd w X) {g : Nat} {s : ByteArray} {b1 b2 b3 : Option Addr} {n1 c1 n2 c2 n3 c3 : Nat} (hb : Blk w g 28 (tabCells s b1 b2 b3 n1 c1 n2 c2 n3 c3)) (ds : Array Value) : TabRd (w.setRow g ds) X :=
  ⟨h.cols.row (.cols _) hb ds, h.ixs.row (.ixs _) hb ds, fun p hp => (h.nums p hp).row (.ints _) hb ds, h.chks.row (.chks _) hb ds⟩

/-- What the law keeps: the table, the column, the index in blocks, the words, and two tables in blocks. -/
structure Ch (w : World) (X : TabP) (cc xc : List Value) (ca : Option Addr) (n cp : Nat) (cl : List Int) (wa : Option Addr) (wn wc : Nat) (L : List Int) (ga gb : Nat) (A B : TabP) (wr : World) : Prop where
  below : Below w.heap.size w wr
  tab : TabRd wr X
  blk : Blk wr w.heap.size 28 X.cs
  col : Blk wr (w.heap.size + 1) 50 cc
  ix : Blk wr (w.heap.size + 2) 55 xc
  num : Rd wr ca n cp 1 (intVals cl)
  words : Rd wr wa wn wc 1 (intVals L)
  a : Blk wr ga 28 A.cs
  b : Blk wr gb 28 B.cs
  ta : TabRd wr A
  tb : TabRd wr B
  ge : w.heap.size + 3 ≤ ga ∧ ga < gb
section
variable {w wr wr' : World} {X : TabP} {cc xc : List Value} {ca : Option Addr} {n cp : Nat} {cl : List Int} {wa : Option Addr} {wn wc : Nat} {L : List Int} {ga gb : Nat} {A B : TabP}
theorem Ch.step (h : Ch w X cc xc ca n cp cl wa wn wc L ga gb A B wr) (hb : Below wr.heap.size wr wr') : Ch w X cc xc ca n cp cl wa wn wc L ga gb A B wr' :=
  ⟨h.below.trans (hb.mono h.below.size), h.tab.below hb, h.blk.call0 hb, h.col.call0 hb, h.ix.call0 hb, h.num.call0 hb, h.words.call0 hb, h.a.call0 hb, h.b.call0 hb, h.ta.below hb, h.tb.below hb, h.ge⟩
theorem Ch.setA (h : Ch w X cc xc ca n cp cl wa wn wc L ga gb A B wr) {A' : TabP} (hA : TabRd wr A') : Ch w X cc xc ca n cp cl wa wn wc L ga gb A' B (wr.setRow ga A'.cs.toArray) := by
  have hg := h.ge
  have hb : Blk wr ga 28 (tabCells _ _ _ _ _ _ _ _ _ _) := h.a
  exact ⟨below_setRow h.below (by omega) _, h.tab.row hb _, h.blk.rowOther (by omega) _, h.col.rowOther (by omega) _, h.ix.rowOther (by omega) _, h.num.row (.ints _) hb _, h.words.row (.ints _) hb _, h.a.row A'.cs, h.b.rowOther (by omega) _, hA.row hb _, h.tb.row hb _, h.ge⟩
theorem Ch.setB (h : Ch w X cc xc ca n cp cl wa wn wc L ga gb A B wr) {B' : TabP} (hB : TabRd wr B') : Ch w X cc xc ca n cp cl wa wn wc L ga gb A B' (wr.setRow gb B'.cs.toArray) := by
  have hg := h.ge
  have hb : Blk wr gb 28 (tabCells _ _ _ _ _ _ _ _ _ _) := h.b
  exact ⟨below_setRow h.below (by omega) _, h.tab.row hb _, h.blk.rowOther (by omega) _, h.col.rowOther (by omega) _, h.ix.rowOther (by omega) _, h.num.row (.ints _) hb _, h.words.row (.ints _) hb _, h.a.rowOther (by omega) _, h.b.row B'.cs, h.ta.row hb _, hB.row hb _, h.ge⟩
end
end Go.Proofs.Ytgimkipekoabbaa
