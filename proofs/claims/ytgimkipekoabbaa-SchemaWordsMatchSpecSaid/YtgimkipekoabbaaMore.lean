/-
  More lemmas on memory: what is kept behind calls; slices that can be read. No condition.
-/
import Derived.Test.YtgimkipekoabbaaMemF
import Derived.Test.YtgimkipekoabbaaOpen
import Derived.OneCell
namespace Go.Proofs.Ytgimkipekoabbaa
open Go.RowKit

theorem heap_at {w : World} {o : Obj} {k : Nat} (h : k = w.heap.size) : (w.alloc o).heap[k]? = some o := by subst h; exact heap_alloc_new w o

/-- A block just laid, read as a slice; its number and its cells spelled otherwise. -/
theorem rd_newAt {w : World} {arr : Array Value} {cs : List Value} {e : TypeId} {n g size : Nat} (hg : g = w.heap.size) (ha : arr = cs.toArray) (hn : cs.length = n * size) (hm : n ≤ maxLen) : Rd (w.alloc (.cells arr e)) (some ⟨g, 0, none⟩) n n size cs := by
  subst hg; subst ha
  exact ⟨hn, Nat.le_refl _, hm, fun h => (by cases h), fun ad ha j u hu => by
    simp only [Option.some.injEq] at ha; subst ha
    exact block_cells (heap_alloc_new w _) 0 cs (fun j hj => by simp) j u hu⟩

theorem _root_.Go.RowKit.Below.call {B : Nat} {w w1 w2 : World} {o : Obj} (h : Below B w w1) (hB : B ≤ w.heap.size) (hb : Below (w1.alloc o).heap.size (w1.alloc o) w2) : Below B w w2 :=
  (h.alloc (Nat.le_trans hB h.size) o).trans (hb.mono (by have := h.size; simp; omega))
theorem _root_.Go.RowKit.Below.call0 {B : Nat} {w w1 w2 : World} (h : Below B w w1) (hB : B ≤ w.heap.size) (hb : Below w1.heap.size w1 w2) : Below B w w2 :=
  h.trans (hb.mono (Nat.le_trans hB h.size))
theorem _root_.Go.RowKit.Below.new {B : Nat} {w w1 : World} (h : Below B w w1) (hB : B ≤ w.heap.size) (o : Obj) : Below B w (w1.alloc o) := h.alloc (Nat.le_trans hB h.size) o
theorem Rd.call {w1 w2 : World} {o : Obj} {a : Option Addr} {n cap size : Nat} {xs : List Value} (h : Rd w1 a n cap size xs) (hb : Below (w1.alloc o).heap.size (w1.alloc o) w2) : Rd w2 a n cap size xs :=
  h.below ((Below.refl w1.heap.size w1).call (Nat.le_refl _) hb) (Nat.le_refl _)
theorem Rd.call0 {w1 w2 : World} {a : Option Addr} {n cap size : Nat} {xs : List Value} (h : Rd w1 a n cap size xs) (hb : Below w1.heap.size w1 w2) : Rd w2 a n cap size xs :=
  h.below hb (Nat.le_refl _)
theorem Rd.alloc {w1 : World} {a : Option Addr} {n cap size : Nat} {xs : List Value} (h : Rd w1 a n cap size xs) (o : Obj) : Rd (w1.alloc o) a n cap size xs :=
  h.below ((Below.refl w1.heap.size w1).alloc (Nat.le_refl _) o) (Nat.le_refl _)
theorem Rd.drew {w1 : World} {a : Option Addr} {n cap size : Nat} {xs : List Value} (h : Rd w1 a n cap size xs) : Rd w1.drew a n cap size xs := ⟨h.hlen, h.hcap, h.hmax, h.hnil, h.hcell⟩

/-- 's[:u]'. -/
theorem Rd.pre {w : World} {a : Option Addr} {n cap : Nat} {xs : List Value} (h : Rd w a n cap 1 xs) (u : Nat) (hu : u ≤ n) : Rd w a u cap 1 (xs.take u) :=
  ⟨by rw [List.length_take]; have := h.hlen; omega, Nat.le_trans hu h.hcap, h.hmax, fun ha => by rw [h.hnil ha]; simp, fun ad ha j v hv => by
    rw [List.getElem?_take] at hv
    split at hv
    · exact h.hcell ad ha j v hv
    · cases hv⟩
/-- 'b[:len(b):len(b)]'. -/
theorem Rd.full {w : World} {a : Option Addr} {n cap size : Nat} {xs : List Value} (h : Rd w a n cap size xs) : Rd w a n n size xs :=
  ⟨h.hlen, Nat.le_refl _, Nat.le_trans h.hcap h.hmax, h.hnil, h.hcell⟩
theorem byteVals_app {l m : List UInt8} : byteVals l ++ byteVals m = byteVals (l ++ m) := (byteVals_append l m).symm
theorem byteVals_snoc (l : List UInt8) (b : UInt8) : byteVals (l ++ [b]) = byteVals l ++ [Value.int .u8 b.toNat] := by simp [byteVals]
theorem Rd.blen {w : World} {a : Option Addr} {n cap : Nat} {l : List UInt8} (h : Rd w a n cap 1 (byteVals l)) : l.length = n := by
  have := h.hlen; rw [byteVals_length] at this; omega
theorem Rd.byteN {w : World} {a : Option Addr} {n cap : Nat} {l : List UInt8} (h : Rd w a n cap 1 (byteVals l)) (k : Nat) (hk : k < n) :
    ∃ b off, a = some ⟨b, off, none⟩ ∧ w.cell? ⟨b, off + k, none⟩ = some (.int .u8 ((l.getD k 0).toNat : Int)) := by
  have hl := h.blen
  obtain ⟨b, off, ha, hc⟩ := h.at k hk
  refine ⟨b, off, ha, ?_⟩
  rw [hc k (by rw [byteVals_length]; omega)]
  simp [byteVals, List.getD_eq_getElem?_getD, List.getElem?_eq_getElem (show k < l.length by omega)]

/-- Integers as cells. -/
def intVals (xs : List Int) : List Value := xs.map (Value.int .i64)
theorem intVals_length (xs : List Int) : (intVals xs).length = xs.length := by simp [intVals]
/-- Strings as cells. -/
def bstrVals (ss : List (List UInt8)) : List Value := ss.map fun s => Value.string ⟨s.toArray⟩
theorem bstrVals_length (ss : List (List UInt8)) : (bstrVals ss).length = ss.length := by simp [bstrVals]
theorem Rd.intAt {w : World} {a : Option Addr} {n cap : Nat} {l : List Int} (h : Rd w a n cap 1 (intVals l)) (k : Nat) (hk : k < l.length) :
    ∃ b off, a = some ⟨b, off, none⟩ ∧ w.cell? ⟨b, off + k, none⟩ = some (.int .i64 l[k]) := by
  have hl := h.hlen; rw [intVals_length] at hl
  obtain ⟨b, off, ha, hc⟩ := h.at k (by omega)
  exact ⟨b, off, ha, by rw [hc k (by rw [intVals_length]; exact hk)]; simp [intVals]⟩
theorem Rd.strAt {w : World} {a : Option Addr} {n cap : Nat} {l : List (List UInt8)} (h : Rd w a n cap 1 (bstrVals l)) (k : Nat) (hk : k < l.length) :
    ∃ b off, a = some ⟨b, off, none⟩ ∧ w.cell? ⟨b, off + k, none⟩ = some (.string ⟨(l[k]).toArray⟩) := by
  have hl := h.hlen; rw [bstrVals_length] at hl
  obtain ⟨b, off, ha, hc⟩ := h.at k (by omega)
  exact ⟨b, off, ha, by rw [hc k (by rw [bstrVals_length]; exact hk)]; simp [bstrVals]⟩

theorem str_back (s : ByteArray) : (⟨s.data.toList.toArray⟩ : ByteArray) = s := by cases s; simp
theorem str_to (l : List UInt8) : (⟨l.toArray⟩ : ByteArray).data.toList = l := by simp
theorem str_size (l : List UInt8) : (⟨l.toArray⟩ : ByteArray).size = l.length := by show l.toArray.size = _; simp

/-- What a function that makes a byte slice returns, for the caller. -/
def GotB (l : List UInt8) (w : World) (e : Ending) (w' : World) : Prop := ∃ a cap, e = .returned (.slice a l.length cap) ∧ Rd w' a l.length cap 1 (byteVals l) ∧ Below w.heap.size w w'
/-- What a function that returns a bool and keeps what was there. -/
def RetBool (b : Bool) (w : World) (e : Ending) (w' : World) : Prop := e = .returned (.bool b) ∧ Below w.heap.size w w'
/-- What a function that returns a value and keeps what was there. -/
def RetV (v : Value) (w : World) (e : Ending) (w' : World) : Prop := e = .returned v ∧ Below w.heap.size w w'
end Go.Proofs.Ytgimkipekoabbaa
