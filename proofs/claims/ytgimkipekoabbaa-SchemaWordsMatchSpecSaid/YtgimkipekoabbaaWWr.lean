/-
  A writer behind a start, and its calls. No condition.
-/
import Derived.Test.YtgimkipekoabbaaWds
import Derived.Test.YtgimkipekoabbaaWText2
import Derived.Test.YtgimkipekoabbaaWFits
namespace Go.Proofs.Ytgimkipekoabbaa
open Go.RowKit

/-- A writer of the words L in block g, all of it behind w0. -/
structure WrIn (w0 : World) (g : Nat) (L : List Int) (w : World) : Prop where
  below : Below w0.heap.size w0 w
  wr : ∃ F, WrP g L w F ∧ ∀ x ∈ F, w0.heap.size ≤ x
theorem WrIn.step {w0 w w' : World} {g : Nat} {L : List Int} (h : WrIn w0 g L w) (hb : Below w.heap.size w w') : WrIn w0 g L w' := by
  obtain ⟨F, hW, hF⟩ := h.wr
  exact ⟨h.below.trans (hb.mono h.below.size), F, (WrP.stb g L).eq _ _ _ hW (fun x hx => hb.block x ((WrP.stb g L).lt _ _ hW x hx)), hF⟩
theorem WrIn.alloc {w0 w : World} {g : Nat} {L : List Int} (h : WrIn w0 g L w) (o : Obj) : WrIn w0 g L (w.alloc o) := h.step ((Below.refl _ _).alloc (Nat.le_refl _) o)
theorem WrIn.drewN {w0 w : World} {g : Nat} {L : List Int} (h : WrIn w0 g L w) (n : Nat) : WrIn w0 g L (w.drewN n) := h.step (below_drewN (Below.refl _ _) n)
theorem WrIn.add {w0 w : World} {g : Nat} {L M : List Int} (h : WrIn w0 g L w) {a2 : Option Addr} {m c2 : Nat} (hr : Rd w a2 m c2 1 (intVals M)) (hs : L.length + M.length ≤ 1000000) :
    Calls Try.prog 53 #[.pointer (some ⟨g, 0, none⟩), .slice a2 m c2] w fun e w' => e = .returned (.tuple #[]) ∧ WrIn w0 g (L ++ M) w' := by
  obtain ⟨F, hW, hF⟩ := h.wr
  refine (add_but g L M F a2 m c2 w hW hr hs).mono ?_
  rintro e w' ⟨rfl, ⟨F', hW', hF'⟩, hB⟩
  have hs := h.below.size
  exact ⟨rfl, ⟨h.below.trans (hB.toBelow hs hF), F', hW', fun x hx => by
    rcases hF' x hx with h1 | h1
    · exact hF x h1
    · omega⟩⟩
theorem rd_one (w : World) (x : Int) : Rd (w.alloc (.cells #[.int .i64 x] 3)) (some ⟨w.heap.size, 0, none⟩) 1 1 1 (intVals [x]) :=
  Rd.ofOwn (own_new (e := 3) (base := 0) (Blk.new (w := w) (cs := intVals [x]) rfl rfl) (Nat.zero_le _) rfl (by decide))
theorem rd_two (w : World) (x y : Int) : Rd (w.alloc (.cells #[.int .i64 x, .int .i64 y] 3)) (some ⟨w.heap.size, 0, none⟩) 2 2 1 (intVals [x, y]) :=
  Rd.ofOwn (own_new (e := 3) (base := 0) (Blk.new (w := w) (cs := intVals [x, y]) rfl rfl) (Nat.zero_le _) rfl (by decide))

/-- What a call leaves on a writer that grows to L, beside a block gc. -/
def RetW2 (w0 : World) (g : Nat) (L : List Int) (e : Ending) (w' : World) : Prop := e = .returned (.tuple #[]) ∧ WrIn w0 g L w'
theorem WrIn.add1 {w0 w : World} {g : Nat} {L : List Int} (h : WrIn w0 g L w) (x : Int) {k : Nat} (hk : k = w.heap.size) (hs : L.length ≤ 10000) :
    Calls Try.prog 53 #[.pointer (some ⟨g, 0, none⟩), .slice (some ⟨k, 0, none⟩) 1 1] (w.alloc (.cells #[.int .i64 x] 3)) (RetW2 w0 g (L ++ [x])) := by
  subst hk
  refine ((h.alloc _).add (rd_one w x) (by simp; omega)).mono ?_
  rintro e w' ⟨rfl, h2⟩
  exact ⟨rfl, h2⟩
theorem WrIn.add2 {w0 w : World} {g : Nat} {L : List Int} (h : WrIn w0 g L w) (x y : Int) {k : Nat} (hk : k = w.heap.size) (hs : L.length ≤ 10000) :
    Calls Try.prog 53 #[.pointer (some ⟨g, 0, none⟩), .slice (some ⟨k, 0, none⟩) 2 2] (w.alloc (.cells #[.int .i64 x, .int .i64 y] 3)) (RetW2 w0 g (L ++ [x, y])) := by
  subst hk
  refine ((h.alloc _).add (rd_two w x y) (by simp; omega)).mono ?_
  rintro e w' ⟨rfl, h2⟩
  exact ⟨rfl, h2⟩
theorem WrIn.text {w0 w : World} {g : Nat} {L : List Int} (h : WrIn w0 g L w) (s : List UInt8) (hs : L.length ≤ 10000) (hs2 : s.length ≤ 1000) :
    Calls Try.prog 54 #[.pointer (some ⟨g, 0, none⟩), .string ⟨s.toArray⟩] w (RetW2 w0 g (L ++ textW s)) := by
  obtain ⟨F, hW, hF⟩ := h.wr
  refine (text_but g L F s w hW (by omega) (by unfold nWords; omega)).mono ?_
  rintro e w' ⟨rfl, ⟨F', hW', hF'⟩, hB⟩
  have hs := h.below.size
  exact ⟨rfl, h.below.trans (hB.toBelow hs hF), F', hW', fun x hx => by
    rcases hF' x hx with h1 | h1
    · exact hF x h1
    · omega⟩
/-- A new writer. -/
theorem WrIn.start (w : World) : WrIn w w.heap.size [] (w.alloc (.cells #[.slice none 0 0] 77)) :=
  ⟨(Below.refl _ _).alloc (Nat.le_refl _) _, [w.heap.size], ⟨none, 0, 0, Blk.new rfl rfl, World.ownsRow_nil _ _ _ _, fun k hk => by simp [Value.ownBlock] at hk, rfl⟩, by simp⟩
theorem WrIn.out {w0 w : World} {g : Nat} {L : List Int} (h : WrIn w0 g L w) : ∃ a cap, w.cell? ⟨g, 0, none⟩ = some (.slice a L.length cap) ∧ Rd w a L.length cap 1 (intVals L) := by
  obtain ⟨F, ⟨a, n, cap, hb, hr, _, _⟩, _⟩ := h.wr
  have hn : L.length = n := by have := hr.1; rw [intVals_length] at this; omega
  subst hn
  exact ⟨a, cap, hb.cellOf (i := 0) rfl, Rd.ofOwn hr⟩
/-- A table that lay ahead of the writer. -/
theorem WrIn.tab {w0 w wT : World} {g gT : Nat} {L : List Int} {X : TabP} (h : WrIn w0 g L w) (hT : TabIn wT w0 gT X) : TabIn wT w gT X := hT.step h.below

/-- A writer beside a block of the call's own. -/
structure WrB (w0 : World) (g : Nat) (L : List Int) (gc : Nat) (ty : TypeId) (cs : List Value) (w : World) : Prop where
  below : Below w0.heap.size w0 w
  wr : ∃ F, WrP g L w F ∧ (∀ x ∈ F, w0.heap.size ≤ x) ∧ gc ∉ F
  blk : Blk w gc ty cs
theorem WrB.toIn {w0 w : World} {g gc : Nat} {L : List Int} {ty : TypeId} {cs : List Value} (h : WrB w0 g L gc ty cs w) : WrIn w0 g L w := by
  obtain ⟨F, hW, hF, _⟩ := h.wr
  exact ⟨h.below, F, hW, hF⟩
theorem WrB.step {w0 w w' : World} {g gc : Nat} {L : List Int} {ty : TypeId} {cs : List Value} (h : WrB w0 g L gc ty cs w) (hb : Below w.heap.size w w') : WrB w0 g L gc ty cs w' := by
  obtain ⟨F, hW, hF, hn⟩ := h.wr
  exact ⟨h.below.trans (hb.mono h.below.size), ⟨F, (WrP.stb g L).eq _ _ _ hW (fun x hx => hb.block x ((WrP.stb g L).lt _ _ hW x hx)), hF, hn⟩, h.blk.call0 hb⟩
theorem WrB.alloc {w0 w : World} {g gc : Nat} {L : List Int} {ty : TypeId} {cs : List Value} (h : WrB w0 g L gc ty cs w) (o : Obj) : WrB w0 g L gc ty cs (w.alloc o) := h.step ((Below.refl _ _).alloc (Nat.le_refl _) o)
theorem WrB.drewN {w0 w : World} {g gc : Nat} {L : List Int} {ty : TypeId} {cs : List Value} (h : WrB w0 g L gc ty cs w) (n : Nat) : WrB w0 g L gc ty cs (w.drewN n) := h.step (below_drewN (Below.refl _ _) n)
theorem WrB.new {w0 w : World} {g : Nat} {L : List Int} (h : WrIn w0 g L w) (ty : TypeId) (cs : List Value) {o : Obj} (ho : o = .cells cs.toArray ty := by rfl) : WrB w0 g L w.heap.size ty cs (w.alloc o) := by
  obtain ⟨F, hW, hF⟩ := h.wr
  have h2 := h.alloc o
  have hlt := (WrP.stb g L).lt _ _ hW
  exact ⟨h2.below, ⟨F, (WrP.stb g L).eq _ _ _ hW (fun x hx => Below.heap_alloc _ _ _ (hlt x hx)), hF, fun hm => by have := hlt _ hm; omega⟩, by subst ho; exact Blk.new rfl rfl⟩
/-- What a call on such a writer leaves. -/
def RetWB (w0 : World) (g : Nat) (L : List Int) (gc : Nat) (ty : TypeId) (cs : List Value) (e : Ending) (w' : World) : Prop := e = .returned (.tuple #[]) ∧ WrB w0 g L gc ty cs w'
theorem WrB.add {w0 w : World} {g gc : Nat} {L M : List Int} {ty : TypeId} {cs : List Value} (h : WrB w0 g L gc ty cs w) {a2 : Option Addr} {m c2 : Nat} (hr : Rd w a2 m c2 1 (intVals M)) (hs : L.length + M.length ≤ 1000000) :
    Calls Try.prog 53 #[.pointer (some ⟨g, 0, none⟩), .slice a2 m c2] w (RetWB w0 g (L ++ M) gc ty cs) := by
  obtain ⟨F, hW, hF, hn⟩ := h.wr
  refine (add_but g L M F a2 m c2 w hW hr hs).mono ?_
  rintro e w' ⟨rfl, ⟨F', hW', hF'⟩, hB⟩
  have hs := h.below.size
  have hg := h.blk.lt
  exact ⟨rfl, h.below.trans (hB.toBelow hs hF), ⟨F', hW', fun x hx => by
    rcases hF' x hx with h1 | h1
    · exact hF x h1
    · omega, fun hm => by
    rcases hF' _ hm with h1 | h1
    · exact hn h1
    · omega⟩, h.blk.but hB hn⟩
theorem WrB.add1 {w0 w : World} {g gc : Nat} {L : List Int} {ty : TypeId} {cs : List Value} (h : WrB w0 g L gc ty cs w) (x : Int) {k : Nat} (hk : k = w.heap.size) (hs : L.length ≤ 10000) :
    Calls Try.prog 53 #[.pointer (some ⟨g, 0, none⟩), .slice (some ⟨k, 0, none⟩) 1 1] (w.alloc (.cells #[.int .i64 x] 3)) (RetWB w0 g (L ++ [x]) gc ty cs) := by
  subst hk
  exact (h.alloc _).add (rd_one w x) (by simp; omega)
theorem WrB.add2 {w0 w : World} {g gc : Nat} {L : List Int} {ty : TypeId} {cs : List Value} (h : WrB w0 g L gc ty cs w) (x y : Int) {k : Nat} (hk : k = w.heap.size) (hs : L.length ≤ 10000) :
    Calls Try.prog 53 #[.pointer (some ⟨g, 0, none⟩), .slice (some ⟨k, 0, none⟩) 2 2] (w.alloc (.cells #[.int .i64 x, .int .i64 y] 3)) (RetWB w0 g (L ++ [x, y]) gc ty cs) := by
  subst hk
  exact (h.alloc _).add (rd_two w x y) (by simp; omega)

/-- 'c << (4 * k)' of a place. -/
theorem wrap_shl4 (c : Int) {k : Nat} (hk : k < 8) (h0 : 0 ≤ c) (h1 : c < 8) : wrap64 (c * 2 ^ (4 * k)) = c * ((16 ^ k : Nat) : Int) := by
  have hk8 : k = 0 ∨ k = 1 ∨ k = 2 ∨ k = 3 ∨ k = 4 ∨ k = 5 ∨ k = 6 ∨ k = 7 := by omega
  rcases hk8 with rfl | rfl | rfl | rfl | rfl | rfl | rfl | rfl <;> (simp; unfold wrap64; omega)
end Go.Proofs.Ytgimkipekoabbaa
