/-
  What Parse's walk keeps; how it ends in a panic. No condition.
-/
import Derived.Test.YtgimkipekoabbaaWRv
namespace Go.Proofs.Ytgimkipekoabbaa
open Go.RowKit

/-- Parse's cells: its table's block s, its error's, the reader's; the words lie below s. -/
structure PSt (s : Nat) (w wr : World) (X : TabP) (l : List Int) : Prop where
  t : Blk wr s 28 [.string ⟨X.name.toArray⟩, .slice X.ca X.cols.length X.cc, .slice X.ia X.ixs.length X.ic, .slice X.ha X.chks.length X.hc]
  e : Blk wr (s + 1) 30 [.int .i64 0]
  r : RdrP s wr (s + 2) l
  b : Below s w wr
  o : TabOwn (s + 3) wr X
  nh : ∀ p ∈ X.ixs, ∀ x b, p.a = some x → X.ha = some b → x.block ≠ b.block
theorem PSt.big {s : Nat} {w wr : World} {X : TabP} {l : List Int} (h : PSt s w wr X l) : s + 3 ≤ wr.heap.size := by
  obtain ⟨a, m, c, hb, _⟩ := h.r; exact hb.lt
theorem TabOwn.but {B : Nat} {w w' : World} {X : TabP} {F : List Nat} (h : TabOwn B w X) (hb : But F w w') (hF : ∀ x ∈ F, x < B) : TabOwn B w' X := by
  have hk : ∀ {e size n cap : Nat} {a : Option Addr} {xs : List Value}, w.ownsRow B e size (.slice a n cap) n xs → ∀ k, (Value.slice a n cap).ownBlock = some k → w'.heap[k]? = w.heap[k]? := fun ho k hk => hb.block k (ho.lt k hk).2 (fun hm => by have := hF k hm; have := (ho.lt k hk).1; omega)
  exact ⟨own_eq h.cols (hk h.cols), own_eq h.ixs (hk h.ixs), own_eq h.chks (hk h.chks), fun p hp => (h.nums p hp).eq (fun ad ha => hb.block _ (h.nb p hp ad ha).2 (fun hm => by have := hF _ hm; have := (h.nb p hp ad ha).1; omega)), h.ci, h.ch, h.ih, h.nc, h.ni, fun p hp a ha => by have := h.nb p hp a ha; have := hb.size; omega⟩
theorem PSt.call {s : Nat} {w wr w' : World} {X : TabP} {l l' : List Int} (h : PSt s w wr X l) (hr : RdrP s w' (s + 2) l') (hb : But [s + 2] wr w') : PSt s w w' X l' :=
  ⟨h.t.but hb (by simp), h.e.but hb (by simp), hr, h.b.trans (hb.toBelow (by have := h.big; omega) (by simp)), h.o.but hb (by simp), h.nh⟩
theorem PSt.turn {s : Nat} {w wr w3 : World} {X X' : TabP} {l : List Int} (h : PSt s w wr X l) (hk : ∀ k, k < s + 3 → w3.heap[k]? = wr.heap[k]?) (hb : Below s w w3) (ho : TabOwn (s + 3) w3 X') (hnh : ∀ p ∈ X'.ixs, ∀ x b, p.a = some x → X'.ha = some b → x.block ≠ b.block) (j : Nat) (v : Value)
    (hcs : [Value.string ⟨X'.name.toArray⟩, .slice X'.ca X'.cols.length X'.cc, .slice X'.ia X'.ixs.length X'.ic, .slice X'.ha X'.chks.length X'.hc] = [Value.string ⟨X.name.toArray⟩, .slice X.ca X.cols.length X.cc, .slice X.ia X.ixs.length X.ic, .slice X.ha X.chks.length X.hc].set j v) : PSt s w (w3.setCell ⟨s, j, none⟩ v) X' l := by
  refine ⟨?_, (h.e.eq (hk _ (by omega))).other (by show s + 1 ≠ s; omega) _, (h.r.keep (hk _ (by omega)) (fun k hk2 => hk k (by omega))).keep ?_ (fun k hk2 => ?_), hb.setCell (Nat.le_refl s) v, ho.setCell (by omega) j v, hnh⟩
  · rw [hcs]; exact (h.t.eq (hk _ (by omega))).set j v
  · exact Below.heap_setCell _ _ _ _ (by show s + 2 ≠ s; omega)
  · exact Below.heap_setCell _ _ _ _ (by show k ≠ s; omega)
/-- Ready to die. -/
structure PDd (s : Nat) (w wr : World) (X : TabP) : Prop where
  t : Blk wr s 28 [.string ⟨X.name.toArray⟩, .slice X.ca X.cols.length X.cc, .slice X.ia X.ixs.length X.ic, .slice X.ha X.chks.length X.hc]
  e : Blk wr (s + 1) 30 [.int .i64 0]
  b : Below s w wr
theorem PSt.dd {s : Nat} {w wr : World} {X : TabP} {l : List Int} (h : PSt s w wr X l) : PDd s w wr X := ⟨h.t, h.e, h.b⟩
theorem PSt.ddc {s : Nat} {w wr w' : World} {X : TabP} {l : List Int} (h : PSt s w wr X l) (hb : But [s + 2] wr w') : PDd s w w' X := ⟨h.t.but hb (by simp), h.e.but hb (by simp), h.b.trans (hb.toBelow (by have := h.big; omega) (by simp))⟩

set_option maxRecDepth 20000 in
theorem par_results {w : World} {g : Nat} {x0 x1 x2 x3 : Value} {v : Int} (hp : Blk w g 28 [x0, x1, x2, x3]) (hq : Blk w (g + 1) 30 [.int .i64 v]) (tmps : Array Value) (h2 : tmps.getD 2 undef = .pointer (some ⟨g, 0, none⟩)) (h3 : tmps.getD 3 undef = .pointer (some ⟨g + 1, 0, none⟩)) :
    (results Try.f40 tmps).run Try.prog w = .ok (.tuple #[.agg #[x0, x1, x2, x3], .int .i64 v]) w := by
  have c0 := hp.cellOf (i := 0) rfl
  have c1 := hp.cellOf (i := 1) rfl
  have c2 := hp.cellOf (i := 2) rfl
  have c3 := hp.cellOf (i := 3) rfl
  have hc0 := hq.cellOf (i := 0) rfl
  have h2' : tmps[2]?.getD undef = .pointer (some ⟨g, 0, none⟩) := by simpa using h2
  have h3' : tmps[3]?.getD undef = .pointer (some ⟨g + 1, 0, none⟩) := by simpa using h3
  simp [results, Try.results40, h2', h3', asAddr, go_sem, c0, c1, c2, c3, hc0]

set_option maxRecDepth 20000 in
theorem par_nm : (Try.f74.name == "runtime.NumGoroutine") = false := by kernel_rfl
theorem PDd.dies {w wr : World} {X : TabP} (h : PDd w.heap.size w wr X) (tmps : Array Value) (h2 : tmps.getD 2 undef = .pointer (some ⟨w.heap.size, 0, none⟩)) (h3 : tmps.getD 3 undef = .pointer (some ⟨w.heap.size + 1, 0, none⟩)) :
    Leaves Try.prog Try.f40 tmps (RetTab TN 3 w) [{ target := .fn (.func 72) #[.pointer (some ⟨w.heap.size, 0, none⟩), .pointer (some ⟨w.heap.size + 1, 0, none⟩)], args := #[] }] (.panicking [{ v := malV, recovered := false }]) wr := by
  refine leaves_cons (f := 72) (args := #[.pointer (some ⟨w.heap.size, 0, none⟩), .pointer (some ⟨w.heap.size + 1, 0, none⟩)]) (by simp) (by simp [go_sem]) ?_
  refine (catch_panic w.heap.size w.heap.size (w.heap.size + 1) wr (Nat.le_refl _) (by omega) (by omega) _ _ _ _ 0 h.t h.e).mono ?_
  rintro e u' w' ⟨rfl, rfl, hb, hp, hq⟩
  exact ⟨_, par_results hp hq tmps h2 h3, RetTab.nil (h.b.trans (hb.mono (by have := h.e.lt; omega)))⟩
theorem par_done {w wr : World} {X : TabP} {T : Tab} (ht : Blk wr w.heap.size 28 [.string ⟨X.name.toArray⟩, .slice X.ca X.cols.length X.cc, .slice X.ia X.ixs.length X.ic, .slice X.ha X.chks.length X.hc]) (he : Blk wr (w.heap.size + 1) 30 [.int .i64 0]) (hb : Below w.heap.size w wr) (hr : TabRd wr X) (hX : X.t = T)
    (tmps : Array Value) (h2 : tmps.getD 2 undef = .pointer (some ⟨w.heap.size, 0, none⟩)) (h3 : tmps.getD 3 undef = .pointer (some ⟨w.heap.size + 1, 0, none⟩)) :
    Leaves Try.prog Try.f40 tmps (RetTab T 0 w) [{ target := .fn (.func 72) #[.pointer (some ⟨w.heap.size, 0, none⟩), .pointer (some ⟨w.heap.size + 1, 0, none⟩)], args := #[] }] .returning wr := by
  refine leaves_cons (f := 72) (args := #[.pointer (some ⟨w.heap.size, 0, none⟩), .pointer (some ⟨w.heap.size + 1, 0, none⟩)]) (by simp) (by simp [go_sem]) ?_
  refine (catch_idle _ _ wr).mono ?_
  rintro e u' w' ⟨rfl, rfl, rfl⟩
  exact ⟨_, par_results ht he tmps h2 h3, hb, X, rfl, hr, hX⟩
/-- Where it dies no other slot matters. -/
theorem par_put {R : Ending → World → Prop} {c : List PanicEntry} {tmps : Array Value} {ds : List Deferred} {w : World} {i : Nat} {v : Value} (h2 : i ≠ 2) (h3 : i ≠ 3) (h : Leaves Try.prog Try.f40 (tmps.setIfInBounds i v) R ds (.panicking c) w) :
    Leaves Try.prog Try.f40 tmps R ds (.panicking c) w := by
  have hr : results Try.f40 (tmps.setIfInBounds i v) = results Try.f40 tmps := by
    simp [results, Try.results40, Array.getElem?_setIfInBounds, h2, h3]
  have key : ∀ (ds : List Deferred) (u : FrameMode) (w : World), Leaves Try.prog Try.f40 (tmps.setIfInBounds i v) R ds u w → Leaves Try.prog Try.f40 tmps R ds u w := by
    intro ds
    induction ds with
    | nil =>
      intro u w h
      cases u with
      | returning => obtain ⟨v, h1, h2⟩ := h; exact ⟨v, by rw [← hr]; exact h1, h2⟩
      | panicking c => exact h
      | run => exact h
    | cons d ds ih =>
      intro u w h
      obtain ⟨hu, fv, cap, f, args, h1, h2, h3⟩ := h
      refine ⟨hu, fv, cap, f, args, h1, h2, h3.mono ?_⟩
      intro e u' w' he
      cases e with
      | returned v => exact ih _ _ he
      | panicked c => exact ih _ _ he
      | outgrown => exact he
  exact key ds _ w h
theorem PSt.start {w : World} {a : Option Addr} {c : Nat} {l : List Int} (hr : Rd w a l.length c 1 (intVals l)) : PSt w.heap.size w (((w.alloc (.cells #[.string ⟨#[]⟩, .slice none 0 0, .slice none 0 0, .slice none 0 0] 28)).alloc (.cells #[.int .i64 0] 30)).alloc (.cells #[.slice a l.length c] 100)) XN l := by
  have hb : Below w.heap.size w (((w.alloc (.cells #[.string ⟨#[]⟩, .slice none 0 0, .slice none 0 0, .slice none 0 0] 28)).alloc (.cells #[.int .i64 0] 30)).alloc (.cells #[.slice a l.length c] 100)) := (((Below.refl _ _).alloc (Nat.le_refl _) _).alloc (by simp) _).alloc (by simp; omega) _
  refine ⟨((Blk.new rfl rfl).alloc _).alloc _, (Blk.new (by simp) rfl).alloc _, ⟨a, l.length, c, Blk.new (by simp) rfl, hr.below hb (Nat.le_refl _), fun ad ha h0 => ?_⟩, hb, ⟨World.ownsRow_nil _ _ _ _, World.ownsRow_nil _ _ _ _, World.ownsRow_nil _ _ _ _, by simp [XN], by simp [XN], by simp [XN], by simp [XN], by simp [XN], by simp [XN], by simp [XN]⟩, by simp [XN]⟩
  obtain ⟨b, off, h1, h2⟩ := hr.at 0 h0
  rw [ha] at h1; cases h1
  exact cell_block_lt (h2 0 (by rw [intVals_length]; omega))
theorem text_rdI {B g : Nat} {l : List Int} {n : Int} {w : World} (hr : RdrP B w g l) (hB : B ≤ w.heap.size) (h0 : 0 ≤ n) (hn : n ≤ 100000) : Calls Try.prog 74 #[.pointer (some ⟨g, 0, none⟩), .int .i64 n] w (RetRd (fun s => .string ⟨s.toArray⟩) B g (rdT n.toNat l) w) := by
  obtain ⟨m, rfl⟩ := Int.eq_ofNat_of_zero_le h0
  exact text_rd hr hB (by omega)
/-- Another name. -/
def TabP.withName (X : TabP) (nm : List UInt8) : TabP := ⟨nm, X.ca, X.cc, X.cols, X.ia, X.ic, X.ixs, X.ha, X.hc, X.chks⟩
theorem TabOwn.withName {B : Nat} {w : World} {X : TabP} (h : TabOwn B w X) (nm : List UInt8) : TabOwn B w (X.withName nm) := ⟨h.cols, h.ixs, h.chks, h.nums, h.ci, h.ch, h.ih, h.nc, h.ni, h.nb⟩
theorem PSt.named {s : Nat} {w wr : World} {X : TabP} {l : List Int} (h : PSt s w wr X l) (nm : List UInt8) : PSt s w (wr.setCell ⟨s, 0, none⟩ (.string ⟨nm.toArray⟩)) (X.withName nm) l :=
  h.turn (fun _ _ => rfl) h.b (h.o.withName nm) h.nh 0 _ rfl
end Go.Proofs.Ytgimkipekoabbaa
