/-
  Chapter 20: the walk of schema.Words. No condition.
-/
import Derived.Test.YtgimkipekoabbaaC20
import Derived.Test.YtgimkipekoabbaaWFits
/-
  A writer behind a start, and its calls. No condition.
-/
namespace Go.Proofs.Ytgimkipekoabbaa
open Go.RowKit

/-- A writer of the words L in block g, all of it behind w0. -/
structure WrIn (w0 : World) (g : Nat) (L : List Int) (w : World) : Prop where
  below : Below w0.heap.size w0 w
  wr : ∃ F, WrP g L w F ∧ ∀ x ∈ F, w0.heap.size ≤ x
theorem WrIn.step {w0 w w' : World} {g : Nat} {L : List Int} (h : WrIn w0 g L w) (hb : Below w.heap.size w w') : WrIn w0 g L w' := by
  obtain ⟨F, hW, hF⟩ := h.wr
  exact ⟨h.below.trans (hb.mono h.below.size), F, (WrP.stb g L).eq _ _ _ hW (fun x hx => hb.block x ((WrP.stb g L).lt _ _ hW x hx)), hF⟩
theorem WrIn.alloc {w0 w : World} {g : Nat} {L : List Int} (h : WrIn w0 g L w) (o : Obj) : WrIn w0 g L (w.alloc o) := h.step ((Below.refl _ _).alloc (Nat.le_refl _) o)
theorem WrIn.drewN {w0 w : World} {g : Nat} {L : List Int} (h : WrIn w0 g L w) (n : Nat) : WrIn w0 g L (w.drewN n) := h.step (below_drewN (Below.refl _ _) n)
theorem WrIn.add {w0 w : World} {g : Nat} {L M : List Int} (h : WrIn w0 g L w) {a2 : Option Addr} {m c2 : Nat} (hr : Rd w a2 m c2 1 (intVals M)) (hs : L.length + M.length ≤ 1000000) :
    Calls Try.prog 53 #[.pointer (some ⟨g, 0, none⟩), .slice a2 m c2] w fun e w' => e = .returned (.tuple #[]) ∧ WrIn w0 g (L ++ M) w' := by
  obtain ⟨F, hW, hF⟩ := h.wr
  refine (add_but g L M F a2 m c2 w hW hr hs).mono ?_
  rintro e w' ⟨rfl, ⟨F', hW', hF'⟩, hB⟩
  have hs := h.below.size
  exact ⟨rfl, ⟨h.below.trans (hB.toBelow hs hF), F', hW', fun x hx => by
    rcases hF' x hx with h1 | h1
    · exact hF x h1
    · omega⟩⟩
theorem rd_one (w : World) (x : Int) : Rd (w.alloc (.cells #[.int .i64 x] 3)) (some ⟨w.heap.size, 0, none⟩) 1 1 1 (intVals [x]) :=
  Rd.ofOwn (own_new (e := 3) (base := 0) (Blk.new (w := w) (cs := intVals [x]) rfl rfl) (Nat.zero_le _) rfl (by decide))
theorem rd_two (w : World) (x y : Int) : Rd (w.alloc (.cells #[.int .i64 x, .int .i64 y] 3)) (some ⟨w.heap.size, 0, none⟩) 2 2 1 (intVals [x, y]) :=
  Rd.ofOwn (own_new (e := 3) (base := 0) (Blk.new (w := w) (cs := intVals [x, y]) rfl rfl) (Nat.zero_le _) rfl (by decide))

/-- What a call leaves on a writer that grows to L, beside a block gc. -/
def RetW2 (w0 : World) (g : Nat) (L : List Int) (e : Ending) (w' : World) : Prop := e = .returned (.tuple #[]) ∧ WrIn w0 g L w'
theorem WrIn.add1 {w0 w : World} {g : Nat} {L : List Int} (h : WrIn w0 g L w) (x : Int) {k : Nat} (hk : k = w.heap.size) (hs : L.length ≤ 10000) :
    Calls Try.prog 53 #[.pointer (some ⟨g, 0, none⟩), .slice (some ⟨k, 0, none⟩) 1 1] (w.alloc (.cells #[.int .i64 x] 3)) (RetW2 w0 g (L ++ [x])) := by
  subst hk
  refine ((h.alloc _).add (rd_one w x) (by simp; omega)).mono ?_
  rintro e w' ⟨rfl, h2⟩
  exact ⟨rfl, h2⟩
theorem WrIn.add2 {w0 w : World} {g : Nat} {L : List Int} (h : WrIn w0 g L w) (x y : Int) {k : Nat} (hk : k = w.heap.size) (hs : L.length ≤ 10000) :
    Calls Try.prog 53 #[.pointer (some ⟨g, 0, none⟩), .slice (some ⟨k, 0, none⟩) 2 2] (w.alloc (.cells #[.int .i64 x, .int .i64 y] 3)) (RetW2 w0 g (L ++ [x, y])) := by
  subst hk
  refine ((h.alloc _).add (rd_two w x y) (by simp; omega)).mono ?_
  rintro e w' ⟨rfl, h2⟩
  exact ⟨rfl, h2⟩
theorem WrIn.text {w0 w : World} {g : Nat} {L : List Int} (h : WrIn w0 g L w) (s : List UInt8) (hs : L.length ≤ 10000) (hs2 : s.length ≤ 1000) :
    Calls Try.prog 54 #[.pointer (some ⟨g, 0, none⟩), .string ⟨s.toArray⟩] w (RetW2 w0 g (L ++ textW s)) := by
  obtain ⟨F, hW, hF⟩ := h.wr
  refine (text_but g L F s w hW (by omega) (by unfold nWords; omega)).mono ?_
  rintro e w' ⟨rfl, ⟨F', hW', hF'⟩, hB⟩
  have hs := h.below.size
  exact ⟨rfl, h.below.trans (hB.toBelow hs hF), F', hW', fun x hx => by
    rcases hF' x hx with h1 | h1
    · exact hF x h1
    · omega⟩
/-- A new writer. -/
theorem WrIn.start (w : World) : WrIn w w.heap.size [] (w.alloc (.cells #[.slice none 0 0] 77)) :=
  ⟨(Below.refl _ _).alloc (Nat.le_refl _) _, [w.heap.size], ⟨none, 0, 0, Blk.new rfl rfl, World.ownsRow_nil _ _ _ _, fun k hk => by simp [Value.ownBlock] at hk, rfl⟩, by simp⟩
theorem WrIn.out {w0 w : World} {g : Nat} {L : List Int} (h : WrIn w0 g L w) : ∃ a cap, w.cell? ⟨g, 0, none⟩ = some (.slice a L.length cap) ∧ Rd w a L.length cap 1 (intVals L) := by
  obtain ⟨F, ⟨a, n, cap, hb, hr, _, _⟩, _⟩ := h.wr
  have hn : L.length = n := by have := hr.1; rw [intVals_length] at this; omega
  subst hn
  exact ⟨a, cap, hb.cellOf (i := 0) rfl, Rd.ofOwn hr⟩
/-- A table that lay ahead of the writer. -/
theorem WrIn.tab {w0 w wT : World} {g gT : Nat} {L : List Int} {X : TabP} (h : WrIn w0 g L w) (hT : TabIn wT w0 gT X) : TabIn wT w gT X := hT.step h.below

/-- A writer beside a block of the call's own. -/
structure WrB (w0 : World) (g : Nat) (L : List Int) (gc : Nat) (ty : TypeId) (cs : List Value) (w : World) : Prop where
  below : Below w0.heap.size w0 w
  wr : ∃ F, WrP g L w F ∧ (∀ x ∈ F, w0.heap.size ≤ x) ∧ gc ∉ F
  blk : Blk w gc ty cs
theorem WrB.toIn {w0 w : World} {g gc : Nat} {L : List Int} {ty : TypeId} {cs : List Value} (h : WrB w0 g L gc ty cs w) : WrIn w0 g L w := by
  obtain ⟨F, hW, hF, _⟩ := h.wr
  exact ⟨h.below, F, hW, hF⟩
theorem WrB.step {w0 w w' : World} {g gc : Nat} {L : List Int} {ty : TypeId} {cs : List Value} (h : WrB w0 g L gc ty cs w) (hb : Below w.heap.size w w') : WrB w0 g L gc ty cs w' := by
  obtain ⟨F, hW, hF, hn⟩ := h.wr
  exact ⟨h.below.trans (hb.mono h.below.size), ⟨F, (WrP.stb g L).eq _ _ _ hW (fun x hx => hb.block x ((WrP.stb g L).lt _ _ hW x hx)), hF, hn⟩, h.blk.call0 hb⟩
theorem WrB.alloc {w0 w : World} {g gc : Nat} {L : List Int} {ty : TypeId} {cs : List Value} (h : WrB w0 g L gc ty cs w) (o : Obj) : WrB w0 g L gc ty cs (w.alloc o) := h.step ((Below.refl _ _).alloc (Nat.le_refl _) o)
theorem WrB.drewN {w0 w : World} {g gc : Nat} {L : List Int} {ty : TypeId} {cs : List Value} (h : WrB w0 g L gc ty cs w) (n : Nat) : WrB w0 g L gc ty cs (w.drewN n) := h.step (below_drewN (Below.refl _ _) n)
theorem WrB.new {w0 w : World} {g : Nat} {L : List Int} (h : WrIn w0 g L w) (ty : TypeId) (cs : List Value) {o : Obj} (ho : o = .cells cs.toArray ty := by rfl) : WrB w0 g L w.heap.size ty cs (w.alloc o) := by
  obtain ⟨F, hW, hF⟩ := h.wr
  have h2 := h.alloc o
  have hlt := (WrP.stb g L).lt _ _ hW
  exact ⟨h2.below, ⟨F, (WrP.stb g L).eq _ _ _ hW (fun x hx => Below.heap_alloc _ _ _ (hlt x hx)), hF, fun hm => by have := hlt _ hm; omega⟩, by subst ho; exact Blk.new rfl rfl⟩
/-- What a call on such a writer leaves. -/
def RetWB (w0 : World) (g : Nat) (L : List Int) (gc : Nat) (ty : TypeId) (cs : List Value) (e : Ending) (w' : World) : Prop := e = .returned (.tuple #[]) ∧ WrB w0 g L gc ty cs w'
theorem WrB.add {w0 w : World} {g gc : Nat} {L M : List Int} {ty : TypeId} {cs : List Value} (h : WrB w0 g L gc ty cs w) {a2 : Option Addr} {m c2 : Nat} (hr : Rd w a2 m c2 1 (intVals M)) (hs : L.length + M.length ≤ 1000000) :
    Calls Try.prog 53 #[.pointer (some ⟨g, 0, none⟩), .slice a2 m c2] w (RetWB w0 g (L ++ M) gc ty cs) := by
  obtain ⟨F, hW, hF, hn⟩ := h.wr
  refine (add_but g L M F a2 m c2 w hW hr hs).mono ?_
  rintro e w' ⟨rfl, ⟨F', hW', hF'⟩, hB⟩
  have hs := h.below.size
  have hg := h.blk.lt
  exact ⟨rfl, h.below.trans (hB.toBelow hs hF), ⟨F', hW', fun x hx => by
    rcases hF' x hx with h1 | h1
    · exact hF x h1
    · omega, fun hm => by
    rcases hF' _ hm with h1 | h1
    · exact hn h1
    · omega⟩, h.blk.but hB hn⟩
theorem WrB.add1 {w0 w : World} {g gc : Nat} {L : List Int} {ty : TypeId} {cs : List Value} (h : WrB w0 g L gc ty cs w) (x : Int) {k : Nat} (hk : k = w.heap.size) (hs : L.length ≤ 10000) :
    Calls Try.prog 53 #[.pointer (some ⟨g, 0, none⟩), .slice (some ⟨k, 0, none⟩) 1 1] (w.alloc (.cells #[.int .i64 x] 3)) (RetWB w0 g (L ++ [x]) gc ty cs) := by
  subst hk
  exact (h.alloc _).add (rd_one w x) (by simp; omega)
theorem WrB.add2 {w0 w : World} {g gc : Nat} {L : List Int} {ty : TypeId} {cs : List Value} (h : WrB w0 g L gc ty cs w) (x y : Int) {k : Nat} (hk : k = w.heap.size) (hs : L.length ≤ 10000) :
    Calls Try.prog 53 #[.pointer (some ⟨g, 0, none⟩), .slice (some ⟨k, 0, none⟩) 2 2] (w.alloc (.cells #[.int .i64 x, .int .i64 y] 3)) (RetWB w0 g (L ++ [x, y]) gc ty cs) := by
  subst hk
  exact (h.alloc _).add (rd_two w x y) (by simp; omega)

/-- 'c << (4 * k)' of a place. -/
theorem wrap_shl4 (c : Int) {k : Nat} (hk : k < 8) (h0 : 0 ≤ c) (h1 : c < 8) : wrap64 (c * 2 ^ (4 * k)) = c * ((16 ^ k : Nat) : Int) := by
  have hk8 : k = 0 ∨ k = 1 ∨ k = 2 ∨ k = 3 ∨ k = 4 ∨ k = 5 ∨ k = 6 ∨ k = 7 := by omega
  rcases hk8 with rfl | rfl | rfl | rfl | rfl | rfl | rfl | rfl <;> (simp; unfold wrap64; omega)
end Go.Proofs.Ytgimkipekoabbaa

/-
  The walk of schema.Words. No condition.
-/
namespace Go.Proofs.Ytgimkipekoabbaa
open Go.RowKit

/-- What Words returns. -/
def RetWords (T : Tab) (w : World) (e : Ending) (w' : World) : Prop :=
  Below w.heap.size w w' ∧ ∃ a n cap, e = .returned (.tuple #[.slice a n cap, .int .i64 (checkT T)]) ∧ Rd w' a n cap 1 (intVals (if checkT T = 0 then wordsT T else []))
theorem RetWords.err {T : Tab} {w w' : World} {v : Int} (hv : checkT T = v) (h0 : v ≠ 0) (hb : Below w.heap.size w w') : RetWords T w (.returned (.tuple #[.slice none 0 0, .int .i64 v])) w' := by
  subst hv
  refine ⟨hb, none, 0, 0, rfl, ?_⟩
  rw [if_neg h0]
  exact ⟨rfl, Nat.le_refl _, by decide, fun _ => rfl, fun ad ha => by cases ha⟩

theorem nm_bit : (Try.f55.name == "runtime.NumGoroutine") = false := by kernel_rfl
theorem bd_bit : Try.f55.body.isNone = false := by kernel_rfl
theorem nm_add : (Try.f53.name == "runtime.NumGoroutine") = false := by kernel_rfl
theorem bd_add : Try.f53.body.isNone = false := by kernel_rfl

set_option maxRecDepth 20000 in
set_option maxHeartbeats 8000000 in
theorem words_any (X : TabP) (w : World) (hr : TabRd w X) : Calls Try.prog 21 #[X.v] w (RetWords X.t w) := by
  have T1 := Box.mk (TabIn.start hr)
  have mc := hr.cols.lenMax
  have mi := hr.ixs.lenMax
  have mh := hr.chks.lenMax
  clear hr
  unfold TabP.cs at T1
  unfold TabP.v
  have u0 := T1.out.c0
  have u1 := T1.out.c1
  have u2 := T1.out.c2
  have u3 := T1.out.c3
  go_enter Try.func21, Try.ntmps21
  go_wp2_with fail
  generalize (w.alloc (.cells #[.string ⟨X.name.toArray⟩, .slice X.ca X.cols.length X.cc, .slice X.ia X.ixs.length X.ic, .slice X.ha X.chks.length X.hc] 28)) = W at *
  generalize hg : w.heap.size = g at *
  have HG := Box.mk hg
  clear hg
  generalize hv : checkT X.t = v
  refine (check_is hv T1.out.rd).mono ?_
  rintro e w2 ⟨rfl, hb⟩
  have T2 := Box.mk (T1.out.step hb)
  clear hb T1 u0 u1 u2 u3
  by_cases h0 : v = 0
  · subst h0
    have OK := Box.mk (checkT_ok hv)
    have n16 := OK.out.name16
    have c8 := OK.out.cols8
    have i4 := OK.out.ixs4
    have h4 := OK.out.chks4
    change X.cols.length ≤ 8 at c8
    change (X.ixs.map fun (p : IxP) => p.x).length ≤ 4 at i4
    rw [List.length_map] at i4
    change X.chks.length ≤ 4 at h4
    change 0 < X.name.length ∧ X.name.length ≤ 16 at n16
    have HV := Box.mk hv
    clear hv
    have TA := T2.out.alloc (.cells #[.slice none 0 0] 77)
    have x0 := TA.c0
    have x1 := TA.c1
    have x2 := TA.c2
    have x3 := TA.c3
    have WR := Box.mk (WrIn.start w2)
    clear TA
    go_wp2_with fail
    have hh : bits .or .i64 (bits .or .i64 (bits .or .i64 (X.cols.length : Int) ((X.ixs.length : Int) * 16)) ((X.chks.length : Int) * 256)) ((X.name.length : Int) * 4096) = headW X.t := by
      rw [or_mul _ _ 4 16 rfl (by omega) (by omega) (by omega) (by omega) (by omega), or_mul _ _ 8 256 rfl (by omega) (by omega) (by omega) (by omega) (by omega), or_mul _ _ 12 4096 rfl (by omega) (by omega) (by omega) (by omega) (by omega)]
      unfold headW TabP.t
      simp only [List.length_map]
      omega
    rw [hh]
    clear hh
    refine (WR.out.add1 (headW X.t) (by simp) (by simp)).mono ?_
    rintro e w3 ⟨rfl, WR1⟩
    have TA := WR1.tab T2.out
    have x0 := TA.c0
    clear TA x1 x2 x3 WR
    go_wp2_with fail
    refine (WR1.text X.name (by simp) (by omega)).mono ?_
    rintro e w4 ⟨rfl, WR2⟩
    rw [List.nil_append] at WR2
    have WR := Box.mk WR2
    have HL0 : ([headW X.t] ++ textW X.name).length ≤ 5 := by rw [List.length_append, textW_length]; unfold nWords; simp only [List.length_singleton]; omega
    have HH0 := Box.mk (show wordsT X.t = [headW X.t] ++ textW X.name ++ flatW colW X.cols ++ flatW ixW (X.ixs.map fun (p : IxP) => p.x) ++ flatW chkW X.chks from rfl)
    generalize [headW X.t] ++ textW X.name = L0 at *
    have x1 := (WR2.tab T2.out).c1
    clear x0 WR1 WR2
    generalize hgw : w2.heap.size = gw at *
    have HGW := Box.mk hgw
    clear hgw
    go_wp2_with fail
    clear x1
    go_loopw [50] (fun i wr => ∃ k : Nat, k ≤ X.cols.length ∧ i = .int .i64 k ∧ Box (WrIn w2 gw (L0 ++ flatW colW (X.cols.take k)) wr)) (fun i _ => X.cols.length - (intOf i).toNat)
    case atStart => exact ⟨0, Nat.zero_le _, rfl, by rw [flatW_zero, List.append_nil]; exact WR⟩
    case round =>
      clear WR
      obtain ⟨k, hk, rfl, WR⟩ := hrel
      by_cases hlt : k < X.cols.length
      · have HLC := Box.mk (flatW_le (c := 5) (fun i hi => colW_le OK.out i hi) k hk)
        have hok := OK.out.col hlt
        obtain ⟨b, off, hca, hgb, hc⟩ := (WR.out.tab T2.out).rd.cols.recAt Col.enc_len (by omega) k hlt
        rw [hca]
        have HSUC := Box.mk (flatW_succ colW X.cols k hlt)
        change 0 < (X.cols.getD k default).name.length ∧ (X.cols.getD k default).name.length ≤ 16 ∧ 1 ≤ (X.cols.getD k default).kind ∧ (X.cols.getD k default).kind ≤ 3 at hok
        generalize X.cols.getD k default = y at *
        obtain ⟨yn, yk, yu⟩ := y
        have c0 := hc 0 _ rfl
        have c1 := hc 1 _ rfl
        have c2 := hc 2 _ rfl
        simp only [Nat.add_zero] at c0 c1 c2
        clear hc hca hgb
        simp only at hok
        obtain ⟨hn0, hn16, hk1, hk3⟩ := hok
        go_wp2_with fail
        have WA := WrB.new (o := .cells #[.string ⟨yn.toArray⟩, .int .i64 yk, .bool yu] 50) WR.out 50 [.string ⟨yn.toArray⟩, .int .i64 yk, .bool yu]
        have HB := Box.mk (fun w => bit_any yu w)
        change Box (∀ w, Calls Try.prog 55 #[.bool yu] w fun e w' => e = .returned (.int .i64 (b2i yu)) ∧ w' = w) at HB
        have hbu := b2i_le yu
        have HCH := Box.mk (show colH ⟨yn, yk, yu⟩ = yk + 4 * b2i yu + 8 * (yn.length : Int) from rfl)
        have HCW := Box.mk (show colW ⟨yn, yk, yu⟩ = [colH ⟨yn, yk, yu⟩] ++ textW yn from rfl)
        generalize colH ⟨yn, yk, yu⟩ = ch at *
        generalize colW ⟨yn, yk, yu⟩ = cw at *
        generalize b2i yu = bu at *
        have hh : bits .or .i64 (bits .or .i64 yk (IntKind.i64.wrap (bu * 4))) (IntKind.i64.wrap ((yn.length : Int) * 8)) = ch := by
          rw [show IntKind.i64.wrap (bu * 4) = bu * 4 from by rw [IntKind.wrap_i64]; omega, show IntKind.i64.wrap ((yn.length : Int) * 8) = (yn.length : Int) * 8 from by rw [IntKind.wrap_i64]; omega]
          rw [or_mul _ _ 2 4 rfl (by omega) (by omega) (by omega) (by omega) (by omega), or_mul _ _ 3 8 rfl (by omega) (by omega) (by omega) (by omega) (by omega), HCH.out]; omega
        have HHH := Box.mk hh
        clear hh c0 c1 c2
        generalize (wr.alloc (.cells #[.string ⟨yn.toArray⟩, .int .i64 yk, .bool yu] 50)) = wa at *
        generalize wr.heap.size = gc at *
        replace WA := Box.mk (WA.drewN 1)
        have HS0 : Blk wa.drew gc 50 [.string ⟨yn.toArray⟩, .int .i64 yk, .bool yu] := WA.out.blk
        refine wp_region_held_drew (S := fun w' => Blk w' gc 50 [.string ⟨yn.toArray⟩, .int .i64 yk, .bool yu]) (by kernel_rfl) HS0 (fun _ => ?_)
        refine wpAnyH_take (i := 0) (v := ?_) rfl (by kernel_rfl) (by kernel_rfl) (by kernel_rfl) (fun _ _ _ h => h) (yieldsIf_val (by rfl) (fun w' hS => ?_)) HS0 ?_
        rotate_left
        · skip
          go_simp
          all_goals with_reducible rfl
        conv =>
          arg 8
          simp [go_sem]
        refine wpAnyH_take (i := 1) (v := ?_) rfl (by kernel_rfl) (by kernel_rfl) (by kernel_rfl) (fun _ _ _ h => h) (yieldsIf_val (by rfl) (fun w' hS => ?_)) HS0 ?_
        rotate_left
        · skip
          go_simp
          all_goals with_reducible rfl
        conv =>
          arg 8
          simp [go_sem]
        refine wpAnyH_take (i := 2) (v := ?_) rfl (by kernel_rfl) (by kernel_rfl) (by kernel_rfl) (fun _ _ _ h => h) (yieldsIf_val (by rfl) (fun w' hS => ?_)) HS0 ?_
        rotate_left
        · skip
          have e := hS.cellOf (i := 1) rfl
          go_simp
          all_goals with_reducible rfl
        conv =>
          arg 8
          simp [go_sem]
        refine wpAnyH_take (i := 3) (v := ?_) rfl (by kernel_rfl) (by kernel_rfl) (by kernel_rfl) (fun _ _ _ h => h) (yieldsIf_val (by rfl) (fun w' hS => ?_)) HS0 ?_
        rotate_left
        · skip
          go_simp
          all_goals with_reducible rfl
        conv =>
          arg 8
          simp [go_sem]
        refine wpAnyH_take (i := 4) (v := ?_) rfl (by kernel_rfl) (by kernel_rfl) (by kernel_rfl) (fun _ _ _ h => h) (yieldsIf_val (by rfl) (fun w' hS => ?_)) HS0 ?_
        rotate_left
        · skip
          have e := hS.cellOf (i := 2) rfl
          go_simp
          all_goals with_reducible rfl
        conv =>
          arg 8
          simp [go_sem]
        refine wpAnyH_take (i := 8) (v := ?_) rfl (by kernel_rfl) (by kernel_rfl) (by kernel_rfl) (fun _ _ _ h => h) (yieldsIf_val (by rfl) (fun w' hS => ?_)) HS0 ?_
        rotate_left
        · skip
          go_simp
          all_goals with_reducible rfl
        conv =>
          arg 8
          simp [go_sem]
        refine wpAnyH_take (i := 9) (v := ?_) rfl (by kernel_rfl) (by kernel_rfl) (by kernel_rfl) (fun _ _ _ h => h) (yieldsIf_val (by rfl) (fun w' hS => ?_)) HS0 ?_
        rotate_left
        · skip
          have e := hS.cellOf (i := 0) rfl
          go_simp
          all_goals with_reducible rfl
        conv =>
          arg 8
          simp [go_sem]
        refine wpAnyH_take (i := 10) (v := ?_) rfl (by kernel_rfl) (by kernel_rfl) (by kernel_rfl) (fun _ _ _ h => h) (yieldsIf_val (by rfl) (fun w' hS => ?_)) HS0 ?_
        rotate_left
        · skip
          go_simp
          all_goals with_reducible rfl
        conv =>
          arg 8
          simp [go_sem]
        refine wpAnyH_take (i := 11) (v := ?_) rfl (by kernel_rfl) (by kernel_rfl) (by kernel_rfl) (fun _ _ _ h => h) (yieldsIf_val (by rfl) (fun w' hS => ?_)) HS0 ?_
        rotate_left
        · skip
          go_simp
          all_goals with_reducible rfl
        conv =>
          arg 8
          simp [go_sem]
        conv =>
          arg 8
          simp [go_sem]
        refine wpAnyH_ready (rs := [5]) (by kernel_rfl) (by simp) (AllReadyH.cons rfl (fun K' hK' => oper_call (by rfl) 55 [.tmp 58] #[4] rfl (vs := [.bool yu]) rfl Try.func55 nm_bit bd_bit (HB.out _) ?_) AllReadyH.nil)
        rintro e w5 ⟨rfl, rfl⟩
        have HS1 := HS0
        refine ⟨_, rfl, hK'.out _ _ HS1 (fun _ => ?_)⟩
        clear hK' K'
        conv =>
          arg 8
          simp [go_sem]
        refine wpAnyH_take (i := 6) (v := ?_) rfl (by kernel_rfl) (by kernel_rfl) (by kernel_rfl) (fun _ _ _ h => h) (yieldsIf_val (by rfl) (fun w' hS => ?_)) HS1 ?_
        rotate_left
        · skip
          go_simp
          all_goals with_reducible rfl
        conv =>
          arg 8
          simp [go_sem]
        refine wpAnyH_take (i := 7) (v := ?_) rfl (by kernel_rfl) (by kernel_rfl) (by kernel_rfl) (fun _ _ _ h => h) (yieldsIf_val (by rfl) (fun w' hS => ?_)) HS1 ?_
        rotate_left
        · skip
          go_simp
          all_goals with_reducible rfl
        conv =>
          arg 8
          simp [go_sem]
        refine wpAnyH_take (i := 12) (v := ?_) rfl (by kernel_rfl) (by kernel_rfl) (by kernel_rfl) (fun _ _ _ h => h) (yieldsIf_val (by rfl) (fun w' hS => ?_)) HS1 ?_
        rotate_left
        · skip
          go_simp
          all_goals with_reducible rfl
        conv =>
          arg 8
          simp [go_sem]
        refine wpAnyH_ready (rs := [13]) (by kernel_rfl) (by simp) (AllReadyH.cons rfl (fun K' hK' => oper_lit1 (by rfl) 32 (.tmp 66) rfl sl_int (v := .int .i64 (bits .or .i64 (bits .or .i64 yk (IntKind.i64.wrap (bu * 4))) (IntKind.i64.wrap ((yn.length : Int) * 8)))) rfl ?_) AllReadyH.nil)
        have HS2 := HS1.alloc (.cells #[.int .i64 (bits .or .i64 (bits .or .i64 yk (IntKind.i64.wrap (bu * 4))) (IntKind.i64.wrap ((yn.length : Int) * 8)))] 3)
        refine hK'.out _ _ HS2 (fun _ => ?_)
        clear hK' K'
        conv =>
          arg 8
          simp [go_sem]
        refine wpAnyH_ready (rs := [14]) (by kernel_rfl) (by simp) (AllReadyH.cons rfl (fun K' hK' => oper_call (by rfl) 53 [.tmp 54, .tmp 67] #[75, 32] rfl (vs := [.pointer (some ⟨gw, 0, none⟩), .slice (some ⟨_, 0, none⟩) 1 1]) rfl Try.func53 nm_add bd_add (WA.out.add1 _ (by simp) (by have := HLC.out; rw [List.length_append]; change (flatW colW (List.take k X.cols)).length ≤ _ at this; omega)) ?_) AllReadyH.nil)
        rintro e w7 ⟨rfl, WB⟩
        have HS3 := WB.blk
        refine ⟨_, rfl, hK'.out _ _ HS3 (fun _ => ?_)⟩
        clear hK' K'
        conv =>
          arg 8
          simp [go_sem]
        refine ⟨by kernel_rfl, ?_⟩
        conv =>
          arg 5
          simp [go_sem]
        rw [HHH.out] at WB
        have d0 := WB.blk.cellOf (i := 0) rfl
        go_wp2_with fail
        refine (WB.toIn.text yn (by have := HLC.out; rw [List.length_append, List.length_append]; change (flatW colW (List.take k X.cols)).length ≤ _ at this; simp only [List.length_singleton]; omega) (by omega)).mono ?_
        rintro e w8 ⟨rfl, WR8⟩
        have WR9 := Box.mk (show WrIn w2 gw (L0 ++ flatW colW (X.cols.take (k + 1))) w8 from by rw [HSUC.out, HCW.out]; simpa [List.append_assoc] using WR8)
        clear WR8 WB d0 HS0 HS1 HS2 HS3
        go_wp2_with fail
        go_roundw
        case rel => exact ⟨k + 1, by omega, by go_num, WR9⟩
        case measure => simp [intOf]; omega
      · have hkl : k = X.cols.length := by omega
        subst hkl
        rw [flatW_all colW X.cols _ (Nat.le_refl _)] at WR
        have hL1 : (L0 ++ flatW colW X.cols).length ≤ 45 := by
          have := flatW_le (c := 5) (fun i hi => colW_le OK.out i hi) X.t.cols.length (Nat.le_refl _)
          rw [List.take_length] at this
          rw [List.length_append]
          change (flatW colW X.cols).length ≤ 5 * X.cols.length at this
          omega
        generalize L0 ++ flatW colW X.cols = L1 at *
        have x2 := (WR.out.tab T2.out).c2
        go_wp2_with fail
        clear x2
        go_loopw [77] (fun i wr => ∃ k : Nat, k ≤ X.ixs.length ∧ i = .int .i64 k ∧ Box (WrIn w2 gw (L1 ++ flatW ixW ((X.ixs.map fun (p : IxP) => p.x).take k)) wr)) (fun i _ => X.ixs.length - (intOf i).toNat)
        case atStart => exact ⟨0, Nat.zero_le _, rfl, by rw [flatW_zero, List.append_nil]; exact WR⟩
        case round =>
          clear WR
          obtain ⟨k, hk, rfl, WR⟩ := hrel
          by_cases hlt : k < X.ixs.length
          · have HLC := Box.mk (flatW_le (c := 6) (fun i hi => ixW_le OK.out i hi) k (by show k ≤ (X.ixs.map fun (p : IxP) => p.x).length; rw [List.length_map]; exact hk))
            have hok := OK.out.ix (i := k) (by show k < (X.ixs.map fun (p : IxP) => p.x).length; rw [List.length_map]; exact hlt)
            change 0 < ((X.ixs.map fun (p : IxP) => p.x).getD k default).name.length ∧ ((X.ixs.map fun (p : IxP) => p.x).getD k default).name.length ≤ 16 ∧ 0 < ((X.ixs.map fun (p : IxP) => p.x).getD k default).cols.length ∧ ((X.ixs.map fun (p : IxP) => p.x).getD k default).cols.length ≤ 8 ∧ (∀ j, j < ((X.ixs.map fun (p : IxP) => p.x).getD k default).cols.length → 0 ≤ ((X.ixs.map fun (p : IxP) => p.x).getD k default).cols.getD j 0 ∧ ((X.ixs.map fun (p : IxP) => p.x).getD k default).cols.getD j 0 < 8) at hok
            rw [getD_map_x] at hok
            have TT := WR.out.tab T2.out
            obtain ⟨b, off, hca, hgb, hc⟩ := TT.rd.ixs.recAt IxP.enc_len (by omega) k hlt
            rw [hca]
            have hrd := TT.rd.nums _ (getD_mem hlt)
            have HSUC := Box.mk (flatW_succ ixW (X.ixs.map fun (p : IxP) => p.x) k (by rw [List.length_map]; exact hlt))
            rw [getD_map_x] at HSUC
            clear TT
            generalize X.ixs.getD k default = y at *
            obtain ⟨⟨yn, yc, yu⟩, ya, yp⟩ := y
            have c0 := hc 0 _ rfl
            have c1 := hc 1 _ rfl
            have c2 := hc 2 _ rfl
            simp only [Nat.add_zero] at c0 c1 c2
            simp only at hok hrd HSUC c0 c1 c2
            clear hc hca hgb
            obtain ⟨hn0, hn16, hy0, hy8, hin⟩ := hok
            have WA := Box.mk (WrB.new (o := .cells #[.string ⟨yn.toArray⟩, .slice ya yc.length yp, .bool yu] 55) WR.out 55 [.string ⟨yn.toArray⟩, .slice ya yc.length yp, .bool yu])
            have RN := Box.mk (hrd.alloc (.cells #[.string ⟨yn.toArray⟩, .slice ya yc.length yp, .bool yu] 55))
            have HIN := Box.mk hin
            have d1 := WA.out.blk.cellOf (i := 1) rfl
            clear hrd hin
            go_wp2_with fail
            clear c0 c1 c2 d1
            have hyl : yc.length ≤ 9223372036854775807 := by omega
            generalize (wr.alloc (.cells #[.string ⟨yn.toArray⟩, .slice ya yc.length yp, .bool yu] 55)) = wa at *
            generalize wr.heap.size = gc at *
            go_loopw [10, 84] (fun c i wr2 => ∃ m : Nat, m ≤ yc.length ∧ i = .int .i64 m ∧ c = .int .i64 (packI (yc.take m)) ∧ wr2 = wa) (fun _ i _ => yc.length - (intOf i).toNat)
            case atStart => exact ⟨0, Nat.zero_le _, rfl, rfl, rfl⟩
            case round =>
              obtain ⟨m, hm, rfl, rfl, rfl⟩ := hrel
              by_cases hml : m < yc.length
              · obtain ⟨bn, offn, rfl, cn⟩ := RN.out.intAtD m hml
                obtain ⟨hz0, hz8⟩ := HIN.out m hml
                have HPK := Box.mk (packI_succ yc m hml)
                obtain ⟨hp0, hp1⟩ := packI_lt HIN.out m hm
                have hm8 : m < 8 := by omega
                have hPle : 16 ^ m ≤ 268435456 := Nat.le_trans (Nat.pow_le_pow_right (by omega) (show m ≤ 7 by omega)) (by decide)
                have HP2 := Box.mk (show 16 ^ m = 2 ^ (4 * m) from by rw [Nat.pow_mul])
                have HSH : Box (wrap64 (yc.getD m 0 * 2 ^ (4 * m)) = yc.getD m 0 * ((16 ^ m : Nat) : Int)) := ⟨wrap_shl4 _ hm8 hz0 hz8⟩
                have hmul : (yc.getD m 0) * ((16 ^ m : Nat) : Int) < 9223372036854775808 := by
                  have : (yc.getD m 0) * ((16 ^ m : Nat) : Int) ≤ 7 * ((16 ^ m : Nat) : Int) := Int.mul_le_mul_of_nonneg_right (by omega) (by omega)
                  omega
                have hor := Box.mk (or_mul (packI (yc.take m)) (yc.getD m 0) (4 * m) ((16 ^ m : Nat) : Int) (by rw [HP2.out]) hp0 hp1 hz0 hmul (by omega))
                clear hmul hp1 HP2 hPle
                generalize ((16 ^ m : Nat) : Int) = PW at *
                generalize yc.getD m 0 = z at *
                generalize hq : packI (yc.take m) = q at *
                clear hq
                go_wp2_with fail
                refine ⟨⟨m + 1, by omega, by go_num, ?_, trivial⟩, by simp [intOf]; omega⟩
                rw [HPK.out, ← hor.out, HSH.out]
              · have hme : m = yc.length := by omega
                subst hme
                rw [List.take_length]
                go_wp2_with fail
                have HB := Box.mk (fun w => bit_any yu w)
                change Box (∀ w, Calls Try.prog 55 #[.bool yu] w fun e w' => e = .returned (.int .i64 (b2i yu)) ∧ w' = w) at HB
                have hbu := b2i_le yu
                have HCH := Box.mk (show ixH ⟨yn, yc, yu⟩ = b2i yu + 2 * (yc.length : Int) + 32 * (yn.length : Int) from rfl)
                have HCW := Box.mk (show ixW ⟨yn, yc, yu⟩ = [ixH ⟨yn, yc, yu⟩, packI yc] ++ textW yn from rfl)
                generalize ixH ⟨yn, yc, yu⟩ = ch at *
                generalize ixW ⟨yn, yc, yu⟩ = cw at *
                generalize b2i yu = bu at *
                generalize packI yc = pk at *
                have hh : bits .or .i64 (bits .or .i64 bu (IntKind.i64.wrap ((yc.length : Int) * 2))) (IntKind.i64.wrap ((yn.length : Int) * 32)) = ch := by
                  rw [show IntKind.i64.wrap ((yc.length : Int) * 2) = (yc.length : Int) * 2 from by rw [IntKind.wrap_i64]; omega, show IntKind.i64.wrap ((yn.length : Int) * 32) = (yn.length : Int) * 32 from by rw [IntKind.wrap_i64]; omega]
                  rw [or_mul _ _ 1 2 rfl (by omega) (by omega) (by omega) (by omega) (by omega), or_mul _ _ 5 32 rfl (by omega) (by omega) (by omega) (by omega) (by omega), HCH.out]; omega
                have HHH := Box.mk hh
                clear hh RN HIN
                replace WA := Box.mk (WA.out.drewN 1)
                have HS0 : Blk wr.drew gc 55 [.string ⟨yn.toArray⟩, .slice ya yc.length yp, .bool yu] := WA.out.blk
                refine wp_region_held_drew (S := fun w' => Blk w' gc 55 [.string ⟨yn.toArray⟩, .slice ya yc.length yp, .bool yu]) (by kernel_rfl) HS0 (fun _ => ?_)
                refine wpAnyH_take (i := 0) (v := ?_) rfl (by kernel_rfl) (by kernel_rfl) (by kernel_rfl) (fun _ _ _ h => h) (yieldsIf_val (by rfl) (fun w' hS => ?_)) HS0 ?_
                rotate_left
                · skip
                  go_simp
                  all_goals with_reducible rfl
                conv =>
                  arg 8
                  simp [go_sem]
                refine wpAnyH_take (i := 1) (v := ?_) rfl (by kernel_rfl) (by kernel_rfl) (by kernel_rfl) (fun _ _ _ h => h) (yieldsIf_val (by rfl) (fun w' hS => ?_)) HS0 ?_
                rotate_left
                · skip
                  go_simp
                  all_goals with_reducible rfl
                conv =>
                  arg 8
                  simp [go_sem]
                refine wpAnyH_take (i := 2) (v := ?_) rfl (by kernel_rfl) (by kernel_rfl) (by kernel_rfl) (fun _ _ _ h => h) (yieldsIf_val (by rfl) (fun w' hS => ?_)) HS0 ?_
                rotate_left
                · skip
                  have e := hS.cellOf (i := 2) rfl
                  go_simp
                  all_goals with_reducible rfl
                conv =>
                  arg 8
                  simp [go_sem]
                refine wpAnyH_take (i := 4) (v := ?_) rfl (by kernel_rfl) (by kernel_rfl) (by kernel_rfl) (fun _ _ _ h => h) (yieldsIf_val (by rfl) (fun w' hS => ?_)) HS0 ?_
                rotate_left
                · skip
                  go_simp
                  all_goals with_reducible rfl
                conv =>
                  arg 8
                  simp [go_sem]
                refine wpAnyH_take (i := 5) (v := ?_) rfl (by kernel_rfl) (by kernel_rfl) (by kernel_rfl) (fun _ _ _ h => h) (yieldsIf_val (by rfl) (fun w' hS => ?_)) HS0 ?_
                rotate_left
                · skip
                  have e := hS.cellOf (i := 1) rfl
                  go_simp
                  all_goals with_reducible rfl
                conv =>
                  arg 8
                  simp [go_sem]
                refine wpAnyH_take (i := 6) (v := ?_) rfl (by kernel_rfl) (by kernel_rfl) (by kernel_rfl) (fun _ _ _ h => h) (yieldsIf_val (by rfl) (fun w' hS => ?_)) HS0 ?_
                rotate_left
                · skip
                  go_simp
                  all_goals with_reducible rfl
                conv =>
                  arg 8
                  simp [go_sem]
                refine wpAnyH_take (i := 7) (v := ?_) rfl (by kernel_rfl) (by kernel_rfl) (by kernel_rfl) (fun _ _ _ h => h) (yieldsIf_val (by rfl) (fun w' hS => ?_)) HS0 ?_
                rotate_left
                · skip
                  go_simp
                  all_goals with_reducible rfl
                conv =>
                  arg 8
                  simp [go_sem]
                refine wpAnyH_take (i := 9) (v := ?_) rfl (by kernel_rfl) (by kernel_rfl) (by kernel_rfl) (fun _ _ _ h => h) (yieldsIf_val (by rfl) (fun w' hS => ?_)) HS0 ?_
                rotate_left
                · skip
                  go_simp
                  all_goals with_reducible rfl
                conv =>
                  arg 8
                  simp [go_sem]
                refine wpAnyH_take (i := 10) (v := ?_) rfl (by kernel_rfl) (by kernel_rfl) (by kernel_rfl) (fun _ _ _ h => h) (yieldsIf_val (by rfl) (fun w' hS => ?_)) HS0 ?_
                rotate_left
                · skip
                  have e := hS.cellOf (i := 0) rfl
                  go_simp
                  all_goals with_reducible rfl
                conv =>
                  arg 8
                  simp [go_sem]
                refine wpAnyH_take (i := 11) (v := ?_) rfl (by kernel_rfl) (by kernel_rfl) (by kernel_rfl) (fun _ _ _ h => h) (yieldsIf_val (by rfl) (fun w' hS => ?_)) HS0 ?_
                rotate_left
                · skip
                  go_simp
                  all_goals with_reducible rfl
                conv =>
                  arg 8
                  simp [go_sem]
                refine wpAnyH_take (i := 12) (v := ?_) rfl (by kernel_rfl) (by kernel_rfl) (by kernel_rfl) (fun _ _ _ h => h) (yieldsIf_val (by rfl) (fun w' hS => ?_)) HS0 ?_
                rotate_left
                · skip
                  go_simp
                  all_goals with_reducible rfl
                conv =>
                  arg 8
                  simp [go_sem]
                refine wpAnyH_take (i := 14) (v := ?_) rfl (by kernel_rfl) (by kernel_rfl) (by kernel_rfl) (fun _ _ _ h => h) (yieldsIf_val (by rfl) (fun w' hS => ?_)) HS0 ?_
                rotate_left
                · skip
                  go_simp
                  all_goals with_reducible rfl
                conv =>
                  arg 8
                  simp [go_sem]
                conv =>
                  arg 8
                  simp [go_sem]
                refine wpAnyH_ready (rs := [3]) (by kernel_rfl) (by simp) (AllReadyH.cons rfl (fun K' hK' => oper_call (by rfl) 55 [.tmp 98] #[4] rfl (vs := [.bool yu]) rfl Try.func55 nm_bit bd_bit (HB.out _) ?_) AllReadyH.nil)
                rintro e w5 ⟨rfl, rfl⟩
                have HS1 := HS0
                refine ⟨_, rfl, hK'.out _ _ HS1 (fun _ => ?_)⟩
                clear hK' K'
                conv =>
                  arg 8
                  simp [go_sem]
                refine wpAnyH_take (i := 8) (v := ?_) rfl (by kernel_rfl) (by kernel_rfl) (by kernel_rfl) (fun _ _ _ h => h) (yieldsIf_val (by rfl) (fun w' hS => ?_)) HS1 ?_
                rotate_left
                · skip
                  go_simp
                  all_goals with_reducible rfl
                conv =>
                  arg 8
                  simp [go_sem]
                refine wpAnyH_take (i := 13) (v := ?_) rfl (by kernel_rfl) (by kernel_rfl) (by kernel_rfl) (fun _ _ _ h => h) (yieldsIf_val (by rfl) (fun w' hS => ?_)) HS1 ?_
                rotate_left
                · skip
                  go_simp
                  all_goals with_reducible rfl
                conv =>
                  arg 8
                  simp [go_sem]
                refine wpAnyH_ready (rs := [15]) (by kernel_rfl) (by simp) (AllReadyH.cons rfl (fun K' hK' => oper_lit2 (by rfl) 32 (.tmp 109) (.tmp 110) rfl sl_int (v := .int .i64 (bits .or .i64 (bits .or .i64 bu (IntKind.i64.wrap ((yc.length : Int) * 2))) (IntKind.i64.wrap ((yn.length : Int) * 32)))) (u := .int .i64 pk) rfl rfl ?_) AllReadyH.nil)
                have HS2 := HS1.alloc (.cells #[.int .i64 (bits .or .i64 (bits .or .i64 bu (IntKind.i64.wrap ((yc.length : Int) * 2))) (IntKind.i64.wrap ((yn.length : Int) * 32))), .int .i64 pk] 3)
                refine hK'.out _ _ HS2 (fun _ => ?_)
                clear hK' K'
                conv =>
                  arg 8
                  simp [go_sem]
                refine wpAnyH_ready (rs := [16]) (by kernel_rfl) (by simp) (AllReadyH.cons rfl (fun K' hK' => oper_call (by rfl) 53 [.tmp 96, .tmp 111] #[75, 32] rfl (vs := [.pointer (some ⟨gw, 0, none⟩), .slice (some ⟨_, 0, none⟩) 2 2]) rfl Try.func53 nm_add bd_add (WA.out.add2 _ _ (by simp) (by have := HLC.out; rw [List.length_append]; change (flatW ixW (List.take k (X.ixs.map fun (p : IxP) => p.x))).length ≤ _ at this; omega)) ?_) AllReadyH.nil)
                rintro e w7 ⟨rfl, WB⟩
                have HS3 := WB.blk
                refine ⟨_, rfl, hK'.out _ _ HS3 (fun _ => ?_)⟩
                clear hK' K'
                conv =>
                  arg 8
                  simp [go_sem]
                refine ⟨by kernel_rfl, ?_⟩
                conv =>
                  arg 5
                  simp [go_sem]
                rw [HHH.out] at WB
                have d0 := WB.blk.cellOf (i := 0) rfl
                go_wp2_with fail
                refine (WB.toIn.text yn (by have := HLC.out; rw [List.length_append, List.length_append]; change (flatW ixW (List.take k (X.ixs.map fun (p : IxP) => p.x))).length ≤ _ at this; simp only [List.length_cons, List.length_nil]; omega) (by omega)).mono ?_
                rintro e w8 ⟨rfl, WR8⟩
                have WR9 := Box.mk (show WrIn w2 gw (L1 ++ flatW ixW ((X.ixs.map fun (p : IxP) => p.x).take (k + 1))) w8 from by rw [HSUC.out, HCW.out]; simpa [List.append_assoc] using WR8)
                clear WR8 WB d0 HS0 HS1 HS2 HS3
                go_wp2_with fail
                go_roundw
                case rel => exact ⟨k + 1, by omega, by go_num, WR9⟩
                case measure => simp [intOf]; omega
          · have hkl : k = X.ixs.length := by omega
            subst hkl
            rw [flatW_all ixW (X.ixs.map fun (p : IxP) => p.x) _ (by rw [List.length_map]; exact Nat.le_refl _)] at WR
            have hL2 : (L1 ++ flatW ixW (X.ixs.map fun (p : IxP) => p.x)).length ≤ 69 := by
              have := flatW_le (c := 6) (fun i hi => ixW_le OK.out i hi) X.t.ixs.length (Nat.le_refl _)
              rw [List.take_length] at this
              rw [List.length_append]
              change (flatW ixW (X.ixs.map fun (p : IxP) => p.x)).length ≤ 6 * (X.ixs.map fun (p : IxP) => p.x).length at this
              rw [List.length_map] at this
              omega
            generalize L1 ++ flatW ixW (X.ixs.map fun (p : IxP) => p.x) = L2 at *
            have x3 := (WR.out.tab T2.out).c3
            go_wp2_with fail
            clear x3
            go_loopw [121] (fun i wr => ∃ k : Nat, k ≤ X.chks.length ∧ i = .int .i64 k ∧ Box (WrIn w2 gw (L2 ++ flatW chkW (X.chks.take k)) wr)) (fun i _ => X.chks.length - (intOf i).toNat)
            case atStart => exact ⟨0, Nat.zero_le _, rfl, by rw [flatW_zero, List.append_nil]; exact WR⟩
            case round =>
              clear WR
              obtain ⟨k, hk, rfl, WR⟩ := hrel
              by_cases hlt : k < X.chks.length
              · have hlc := flatW_le (c := 10) (fun i hi => chkW_le OK.out i hi) k hk
                change (flatW chkW (List.take k X.chks)).length ≤ _ at hlc
                have hle : (L2 ++ flatW chkW (List.take k X.chks)).length ≤ 109 := by rw [List.length_append]; omega
                clear hlc
                have hok := OK.out.chk hlt
                change 0 ≤ (X.chks.getD k default).col ∧ (X.chks.getD k default).col < X.cols.length ∧ 6 ≤ (X.chks.getD k default).op ∧ (X.chks.getD k default).op ≤ 11 ∧ validB (X.chks.getD k default).val = true ∧ _ at hok
                obtain ⟨b, off, hca, hgb, hc⟩ := (WR.out.tab T2.out).rd.chks.recAt Chk.enc_len (by omega) k hlt
                rw [hca]
                have HSUC := Box.mk (flatW_succ chkW X.chks k hlt)
                generalize X.chks.getD k default = y at *
                obtain ⟨yc, yo, yk, yn, ys⟩ := y
                have c0 := hc 0 _ rfl
                have c1 := hc 1 _ rfl
                have c2 := hc 2 _ rfl
                have c3 := hc 3 _ rfl
                have c4 := hc 4 _ rfl
                simp only [Nat.add_zero] at c0 c1 c2 c3 c4
                clear hc hca hgb
                simp only at hok
                obtain ⟨hy0, hy1, ho0, ho1, hval, _⟩ := hok
                obtain ⟨hs40, hk1, hk3⟩ := valid_len hval
                clear hval
                have WA := WrB.new (o := .cells #[.int .i64 yc, .int .i64 yo, .int .i64 yk, .int .i64 yn, .string ⟨ys.toArray⟩] 42) WR.out 42 [.int .i64 yc, .int .i64 yo, .int .i64 yk, .int .i64 yn, .string ⟨ys.toArray⟩]
                have HCW := Box.mk (show chkW ⟨yc, yo, yk, yn, ys⟩ = [chkH ⟨yc, yo, yk, yn, ys⟩] ++ valW ⟨yk, yn, ys⟩ from rfl)
                have HCH := Box.mk (show chkH ⟨yc, yo, yk, yn, ys⟩ = yc + 16 * yo from rfl)
                have HSU2 := Box.mk (show L2 ++ flatW chkW (X.chks.take (k + 1)) = L2 ++ flatW chkW (X.chks.take k) ++ chkW ⟨yc, yo, yk, yn, ys⟩ from by rw [HSUC.out, List.append_assoc])
                generalize chkW ⟨yc, yo, yk, yn, ys⟩ = cw at *
                generalize chkH ⟨yc, yo, yk, yn, ys⟩ = ch at *
                have d0 := WA.blk.cellOf (i := 0) rfl
                have d1 := WA.blk.cellOf (i := 1) rfl
                generalize L2 ++ flatW chkW (List.take k X.chks) = L3 at *
                go_wp2_with fail
                have hh : bits .or .i64 yc (yo * 16) = ch := by
                  rw [or_mul _ _ 4 16 rfl (by omega) (by omega) (by omega) (by omega) (by omega), HCH.out]; omega
                rw [hh]
                clear hh d0 d1 c0 c1 c2 c3 c4
                have hwa : (wr.alloc (.cells #[.int .i64 yc, .int .i64 yo, .int .i64 yk, .int .i64 yn, .string ⟨ys.toArray⟩] 42)).heap.size = wr.heap.size + 1 := by simp
                generalize (wr.alloc (.cells #[.int .i64 yc, .int .i64 yo, .int .i64 yk, .int .i64 yn, .string ⟨ys.toArray⟩] 42)) = wa at *
                generalize wr.heap.size = gc at *
                refine (WA.add1 ch hwa.symm (by omega)).mono ?_
                clear hwa
                rintro e w5 ⟨rfl, WB⟩
                have d2 := WB.blk.cellOf (i := 2) rfl
                have d3 := WB.blk.cellOf (i := 3) rfl
                have d4 := WB.blk.cellOf (i := 4) rfl
                have hl4 : (L3 ++ [ch]).length ≤ 110 := by rw [List.length_append, List.length_singleton]; omega
                have HL4 := Box.mk (show L3 ++ cw = L3 ++ [ch] ++ valW ⟨yk, yn, ys⟩ from by rw [HCW.out, List.append_assoc])
                generalize L3 ++ [ch] = L4 at *
                have hround : ∀ w8, WrIn w2 gw (L4 ++ valW ⟨yk, yn, ys⟩) w8 → Box (WrIn w2 gw (L2 ++ flatW chkW (X.chks.take (k + 1))) w8) := fun w8 h => ⟨by rw [HSU2.out, HL4.out]; exact h⟩
                have HRO := Box.mk hround
                clear hround HSUC HSU2 HCW HCH WR WA
                by_cases h1 : yk = 1
                · subst h1
                  have hv1 := hk1 rfl
                  have HVW := Box.mk (show valW ⟨1, yn, ys⟩ = [yn + 549755813888] from rfl)
                  go_wp2_with fail
                  refine (WB.add1 _ (by simp) (by omega)).mono ?_
                  rintro e w6 ⟨rfl, WC⟩
                  have WR9 := HRO.out _ (by rw [HVW.out]; exact WC.toIn)
                  clear WC WB HRO d2 d3 d4
                  go_wp2_with fail
                  go_roundw
                  case rel => exact ⟨k + 1, by omega, by go_num, WR9⟩
                  case measure => simp [intOf]; omega
                · have t1 : (yk == 1) = false := by simp [h1]
                  by_cases h3 : yk = 3
                  · subst h3
                    have HVW := Box.mk (show valW ⟨3, yn, ys⟩ = [yn] from rfl)
                    clear h1
                    go_wp2_with fail
                    refine (WB.add1 _ (by simp) (by omega)).mono ?_
                    rintro e w6 ⟨rfl, WC⟩
                    have WR9 := HRO.out _ (by rw [HVW.out]; exact WC.toIn)
                    clear WC WB HRO d2 d3 d4
                    go_wp2_with fail
                    go_roundw
                    case rel => exact ⟨k + 1, by omega, by go_num, WR9⟩
                    case measure => simp [intOf]; omega
                  · have t3 : (yk == 3) = false := by simp [h3]
                    have HVW := Box.mk (show valW ⟨yk, yn, ys⟩ = [(ys.length : Int)] ++ textW ys from by unfold valW; rw [if_neg h1, if_neg h3])
                    have H13 := Box.mk (And.intro h1 h3)
                    clear h1 h3 hk1 hk3
                    go_wp2_with fail
                    refine (WB.add1 _ (by simp) (by omega)).mono ?_
                    rintro e w6 ⟨rfl, WC⟩
                    have f4 := WC.blk.cellOf (i := 4) rfl
                    clear d2 d3 d4 t1 t3
                    go_wp2_with fail
                    refine (WC.toIn.text ys (by rw [List.length_append, List.length_singleton]; omega) (by omega)).mono ?_
                    rintro e w7 ⟨rfl, WD⟩
                    have WR9 := HRO.out _ (by rw [HVW.out, ← List.append_assoc]; exact WD)
                    clear WD WC WB HRO f4
                    go_wp2_with fail
                    go_roundw
                    case rel => exact ⟨k + 1, by omega, by go_num, WR9⟩
                    case measure => simp [intOf]; omega
              · have hkl : k = X.chks.length := by omega
                subst hkl
                rw [flatW_all chkW X.chks _ (Nat.le_refl _)] at WR
                rw [← HH0.out] at WR
                obtain ⟨ra, rc, hrc, hrd⟩ := WR.out.out
                have HRD := Box.mk hrd
                have HBW := Box.mk WR.out.below
                generalize hln : (wordsT X.t).length = ln at *
                clear hrd
                go_wp2_with fail
                go_ret2
                refine ⟨T2.out.below.trans (HBW.out.mono T2.out.below.size), ra, ln, rc, by rw [HV.out]; rfl, ?_⟩
                rw [if_pos HV.out]
                exact HRD.out
  · have hvv : (v != 0) = true := by simp [h0]
    have HV := Box.mk hv
    clear hv
    go_wp2_with fail
    go_ret2
    exact RetWords.err HV.out h0 (HG.out ▸ T2.out.below)
end Go.Proofs.Ytgimkipekoabbaa
