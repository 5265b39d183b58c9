/-
  Chapter 20: sanity, Few, Column, Index, what tables are to a row, the reference's Text. No condition.
-/
import Derived.Test.YtpgdfhncigmmbaaV20
import Derived.Test.YtpgdfhncigmmbaaB20
import Derived.Test.YtpgdfhncigmmbaaA20
import Derived.Test.YtpgdfhncigmmbaaLibA
import Derived.Test.YtpgdfhncigmmbaaC20
/-
  The walk of sanity. No condition.
-/
namespace Go.Proofs.Ytpgdfhncigmmbaa
open Go.RowKit

/-- The tables that sanity plays. -/
def X0 (g : Nat) : TabP := ⟨[116], some ⟨g, 0, none⟩, 1, [⟨[97], 1, true⟩], none, 0, [], none, 0, []⟩
def X1 (g h : Nat) : TabP := ⟨[116], some ⟨g, 0, none⟩, 1, [⟨[97], 1, true⟩], none, 0, [], some ⟨h, 0, none⟩, 1, [⟨0, 10, ⟨1, 3, []⟩⟩]⟩
theorem check0 (g : Nat) : checkT (X0 g).t = 0 := by show checkT (X0 0).t = 0; decide
theorem check1 (g h : Nat) : checkT (X1 g h).t = 0 := by show checkT (X1 0 0).t = 0; decide
theorem words0 (g : Nat) : wordsT (X0 g).t = [4097, 498216206336, 13, 416611827712] := by show wordsT (X0 0).t = _; decide
theorem fits0a (g : Nat) : fitsT (X0 g).t [⟨0, 0, []⟩] = 0 := by show fitsT (X0 0).t _ = _; decide
theorem fits0b (g : Nat) : fitsT (X0 g).t [⟨2, 0, []⟩] = 7 := by show fitsT (X0 0).t _ = _; decide
theorem fits0c (g : Nat) : fitsT (X0 g).t [] = 1 := by show fitsT (X0 0).t _ = _; decide
theorem fits1a (g h : Nat) : fitsT (X1 g h).t [⟨1, 3, []⟩] = 201 := by show fitsT (X1 0 0).t _ = _; decide
theorem fits1b (g h : Nat) : fitsT (X1 g h).t [⟨1, 4, []⟩] = 0 := by show fitsT (X1 0 0).t _ = _; decide
theorem fits1c (g h : Nat) : fitsT (X1 g h).t [⟨0, 0, []⟩] = 0 := by show fitsT (X1 0 0).t _ = _; decide

theorem rd_rec {α : Type} {enc : α → List Value} {k : Nat} {w : World} {g : Nat} {ty : TypeId} {l : List α} (hk : ∀ x, (enc x).length = k) (h : Blk w g ty (recC enc l)) (hl : l.length ≤ maxLen) : Rd w (some ⟨g, 0, none⟩) l.length l.length k (recC enc l) :=
  Rd.ofOwn (own_new (base := 0) h (Nat.zero_le _) (by rw [recC_length hk]) hl)
theorem rd_nil (w : World) (k : Nat) : Rd w none 0 0 k [] := ⟨by simp, Nat.le_refl _, by decide, fun _ => rfl, fun ad ha => by cases ha⟩
theorem tab0 {w : World} {g : Nat} (h : Blk w g 55 [.string ⟨#[97]⟩, .int .i64 1, .bool true]) : TabRd w (X0 g) :=
  ⟨rd_rec (l := [(⟨[97], 1, true⟩ : Col)]) Col.enc_len h (by decide), rd_nil _ _, by simp [X0], rd_nil _ _⟩
theorem tab1 {w : World} {g gh : Nat} (h : Blk w g 55 [.string ⟨#[97]⟩, .int .i64 1, .bool true]) (h2 : Blk w gh 86 [.int .i64 0, .int .i64 10, .int .i64 1, .int .i64 3, .string ⟨#[]⟩]) : TabRd w (X1 g gh) :=
  ⟨rd_rec (l := [(⟨[97], 1, true⟩ : Col)]) Col.enc_len h (by decide), rd_nil _ _, by simp [X1], rd_rec (l := [(⟨0, 10, ⟨1, 3, []⟩⟩ : Chk)]) Chk.enc_len h2 (by decide)⟩

/-- Fits at a row of one value in a new block. -/
theorem fits_row {X : TabP} {w : World} (hr : TabRd w X) (v : Val) {E : Int} (hE : fitsT X.t [v] = E) {k : Nat} (hk : k = w.heap.size) :
    Calls Try.prog 30 #[X.v, .slice (some ⟨k, 0, none⟩) 1 1] (w.alloc (.cells v.enc.toArray 59)) (fun e w' => e = .returned (.int .i64 E) ∧ Below w.heap.size w w') := by
  subst hE; subst hk
  have hrd := rd_rec (l := [v]) (w := w.alloc (.cells v.enc.toArray 59)) (ty := 59) (g := w.heap.size) Val.enc_len (Blk.new rfl (by simp [recC])) (by simp [maxLen])
  refine (fits_any X [v] _ 1 1 _ (hr.alloc _) hrd).mono ?_
  rintro e w' ⟨rfl, hb⟩
  exact ⟨rfl, ((Below.refl _ _).alloc (Nat.le_refl _) _).trans (hb.mono (by simp))⟩
theorem fits_nil {X : TabP} {w : World} (hr : TabRd w X) {E : Int} (hE : fitsT X.t [] = E) :
    Calls Try.prog 30 #[X.v, .slice none 0 0] w (fun e w' => e = .returned (.int .i64 E) ∧ Below w.heap.size w w') := by
  subst hE
  refine (fits_any X [] none 0 0 w hr (rd_nil _ _)).mono ?_
  rintro e w' ⟨rfl, hb⟩
  exact ⟨rfl, hb⟩

theorem nameb {s : List UInt8} {b : Bool} (h : nameB s = b) (w : World) : Calls Try.prog 73 #[.string ⟨s.toArray⟩] w fun e w' => e = .returned (.bool b) ∧ Below w.heap.size w w' := name_is h w

end Go.Proofs.Ytpgdfhncigmmbaa

/-
  The walk of Few. No condition.
-/
namespace Go.Proofs.Ytpgdfhncigmmbaa
open Go.RowKit

/-- Small enough to be checked. -/
def fewB (T : Tab) : Bool := decide (T.cols.length ≤ 20) && decide (T.ixs.length ≤ 20) && decide (T.chks.length ≤ 20) && T.ixs.all fun x => decide (x.cols.length ≤ 20)
theorem fewB_true {T : Tab} (h : fewB T = true) : T.cols.length ≤ 20 ∧ T.ixs.length ≤ 20 ∧ T.chks.length ≤ 20 ∧ ∀ x ∈ T.ixs, x.cols.length ≤ 20 := by
  unfold fewB at h
  simp only [Bool.and_eq_true, decide_eq_true_eq, List.all_eq_true] at h
  exact ⟨h.1.1.1, h.1.1.2, h.1.2, h.2⟩
theorem fewB_big {T : Tab} (h : 20 < T.cols.length ∨ 20 < T.ixs.length ∨ 20 < T.chks.length) : fewB T = false := by
  cases hf : fewB T
  · rfl
  · have := fewB_true hf; omega
theorem fewB_hit {T : Tab} {k : Nat} (hk : k < T.ixs.length) (h : 20 < (T.ixs.getD k default).cols.length) : fewB T = false := by
  cases hf : fewB T
  · rfl
  · have := (fewB_true hf).2.2.2 _ (getD_mem hk); omega
theorem fewB_all {T : Tab} (h1 : T.cols.length ≤ 20) (h2 : T.ixs.length ≤ 20) (h3 : T.chks.length ≤ 20) (h : ∀ k, k < T.ixs.length → (T.ixs.getD k default).cols.length ≤ 20) : fewB T = true := by
  unfold fewB
  simp only [Bool.and_eq_true, decide_eq_true_eq, List.all_eq_true]
  refine ⟨⟨⟨h1, h2⟩, h3⟩, fun x hx => ?_⟩
  obtain ⟨i, hi, rfl⟩ := List.getElem_of_mem hx
  have := h i hi
  rwa [getD_eq hi] at this

set_option maxRecDepth 20000 in
set_option maxHeartbeats 4000000 in
theorem few_any (X : TabP) (w : World) (hr : TabRd w X) : Calls Try.prog 32 #[X.v] w (RetV (.bool (fewB X.t)) w) := by
  generalize hE : fewB X.t = E
  have HE := Box.mk hE
  clear hE
  have T1 := Box.mk (TabIn.start hr)
  have mc := hr.cols.lenMax
  have mi := hr.ixs.lenMax
  have mh := hr.chks.lenMax
  clear hr
  unfold TabP.cs at T1
  unfold TabP.v
  have u1 := T1.out.c1
  have u2 := T1.out.c2
  have u3 := T1.out.c3
  by_cases h1 : 20 < X.cols.length
  · have hX := HE.out.symm.trans (fewB_big (T := X.t) (.inl h1))
    subst hX
    go_enter Try.func32, Try.ntmps32
    go_wp2_with fail
    go_ret
    exact ⟨rfl, T1.out.below⟩
  by_cases h2 : 20 < X.ixs.length
  · have hX := HE.out.symm.trans (fewB_big (T := X.t) (.inr (.inl (by show 20 < (X.ixs.map fun (p : IxP) => p.x).length; rw [List.length_map]; exact h2))))
    subst hX
    go_enter Try.func32, Try.ntmps32
    go_wp2_with fail
    go_ret
    exact ⟨rfl, T1.out.below⟩
  by_cases h3 : 20 < X.chks.length
  · have hX := HE.out.symm.trans (fewB_big (T := X.t) (.inr (.inr h3)))
    subst hX
    go_enter Try.func32, Try.ntmps32
    go_wp2_with fail
    go_ret
    exact ⟨rfl, T1.out.below⟩
  have n1 : X.cols.length ≤ 20 := by omega
  have n2 : X.ixs.length ≤ 20 := by omega
  have n3 : X.chks.length ≤ 20 := by omega
  clear h1 h2 h3
  go_enter Try.func32, Try.ntmps32
  go_wp2_with fail
  generalize (w.alloc (.cells #[.string ⟨X.name.toArray⟩, .slice X.ca X.cols.length X.cc, .slice X.ia X.ixs.length X.ic, .slice X.ha X.chks.length X.hc] 26)) = W at *
  generalize hg : w.heap.size = g at *
  clear u1 u3
  go_loopw [3] (fun i wr => ∃ k : Nat, k ≤ X.ixs.length ∧ i = .int .i64 k ∧ Box (∀ j, j < k → (X.t.ixs.getD j default).cols.length ≤ 20) ∧ wr = W) (fun i _ => X.ixs.length - (intOf i).toNat)
  case atStart => exact ⟨0, Nat.zero_le _, rfl, ⟨fun j h => by omega⟩, rfl⟩
  case round =>
    obtain ⟨k, hk, rfl, HZ, rfl⟩ := hrel
    by_cases hlt : k < X.ixs.length
    · obtain ⟨b, off, hca, hgb, hc⟩ := T1.out.rd.ixs.recAt IxP.enc_len (by omega) k hlt
      rw [hca] at u2
      have hlt2 : k < X.t.ixs.length := by show k < (X.ixs.map fun (p : IxP) => p.x).length; rw [List.length_map]; exact hlt
      have hgx : (X.t.ixs.getD k default) = (X.ixs.getD k default).x := getD_map_x X.ixs k
      have mn := (T1.out.rd.nums _ (getD_mem hlt)).lenMax
      have HHIT := Box.mk (fun (h : 20 < (X.ixs.getD k default).x.cols.length) => show E = false from by
        rw [← HE.out]; exact fewB_hit hlt2 (by rw [hgx]; exact h))
      have HST := Box.mk (fun (h : (X.ixs.getD k default).x.cols.length ≤ 20) => show ∀ j, j < k + 1 → (X.t.ixs.getD j default).cols.length ≤ 20 from fun j hj => by
        by_cases e : j = k
        · subst e; rw [hgx]; exact h
        · exact HZ.out j (by omega))
      have c1 := hc 1 _ rfl
      clear hc hca hgb hgx
      generalize X.ixs.getD k default = y at *
      obtain ⟨⟨yn, yc, yu⟩, ya, yp⟩ := y
      simp only at c1 mn HHIT HST
      generalize yc.length = yl at *
      by_cases hy : 20 < yl
      · have hX := HHIT.out hy
        subst hX
        go_wp2_with fail
        go_ret
        exact ⟨rfl, hg ▸ T1.out.below⟩
      · have hy2 : yl ≤ 20 := by omega
        have HS2 := Box.mk (HST.out hy2)
        clear hy HST HHIT
        go_wp2_with fail
        go_roundw
        case rel => exact ⟨k + 1, by omega, by go_num, HS2, trivial⟩
        case measure => simp [intOf]; omega
    · have hX := HE.out.symm.trans (fewB_all (T := X.t) n1 (by show (X.ixs.map fun (p : IxP) => p.x).length ≤ 20; rw [List.length_map]; exact n2) n3 (fun j hj => HZ.out j (by change j < (X.ixs.map fun (p : IxP) => p.x).length at hj; rw [List.length_map] at hj; omega)))
      subst hX
      go_wp2_with fail
      go_ret
      exact ⟨rfl, hg ▸ T1.out.below⟩
theorem few_is {X : TabP} {b : Bool} (h : fewB X.t = b) {w : World} (hr : TabRd w X) : Calls Try.prog 32 #[.agg #[.string ⟨X.name.toArray⟩, .slice X.ca X.cols.length X.cc, .slice X.ia X.ixs.length X.ic, .slice X.ha X.chks.length X.hc]] w (RetV (.bool b) w) := by
  subst h; exact few_any X w hr
end Go.Proofs.Ytpgdfhncigmmbaa

/-
  The walks of Column, Index and of the reference's. No condition.
-/
namespace Go.Proofs.Ytpgdfhncigmmbaa
open Go.RowKit

/-- The first place with a property, or 0. -/
def placeP {α : Type} (p : α → Bool) (l : List α) : Int := if l.any p = true then (l.findIdx p : Int) else 0
theorem placeP_max {α : Type} (p : α → Bool) (l : List α) : max 0 (idxP p l) = placeP p l := by
  unfold idxP placeP
  cases h : l.any p
  · rfl
  · simp only [if_true]; omega
theorem placeP_hit {α : Type} [Inhabited α] {p : α → Bool} {l : List α} {k : Nat} (h : ∀ j, j < k → p (l.getD j default) = false) (hk : k < l.length) (hp : p (l.getD k default) = true) : placeP p l = k ∧ l.any p = true := by
  have h2 : l.any p = true := List.any_eq_true.2 ⟨_, getD_mem hk, hp⟩
  have := idxP_hit h hk hp
  unfold idxP at this
  rw [if_pos h2] at this
  exact ⟨by unfold placeP; rw [if_pos h2]; exact this, h2⟩
theorem placeP_miss {α : Type} [Inhabited α] {p : α → Bool} {l : List α} (h : ∀ j, j < l.length → p (l.getD j default) = false) : placeP p l = 0 ∧ l.any p = false := by
  have h2 : l.any p = false := by
    cases ha : l.any p
    · rfl
    · obtain ⟨x, hx, hp⟩ := List.any_eq_true.1 ha
      obtain ⟨i, hi, rfl⟩ := List.getElem_of_mem hx
      have := h i hi
      rw [getD_eq hi, hp] at this
      cases this
  exact ⟨by unfold placeP; rw [if_neg (by rw [h2]; decide)], h2⟩
def colIs (s : List UInt8) (c : Col) : Bool := c.name == s
def ixIs (s : List UInt8) (x : Ix) : Bool := x.name == s
def ixPIs (s : List UInt8) (x : IxP) : Bool := ixIs s x.x

/-- What Column and Index return. -/
def RetF (v : Int) (b : Bool) (w : World) (e : Ending) (w' : World) : Prop := e = .returned (.tuple #[.int .i64 v, .bool b]) ∧ Below w.heap.size w w'

end Go.Proofs.Ytpgdfhncigmmbaa

/-
  What tables, rows, columns, indexes that came in are to a walk. No condition.
-/
namespace Go.Proofs.Ytpgdfhncigmmbaa
open Go.RowKit Go.WideShapes

section
variable {H : Type} {enc : TypeId × Value → H} {w : World}

/-- An element that is a slice, element by element. -/
theorem elem_rows {P : Program} {t e : TypeId} {cs : List Value} {d : DataW H} (ht : P.underlying t = some (.slice e)) {v : Value} (hv : ∃ a0 l0 c0, v = Value.slice a0 l0 c0) (hcv : v.cells.toList = cs) (h : Elem enc P w t cs d) :
    ∃ (a : Option Addr) (len cap : Nat) (css : List (List Value)) (els : List (DataW H)), v = .slice a len cap ∧ css.length = len ∧ els.length = len ∧ Rd w a len cap (P.cellsOf e) css.flatten ∧
      (∀ i (hi : i < css.length) (hj : i < els.length), Elem enc P w e css[i] els[i]) := by
  obtain ⟨a0, l0, c0, rfl⟩ := hv
  subst hcv
  obtain ⟨fuel, pl, hf⟩ := h
  rcases Deep.open_slice ht hf with ⟨hcs, hx⟩ | ⟨a, len, cap, m, n, D, Pl, hcs, _, hl, hm, hmm, hx, hel⟩
  · simp [Value.cells] at hcs
    obtain ⟨rfl, rfl, rfl⟩ := hcs
    exact ⟨none, 0, 0, [], [], rfl, rfl, rfl, Rd.nilSlice w _, fun i hi => by simp at hi⟩
  · simp [Value.cells] at hcs
    obtain ⟨rfl, rfl, rfl⟩ := hcs
    simp only [if_true] at hmm
    subst hmm
    have hC : ∀ i, i < m → ∃ cs', w.cells? 0 (a.add (i * P.cellsOf e)) (P.cellsOf e) = some cs' ∧ cs' = (w.cells? 0 (a.add (i * P.cellsOf e)) (P.cellsOf e)).getD [] ∧ DataW.trod enc P w 0 (fun _ => true) true n e cs' = some (D i, Pl i) := fun i hi => by
      obtain ⟨cs', h1, h2⟩ := hel i hi
      exact ⟨cs', h1, by rw [h1]; rfl, h2⟩
    have hlen : ∀ cs ∈ (List.range l0).map (fun i => (w.cells? 0 (a.add (i * P.cellsOf e)) (P.cellsOf e)).getD []), cs.length = P.cellsOf e := by
      intro cs hcs
      obtain ⟨i, hi, rfl⟩ := List.mem_map.1 hcs
      obtain ⟨cs', h1, h2, h3⟩ := hC i (by have := List.mem_range.1 hi; omega)
      rw [← h2]; exact (World.cells?_some h1).2.1
    refine ⟨some a, l0, m, (List.range l0).map (fun i => (w.cells? 0 (a.add (i * P.cellsOf e)) (P.cellsOf e)).getD []), (List.range l0).map D, rfl, by simp, by simp,
      ⟨?_, hl, hm, fun h => (by cases h), fun ad ha j u hu => ?_⟩, fun i hi hj => ?_⟩
    · have : ∀ css : List (List Value), (∀ cs ∈ css, cs.length = P.cellsOf e) → css.flatten.length = css.length * P.cellsOf e := by
        intro css
        induction css with
        | nil => simp
        | cons c css ih => intro h; rw [List.flatten_cons, List.length_append, h c (by simp), ih (fun x hx => h x (by simp [hx])), List.length_cons, Nat.add_mul]; omega
      rw [this _ hlen]; simp
    · simp only [Option.some.injEq] at ha; subst ha
      have := flat_cell (w := w) (a := a) (size := P.cellsOf e) _ 0 hlen (fun i hi r hr => by
        simp only [List.length_map, List.length_range] at hi
        obtain ⟨cs', h1, h2, h3⟩ := hC i (by omega)
        have hh := (World.cells?_some h1).2.2 r hr
        rw [add_add] at hh
        rw [List.getElem_map, List.getElem_range, ← h2, Nat.zero_add]; exact hh) j u hu
      rwa [Nat.zero_mul, Nat.zero_add] at this
    · simp only [List.length_map, List.length_range] at hi
      obtain ⟨cs', h1, h2, h3⟩ := hC i (by omega)
      refine ⟨n, Pl i, ?_⟩
      rw [List.getElem_map, List.getElem_range, List.getElem_map, List.getElem_range, ← h2]; exact h3

/-- The cells of an element that is a slice. -/
theorem elem_slice_cells {P : Program} {t e : TypeId} {cs : List Value} {d : DataW H} (ht : P.underlying t = some (.slice e)) (h : Elem enc P w t cs d) : ∃ a0 l0 c0, cs = [Value.slice a0 l0 c0] := by
  obtain ⟨fuel, pl, hf⟩ := h
  rcases Deep.open_slice ht hf with ⟨hcs, hx⟩ | ⟨a, len, cap, m, n, D, Pl, hcs, _⟩
  · exact ⟨_, _, _, hcs⟩
  · exact ⟨_, _, _, hcs⟩

theorem elem_sl {P : Program} {t e : TypeId} {cs : List Value} {d : DataW H} (ht : P.underlying t = some (.slice e)) (h : Elem enc P w t cs d) :
    ∃ (a : Option Addr) (len cap : Nat) (css : List (List Value)) (els : List (DataW H)), cs = [.slice a len cap] ∧ css.length = len ∧ els.length = len ∧ Rd w a len cap (P.cellsOf e) css.flatten ∧
      (∀ i (hi : i < css.length) (hj : i < els.length), Elem enc P w e css[i] els[i]) := by
  obtain ⟨a0, l0, c0, hcs⟩ := elem_slice_cells ht h
  obtain ⟨a, len, cap, css, els, hv, h1, h2, h3, h4⟩ := elem_rows ht (v := .slice a0 l0 c0) ⟨_, _, _, rfl⟩ (by rw [hcs]; rfl) h
  exact ⟨a, len, cap, css, els, by rw [hcs, hv], h1, h2, h3, h4⟩

theorem list3 {α : Type} {l : List α} (h : l.length = 3) : ∃ a b c, l = [a, b, c] := by
  match l, h with
  | [a, b, c], _ => exact ⟨a, b, c, rfl⟩
theorem list4 {α : Type} {l : List α} (h : l.length = 4) : ∃ a b c d, l = [a, b, c, d] := by
  match l, h with
  | [a, b, c, d], _ => exact ⟨a, b, c, d, rfl⟩
theorem list5 {α : Type} {l : List α} (h : l.length = 5) : ∃ a b c d e, l = [a, b, c, d, e] := by
  match l, h with
  | [a, b, c, d, e], _ => exact ⟨a, b, c, d, e, rfl⟩

theorem k_int : Try.prog.cellsOf 3 = 1 := by kernel_rfl
theorem k_str : Try.prog.cellsOf 9 = 1 := by kernel_rfl
theorem k_bool : Try.prog.cellsOf 4 = 1 := by kernel_rfl
theorem k_val : Try.prog.cellsOf 59 = 3 := by kernel_rfl
theorem k_col : Try.prog.cellsOf 55 = 3 := by kernel_rfl
theorem k_ix : Try.prog.cellsOf 91 = 3 := by kernel_rfl
theorem k_chk : Try.prog.cellsOf 86 = 5 := by kernel_rfl
theorem k_tab : Try.prog.cellsOf 26 = 4 := by kernel_rfl
theorem k_ints : Try.prog.cellsOf 29 = 1 := by kernel_rfl
theorem k_cols : Try.prog.cellsOf 22 = 1 := by kernel_rfl
theorem k_ixs : Try.prog.cellsOf 23 = 1 := by kernel_rfl
theorem k_chks : Try.prog.cellsOf 24 = 1 := by kernel_rfl

/-- A slice of integers in a struct. -/
theorem elem_ints {cs : List Value} {d : DataW H} (h : Elem enc Try.prog w 29 cs d) : ∃ (a : Option Addr) (cap : Nat) (xs : List Int), cs = [.slice a xs.length cap] ∧ Rd w a xs.length cap 1 (intVals xs) := by
  obtain ⟨a, len, cap, css, els, rfl, h1, h2, hR, hE⟩ := elem_sl Try.underlying29 h
  obtain ⟨xs, rfl, rfl, _⟩ := open_all (fun x : Int => [Value.int .i64 x]) (fun x => DataW.lit (.int .i64 x)) (fun x => (Lit.int .i64 x).wf = true) (fun cs d h => elem_int Try.underlying3 h) css els (by omega) hE
  rw [List.length_map] at h1
  subst h1
  exact ⟨a, cap, xs, rfl, hR.rows1 k_int⟩

theorem elem_val {cs : List Value} {d : DataW H} (h : Elem enc Try.prog w 59 cs d) : ∃ x : Val × DataW H, cs = x.1.enc ∧ d = x.2 ∧ True := by
  obtain ⟨hl, els, hn, rfl, hf⟩ := elem_struct Try.underlying59 h
  rw [k_val] at hl
  obtain ⟨c0, c1, c2, rfl⟩ := list3 hl
  obtain ⟨_, h0⟩ := hf 0 _ rfl
  obtain ⟨_, h1⟩ := hf 1 _ rfl
  obtain ⟨_, h2⟩ := hf 2 _ rfl
  obtain ⟨x0, y0, _⟩ := elem_int Try.underlying3 h0
  obtain ⟨x1, y1, _⟩ := elem_int Try.underlying3 h1
  obtain ⟨x2, y2, _⟩ := elem_string Try.underlying9 h2
  simp [k_int, k_str] at y0 y1 y2
  subst y0 y1 y2
  exact ⟨(⟨x0, x1, x2⟩, _), rfl, rfl, trivial⟩
theorem elem_col {cs : List Value} {d : DataW H} (h : Elem enc Try.prog w 55 cs d) : ∃ x : Col × DataW H, cs = x.1.enc ∧ d = x.2 ∧ True := by
  obtain ⟨hl, els, hn, rfl, hf⟩ := elem_struct Try.underlying55 h
  rw [k_col] at hl
  obtain ⟨c0, c1, c2, rfl⟩ := list3 hl
  obtain ⟨_, h0⟩ := hf 0 _ rfl
  obtain ⟨_, h1⟩ := hf 1 _ rfl
  obtain ⟨_, h2⟩ := hf 2 _ rfl
  obtain ⟨x0, y0, _⟩ := elem_string Try.underlying9 h0
  obtain ⟨x1, y1, _⟩ := elem_int Try.underlying3 h1
  obtain ⟨x2, y2, _⟩ := elem_bool Try.underlying4 h2
  simp [k_int, k_str, k_bool] at y0 y1 y2
  subst y0 y1 y2
  exact ⟨(⟨x0, x1, x2⟩, _), rfl, rfl, trivial⟩
theorem elem_ix {cs : List Value} {d : DataW H} (h : Elem enc Try.prog w 91 cs d) : ∃ x : IxP × DataW H, cs = x.1.enc ∧ d = x.2 ∧ Rd w x.1.a x.1.x.cols.length x.1.cap 1 (intVals x.1.x.cols) := by
  obtain ⟨hl, els, hn, rfl, hf⟩ := elem_struct Try.underlying91 h
  rw [k_ix] at hl
  obtain ⟨c0, c1, c2, rfl⟩ := list3 hl
  obtain ⟨_, h0⟩ := hf 0 _ rfl
  obtain ⟨_, h1⟩ := hf 1 _ rfl
  obtain ⟨_, h2⟩ := hf 2 _ rfl
  obtain ⟨x0, y0, _⟩ := elem_string Try.underlying9 h0
  obtain ⟨a, cap, x1, y1, hR⟩ := elem_ints h1
  obtain ⟨x2, y2, _⟩ := elem_bool Try.underlying4 h2
  simp [k_ints, k_str, k_bool] at y0 y1 y2
  subst y0 y1 y2
  exact ⟨(⟨⟨x0, x1, x2⟩, a, cap⟩, _), rfl, rfl, hR⟩
theorem elem_chk {cs : List Value} {d : DataW H} (h : Elem enc Try.prog w 86 cs d) : ∃ x : Chk × DataW H, cs = x.1.enc ∧ d = x.2 ∧ True := by
  obtain ⟨hl, els, hn, rfl, hf⟩ := elem_struct Try.underlying86 h
  rw [k_chk] at hl
  obtain ⟨c0, c1, c2, c3, c4, rfl⟩ := list5 hl
  obtain ⟨_, h0⟩ := hf 0 _ rfl
  obtain ⟨_, h1⟩ := hf 1 _ rfl
  obtain ⟨_, h2⟩ := hf 2 _ rfl
  obtain ⟨x0, y0, _⟩ := elem_int Try.underlying3 h0
  obtain ⟨x1, y1, _⟩ := elem_int Try.underlying3 h1
  obtain ⟨⟨x2, _⟩, y2, _⟩ := elem_val h2
  simp [k_int, k_val, Val.enc] at y0 y1 y2
  obtain ⟨rfl, rfl, rfl⟩ := y2
  subst y0 y1
  exact ⟨(⟨x0, x1, x2⟩, _), rfl, rfl, trivial⟩

/-- A list of records in a struct. -/
theorem elem_recs {α : Type} {t e : TypeId} {cs : List Value} {d : DataW H} (f : α → List Value) (ok : α → Prop) (k : Nat) (ht : Try.prog.underlying t = some (.slice e)) (hk : Try.prog.cellsOf e = k) (hone : ∀ cs d, Elem enc Try.prog w e cs d → ∃ x : α × DataW H, cs = f x.1 ∧ d = x.2 ∧ ok x.1)
    (h : Elem enc Try.prog w t cs d) : ∃ (a : Option Addr) (cap : Nat) (xs : List α), cs = [.slice a xs.length cap] ∧ Rd w a xs.length cap k (recC f xs) ∧ ∀ x ∈ xs, ok x := by
  obtain ⟨a, len, cap, css, els, rfl, h1, h2, hR, hE⟩ := elem_sl ht h
  obtain ⟨xs, rfl, rfl, hok⟩ := open_all (fun x : α × DataW H => f x.1) (fun x => x.2) (fun x => ok x.1) hone css els (by omega) hE
  rw [List.length_map] at h1
  refine ⟨a, cap, xs.map (·.1), by rw [List.length_map, h1], ?_, fun x hx => ?_⟩
  · rw [List.length_map, h1]
    unfold recC
    rw [List.map_map, ← hk]
    exact hR
  · obtain ⟨y, hy, rfl⟩ := List.mem_map.1 hx
    exact hok y hy

set_option maxRecDepth 20000 in
/-- A table that came in. -/
theorem open_tab {v : Value} {d : DataW H} {p : List MemPlace} {r : Reach} {b0 : Nat} (hv : Value.okWide Try.prog w r b0 26 v) (h : DataW.Trod enc Try.prog w 0 (fun _ => true) true 26 v d p) : ∃ X : TabP, v = X.v ∧ TabRd w X := by
  obtain ⟨cs, rfl, hcs⟩ := okWide_struct Try.underlying26 hv
  obtain ⟨fuel, hf0⟩ := h
  obtain ⟨hl, els, hn, rfl, hf⟩ := elem_struct (enc := enc) (w := w) Try.underlying26 ⟨fuel, p, hf0⟩
  rw [k_tab] at hl
  obtain ⟨c0, c1, c2, c3, hcl⟩ := list4 hl
  rw [hcl] at hf
  obtain ⟨_, h0⟩ := hf 0 _ rfl
  obtain ⟨_, h1⟩ := hf 1 _ rfl
  obtain ⟨_, h2⟩ := hf 2 _ rfl
  obtain ⟨_, h3⟩ := hf 3 _ rfl
  obtain ⟨x0, y0, _⟩ := elem_string Try.underlying9 h0
  obtain ⟨a1, p1, x1, y1, r1, _⟩ := elem_recs Col.enc (fun _ => True) 3 Try.underlying22 k_col (fun cs d h => elem_col h) h1
  obtain ⟨a2, p2, x2, y2, r2, n2⟩ := elem_recs IxP.enc (fun x => Rd w x.a x.x.cols.length x.cap 1 (intVals x.x.cols)) 3 Try.underlying23 k_ix (fun cs d h => elem_ix h) h2
  obtain ⟨a3, p3, x3, y3, r3, _⟩ := elem_recs Chk.enc (fun _ => True) 5 Try.underlying24 k_chk (fun cs d h => elem_chk h) h3
  simp [k_cols, k_str, k_ixs, k_chks] at y0 y1 y2 y3
  subst y0 y1 y2 y3
  refine ⟨⟨x0, a1, p1, x1, a2, p2, x2, a3, p3, x3⟩, ?_, r1, r2, n2, r3⟩
  unfold TabP.v
  congr 1
  apply Array.toList_inj.1
  simpa [Value.cells] using hcl
set_option maxRecDepth 20000 in
/-- A row that came in. -/
theorem open_row {v : Value} {d : DataW H} {p : List MemPlace} {r : Reach} {b0 : Nat} (hv : Value.okWide Try.prog w r b0 28 v) (h : DataW.Trod enc Try.prog w 0 (fun _ => true) true 28 v d p) : ∃ (a : Option Addr) (cap : Nat) (r : List Val), v = .slice a r.length cap ∧ Rd w a r.length cap 3 (recC Val.enc r) := by
  obtain ⟨a0, l0, c0, rfl⟩ := okWide_slice Try.underlying28 hv
  obtain ⟨fuel, hf0⟩ := h
  obtain ⟨a, cap, xs, hc, hR, _⟩ := elem_recs Val.enc (fun _ => True) 3 Try.underlying28 k_val (fun cs d h => elem_val h) ⟨fuel, p, hf0⟩
  simp [Value.cells] at hc
  obtain ⟨rfl, rfl, rfl⟩ := hc
  exact ⟨_, _, xs, rfl, hR⟩
set_option maxRecDepth 20000 in
/-- A column that came in. -/
theorem open_col {v : Value} {d : DataW H} {p : List MemPlace} {r : Reach} {b0 : Nat} (hv : Value.okWide Try.prog w r b0 55 v) (h : DataW.Trod enc Try.prog w 0 (fun _ => true) true 55 v d p) : ∃ c : Col, v = c.v := by
  obtain ⟨cs, rfl, hcs⟩ := okWide_struct Try.underlying55 hv
  obtain ⟨fuel, hf0⟩ := h
  obtain ⟨⟨x, _⟩, hx, _⟩ := elem_col (enc := enc) (w := w) ⟨fuel, p, hf0⟩
  refine ⟨x, ?_⟩
  unfold Col.v
  congr 1
  apply Array.toList_inj.1
  simpa [Value.cells, Col.enc] using hx
set_option maxRecDepth 20000 in
/-- An index that came in. -/
theorem open_ix {v : Value} {d : DataW H} {p : List MemPlace} {r : Reach} {b0 : Nat} (hv : Value.okWide Try.prog w r b0 91 v) (h : DataW.Trod enc Try.prog w 0 (fun _ => true) true 91 v d p) : ∃ x : IxP, v = x.v ∧ Rd w x.a x.x.cols.length x.cap 1 (intVals x.x.cols) := by
  obtain ⟨cs, rfl, hcs⟩ := okWide_struct Try.underlying91 hv
  obtain ⟨fuel, hf0⟩ := h
  obtain ⟨⟨x, _⟩, hx, _, hR⟩ := elem_ix (enc := enc) (w := w) ⟨fuel, p, hf0⟩
  refine ⟨x, ?_, hR⟩
  unfold IxP.v
  congr 1
  apply Array.toList_inj.1
  simpa [Value.cells, IxP.enc] using hx
end
end Go.Proofs.Ytpgdfhncigmmbaa

/-
  The walks of the reference's Text and constant. No condition.
-/
namespace Go.Proofs.Ytpgdfhncigmmbaa
open Go.RowKit

/-- A list of integers of the call's own. -/
def RetL (L : List Int) (w : World) (e : Ending) (w' : World) : Prop := Below w.heap.size w w' ∧ ∃ a cap, e = .returned (.slice a L.length cap) ∧ w'.ownsRow w.heap.size 3 1 (.slice a L.length cap) L.length (intVals L)

end Go.Proofs.Ytpgdfhncigmmbaa
