/-
  Chapter 20: sanity, Few, Column, Index, what tables are to a row, the reference's Text. No condition.
-/
import Derived.Test.YtgimkipekoabbaaV20
import Derived.Test.YtgimkipekoabbaaB20
import Derived.Test.YtgimkipekoabbaaA20
import Derived.Test.YtgimkipekoabbaaLibA
import Derived.Test.YtgimkipekoabbaaC20
/-
  The walk of sanity. No condition.
-/
namespace Go.Proofs.Ytgimkipekoabbaa
open Go.RowKit

/-- The tables that sanity plays. -/
def X0 (g : Nat) : TabP := ⟨[116], some ⟨g, 0, none⟩, 1, [⟨[97], 1, true⟩], none, 0, [], none, 0, []⟩
def X1 (g h : Nat) : TabP := ⟨[116], some ⟨g, 0, none⟩, 1, [⟨[97], 1, true⟩], none, 0, [], some ⟨h, 0, none⟩, 1, [⟨0, 10, ⟨1, 3, []⟩⟩]⟩
theorem check0 (g : Nat) : checkT (X0 g).t = 0 := by show checkT (X0 0).t = 0; decide
theorem check1 (g h : Nat) : checkT (X1 g h).t = 0 := by show checkT (X1 0 0).t = 0; decide
theorem words0 (g : Nat) : wordsT (X0 g).t = [4097, 498216206336, 13, 416611827712] := by show wordsT (X0 0).t = _; decide
theorem fits0a (g : Nat) : fitsT (X0 g).t [⟨0, 0, []⟩] = 0 := by show fitsT (X0 0).t _ = _; decide
theorem fits0b (g : Nat) : fitsT (X0 g).t [⟨2, 0, []⟩] = 7 := by show fitsT (X0 0).t _ = _; decide
theorem fits0c (g : Nat) : fitsT (X0 g).t [] = 1 := by show fitsT (X0 0).t _ = _; decide
theorem fits1a (g h : Nat) : fitsT (X1 g h).t [⟨1, 3, []⟩] = 201 := by show fitsT (X1 0 0).t _ = _; decide
theorem fits1b (g h : Nat) : fitsT (X1 g h).t [⟨1, 4, []⟩] = 0 := by show fitsT (X1 0 0).t _ = _; decide
theorem fits1c (g h : Nat) : fitsT (X1 g h).t [⟨0, 0, []⟩] = 0 := by show fitsT (X1 0 0).t _ = _; decide

theorem rd_rec {α : Type} {enc : α → List Value} {k : Nat} {w : World} {g : Nat} {ty : TypeId} {l : List α} (hk : ∀ x, (enc x).length = k) (h : Blk w g ty (recC enc l)) (hl : l.length ≤ maxLen) : Rd w (some ⟨g, 0, none⟩) l.length l.length k (recC enc l) :=
  Rd.ofOwn (own_new (base := 0) h (Nat.zero_le _) (by rw [recC_length hk]) hl)
theorem rd_nil (w : World) (k : Nat) : Rd w none 0 0 k [] := ⟨by simp, Nat.le_refl _, by decide, fun _ => rfl, fun ad ha => by cases ha⟩
theorem tab0 {w : World} {g : Nat} (h : Blk w g 50 [.string ⟨#[97]⟩, .int .i64 1, .bool true]) : TabRd w (X0 g) :=
  ⟨rd_rec (l := [(⟨[97], 1, true⟩ : Col)]) Col.enc_len h (by decide), rd_nil _ _, by simp [X0], rd_nil _ _⟩
theorem tab1 {w : World} {g gh : Nat} (h : Blk w g 50 [.string ⟨#[97]⟩, .int .i64 1, .bool true]) (h2 : Blk w gh 42 [.int .i64 0, .int .i64 10, .int .i64 1, .int .i64 3, .string ⟨#[]⟩]) : TabRd w (X1 g gh) :=
  ⟨rd_rec (l := [(⟨[97], 1, true⟩ : Col)]) Col.enc_len h (by decide), rd_nil _ _, by simp [X1], rd_rec (l := [(⟨0, 10, ⟨1, 3, []⟩⟩ : Chk)]) Chk.enc_len h2 (by decide)⟩

/-- Fits at a row of one value in a new block. -/
theorem fits_row {X : TabP} {w : World} (hr : TabRd w X) (v : Val) {E : Int} (hE : fitsT X.t [v] = E) {k : Nat} (hk : k = w.heap.size) :
    Calls Try.prog 24 #[X.v, .slice (some ⟨k, 0, none⟩) 1 1] (w.alloc (.cells v.enc.toArray 40)) (fun e w' => e = .returned (.int .i64 E) ∧ Below w.heap.size w w') := by
  subst hE; subst hk
  have hrd := rd_rec (l := [v]) (w := w.alloc (.cells v.enc.toArray 40)) (ty := 40) (g := w.heap.size) Val.enc_len (Blk.new rfl (by simp [recC])) (by simp [maxLen])
  refine (fits_any X [v] _ 1 1 _ (hr.alloc _) hrd).mono ?_
  rintro e w' ⟨rfl, hb⟩
  exact ⟨rfl, ((Below.refl _ _).alloc (Nat.le_refl _) _).trans (hb.mono (by simp))⟩
theorem fits_nil {X : TabP} {w : World} (hr : TabRd w X) {E : Int} (hE : fitsT X.t [] = E) :
    Calls Try.prog 24 #[X.v, .slice none 0 0] w (fun e w' => e = .returned (.int .i64 E) ∧ Below w.heap.size w w') := by
  subst hE
  refine (fits_any X [] none 0 0 w hr (rd_nil _ _)).mono ?_
  rintro e w' ⟨rfl, hb⟩
  exact ⟨rfl, hb⟩

theorem nameb {s : List UInt8} {b : Bool} (h : nameB s = b) (w : World) : Calls Try.prog 16 #[.string ⟨s.toArray⟩] w fun e w' => e = .returned (.bool b) ∧ Below w.heap.size w w' := name_is h w

set_option maxRecDepth 20000 in
set_option maxHeartbeats 4000000 in
theorem sanity_any (w : World) : Calls Try.prog 15 #[] w (RetV (.bool true) w) := by
  have S0 : TabIn w ((w.alloc (.cells #[.string ⟨#[97]⟩, .int .i64 1, .bool true] 50)).alloc (.cells #[.string ⟨#[116]⟩, .slice (some ⟨w.heap.size, 0, none⟩) 1 1, .slice none 0 0, .slice none 0 0] 28)) (w.heap.size + 1) (X0 w.heap.size) :=
    ⟨Blk.new (by simp) rfl, (tab0 (Blk.new rfl rfl)).alloc _, ((Below.refl _ _).alloc (Nat.le_refl _) _).alloc (by simp) _⟩
  have B0 : Blk ((w.alloc (.cells #[.string ⟨#[97]⟩, .int .i64 1, .bool true] 50)).alloc (.cells #[.string ⟨#[116]⟩, .slice (some ⟨w.heap.size, 0, none⟩) 1 1, .slice none 0 0, .slice none 0 0] 28)) w.heap.size 50 [.string ⟨#[97]⟩, .int .i64 1, .bool true] := (Blk.new rfl rfl).alloc _
  have S := Box.mk (And.intro S0 B0)
  clear S0 B0
  go_enter Try.func15, Try.ntmps15
  go_wp2_with fail
  have hww : ∃ W1, (w.alloc (.cells #[.string ⟨#[97]⟩, .int .i64 1, .bool true] 50)).alloc (.cells #[.string ⟨#[116]⟩, .slice (some ⟨w.heap.size, 0, none⟩) 1 1, .slice none 0 0, .slice none 0 0] 28) = W1 := ⟨_, rfl⟩
  obtain ⟨W1, hW1⟩ := hww
  rw [hW1] at S ⊢
  clear hW1
  refine (nameb (s := [97]) (b := true) (by decide) _).mono ?_
  rintro e W2 ⟨rfl, hb⟩
  replace S := Box.mk (And.intro (S.out.1.step hb) (S.out.2.call0 hb))
  clear hb
  go_wp2_with fail
  refine (nameb (s := [97, 95, 49]) (b := true) (by decide) _).mono ?_
  rintro e W3 ⟨rfl, hb⟩
  replace S := Box.mk (And.intro (S.out.1.step hb) (S.out.2.call0 hb))
  clear hb
  go_wp2_with fail
  refine (nameb (s := [65]) (b := false) (by decide) _).mono ?_
  rintro e W4 ⟨rfl, hb⟩
  replace S := Box.mk (And.intro (S.out.1.step hb) (S.out.2.call0 hb))
  clear hb
  go_wp2_with fail
  refine (nameb (s := [49, 97]) (b := false) (by decide) _).mono ?_
  rintro e W5 ⟨rfl, hb⟩
  replace S := Box.mk (And.intro (S.out.1.step hb) (S.out.2.call0 hb))
  clear hb
  go_wp2_with fail
  refine (nameb (s := [115, 101, 108, 101, 99, 116]) (b := false) (by decide) _).mono ?_
  rintro e W6 ⟨rfl, hb⟩
  replace S := Box.mk (And.intro (S.out.1.step hb) (S.out.2.call0 hb))
  clear hb
  go_wp2_with fail
  refine (nameb (s := []) (b := false) (by decide) _).mono ?_
  rintro e W7 ⟨rfl, hb⟩
  replace S := Box.mk (And.intro (S.out.1.step hb) (S.out.2.call0 hb))
  clear hb
  have x0 := S.out.1.c0
  have x1 := S.out.1.c1
  have x2 := S.out.1.c2
  have x3 := S.out.1.c3
  go_wp2_with fail
  refine (words_any (X0 w.heap.size) W7 S.out.1.rd).mono ?_
  rintro e W8 ⟨hb, la, ln, lc, he, hrd⟩
  rw [check0] at he
  rw [if_pos (check0 _), words0] at hrd
  subst he
  have T := Box.mk (And.intro (S.out.1.step hb) (And.intro (S.out.2.call0 hb) hrd))
  clear hb S hrd x0 x1 x2 x3
  have x0 := T.out.1.c0
  have x1 := T.out.1.c1
  have x2 := T.out.1.c2
  have x3 := T.out.1.c3
  go_wp2_with fail
  refine (fits_row T.out.1.rd ⟨0, 0, []⟩ (fits0a _) rfl).mono ?_
  rintro e W9 ⟨rfl, hb⟩
  replace T := Box.mk (And.intro (T.out.1.step hb) (And.intro (T.out.2.1.call0 hb) (T.out.2.2.call0 hb)))
  clear hb x0 x1 x2 x3
  have x0 := T.out.1.c0
  have x1 := T.out.1.c1
  have x2 := T.out.1.c2
  have x3 := T.out.1.c3
  go_wp2_with fail
  refine (fits_row T.out.1.rd ⟨2, 0, []⟩ (fits0b _) rfl).mono ?_
  rintro e W10 ⟨rfl, hb⟩
  replace T := Box.mk (And.intro (T.out.1.step hb) (And.intro (T.out.2.1.call0 hb) (T.out.2.2.call0 hb)))
  clear hb x0 x1 x2 x3
  have x0 := T.out.1.c0
  have x1 := T.out.1.c1
  have x2 := T.out.1.c2
  have x3 := T.out.1.c3
  go_wp2_with fail
  refine (fits_nil T.out.1.rd (fits0c _)).mono ?_
  rintro e W11 ⟨rfl, hb⟩
  replace T := Box.mk (And.intro (T.out.1.step hb) (And.intro (T.out.2.1.call0 hb) (T.out.2.2.call0 hb)))
  clear hb x0 x1 x2 x3
  have x0 := T.out.1.c0
  have x1 := T.out.1.c1
  have x2 := T.out.1.c2
  have x3 := T.out.1.c3
  go_wp2_with fail
  obtain ⟨V, hV⟩ : ∃ V, V = ((W11.alloc (.cells #[.string ⟨(X0 w.heap.size).name.toArray⟩, .slice (X0 w.heap.size).ca (X0 w.heap.size).cols.length (X0 w.heap.size).cc, .slice (X0 w.heap.size).ia (X0 w.heap.size).ixs.length (X0 w.heap.size).ic, .slice (some ⟨W11.heap.size + 1, 0, none⟩) 1 1] 28)).alloc (.cells #[.int .i64 0, .int .i64 10, .int .i64 1, .int .i64 3, .string ⟨#[]⟩] 42)) := ⟨_, rfl⟩
  have hVs : W11.heap.size + 1 + 1 = V.heap.size := by rw [hV]; simp
  have TV : TabIn w V W11.heap.size (X1 w.heap.size (W11.heap.size + 1)) ∧ Rd V la ln lc 1 (intVals [4097, 498216206336, 13, 416611827712]) := by
    subst hV
    have b1 := (T.out.2.1.alloc (.cells #[.string ⟨(X0 w.heap.size).name.toArray⟩, .slice (X0 w.heap.size).ca (X0 w.heap.size).cols.length (X0 w.heap.size).cc, .slice (X0 w.heap.size).ia (X0 w.heap.size).ixs.length (X0 w.heap.size).ic, .slice (some ⟨W11.heap.size + 1, 0, none⟩) 1 1] 28)).alloc (.cells #[.int .i64 0, .int .i64 10, .int .i64 1, .int .i64 3, .string ⟨#[]⟩] 42)
    exact ⟨⟨(Blk.new rfl rfl).alloc _, tab1 b1 (Blk.new (by simp) rfl), (T.out.1.below.alloc T.out.1.below.size _).alloc (by have := T.out.1.below.size; simp; omega) _⟩, (T.out.2.2.alloc _).alloc _⟩
  rw [← hV]
  clear hV T x0 x1 x2 x3
  have T := Box.mk TV
  clear TV
  generalize W11.heap.size = g2 at *
  refine (fits_row T.out.1.rd ⟨1, 3, []⟩ (fits1a _ _) hVs).mono ?_
  rintro e W12 ⟨rfl, hb⟩
  clear hVs
  replace T := Box.mk (And.intro (T.out.1.step hb) (T.out.2.call0 hb))
  clear hb
  have x0 := T.out.1.c0
  have x1 := T.out.1.c1
  have x2 := T.out.1.c2
  have x3 := T.out.1.c3
  go_wp2_with fail
  refine (fits_row T.out.1.rd ⟨1, 4, []⟩ (fits1b _ _) rfl).mono ?_
  rintro e W13 ⟨rfl, hb⟩
  replace T := Box.mk (And.intro (T.out.1.step hb) (T.out.2.call0 hb))
  clear hb x0 x1 x2 x3
  have x0 := T.out.1.c0
  have x1 := T.out.1.c1
  have x2 := T.out.1.c2
  have x3 := T.out.1.c3
  go_wp2_with fail
  refine (fits_row T.out.1.rd ⟨0, 0, []⟩ (fits1c _ _) rfl).mono ?_
  rintro e W14 ⟨rfl, hb⟩
  replace T := Box.mk (And.intro (T.out.1.step hb) (T.out.2.call0 hb))
  clear hb x0 x1 x2 x3
  go_wp2_with fail
  refine (sameInts_any [4097, 498216206336, 13, 416611827712] [4097, 498216206336, 13, 416611827712] _ _ _ 4 _ 4 _ (T.out.2.alloc _) (Rd.ofOwn (own_new (e := 3) (base := 0) (Blk.new (w := W14) (cs := intVals [4097, 498216206336, 13, 416611827712]) rfl rfl) (Nat.zero_le _) rfl (by decide)))).mono ?_
  rintro e W15 ⟨rfl, q, hq⟩
  replace T := Box.mk (show TabIn w W15 g2 (X1 w.heap.size (g2 + 1)) from by rw [hq]; exact (T.out.1.alloc _).drewN q)
  clear hq
  have x0 := T.out.c0
  have x1 := T.out.c1
  have x2 := T.out.c2
  have x3 := T.out.c3
  go_wp2_with fail
  refine (check_is (X := X1 w.heap.size (g2 + 1)) (check1 _ _) T.out.rd).mono ?_
  rintro e W16 ⟨rfl, hb⟩
  replace T := Box.mk (T.out.step hb)
  clear hb x0 x1 x2 x3
  go_wp2_with fail
  go_ret
  exact ⟨rfl, T.out.below⟩
end Go.Proofs.Ytgimkipekoabbaa

/-
  The walk of Few. No condition.
-/
namespace Go.Proofs.Ytgimkipekoabbaa
open Go.RowKit

/-- Small enough to be checked. -/
def fewB (T : Tab) : Bool := decide (T.cols.length ≤ 20) && decide (T.ixs.length ≤ 20) && decide (T.chks.length ≤ 20) && T.ixs.all fun x => decide (x.cols.length ≤ 20)
theorem fewB_true {T : Tab} (h : fewB T = true) : T.cols.length ≤ 20 ∧ T.ixs.length ≤ 20 ∧ T.chks.length ≤ 20 ∧ ∀ x ∈ T.ixs, x.cols.length ≤ 20 := by
  unfold fewB at h
  simp only [Bool.and_eq_true, decide_eq_true_eq, List.all_eq_true] at h
  exact ⟨h.1.1.1, h.1.1.2, h.1.2, h.2⟩
theorem fewB_big {T : Tab} (h : 20 < T.cols.length ∨ 20 < T.ixs.length ∨ 20 < T.chks.length) : fewB T = false := by
  cases hf : fewB T
  · rfl
  · have := fewB_true hf; omega
theorem fewB_hit {T : Tab} {k : Nat} (hk : k < T.ixs.length) (h : 20 < (T.ixs.getD k default).cols.length) : fewB T = false := by
  cases hf : fewB T
  · rfl
  · have := (fewB_true hf).2.2.2 _ (getD_mem hk); omega
theorem fewB_all {T : Tab} (h1 : T.cols.length ≤ 20) (h2 : T.ixs.length ≤ 20) (h3 : T.chks.length ≤ 20) (h : ∀ k, k < T.ixs.length → (T.ixs.getD k default).cols.length ≤ 20) : fewB T = true := by
  unfold fewB
  simp only [Bool.and_eq_true, decide_eq_true_eq, List.all_eq_true]
  refine ⟨⟨⟨h1, h2⟩, h3⟩, fun x hx => ?_⟩
  obtain ⟨i, hi, rfl⟩ := List.getElem_of_mem hx
  have := h i hi
  rwa [getD_eq hi] at this

set_option maxRecDepth 20000 in
set_option maxHeartbeats 4000000 in
theorem few_any (X : TabP) (w : World) (hr : TabRd w X) : Calls Try.prog 18 #[X.v] w (RetV (.bool (fewB X.t)) w) := by
  generalize hE : fewB X.t = E
  have HE := Box.mk hE
  clear hE
  have T1 := Box.mk (TabIn.start hr)
  have mc := hr.cols.lenMax
  have mi := hr.ixs.lenMax
  have mh := hr.chks.lenMax
  clear hr
  unfold TabP.cs at T1
  unfold TabP.v
  have u1 := T1.out.c1
  have u2 := T1.out.c2
  have u3 := T1.out.c3
  by_cases h1 : 20 < X.cols.length
  · have hX := HE.out.symm.trans (fewB_big (T := X.t) (.inl h1))
    subst hX
    go_enter Try.func18, Try.ntmps18
    go_wp2_with fail
    go_ret
    exact ⟨rfl, T1.out.below⟩
  by_cases h2 : 20 < X.ixs.length
  · have hX := HE.out.symm.trans (fewB_big (T := X.t) (.inr (.inl (by show 20 < (X.ixs.map fun (p : IxP) => p.x).length; rw [List.length_map]; exact h2))))
    subst hX
    go_enter Try.func18, Try.ntmps18
    go_wp2_with fail
    go_ret
    exact ⟨rfl, T1.out.below⟩
  by_cases h3 : 20 < X.chks.length
  · have hX := HE.out.symm.trans (fewB_big (T := X.t) (.inr (.inr h3)))
    subst hX
    go_enter Try.func18, Try.ntmps18
    go_wp2_with fail
    go_ret
    exact ⟨rfl, T1.out.below⟩
  have n1 : X.cols.length ≤ 20 := by omega
  have n2 : X.ixs.length ≤ 20 := by omega
  have n3 : X.chks.length ≤ 20 := by omega
  clear h1 h2 h3
  go_enter Try.func18, Try.ntmps18
  go_wp2_with fail
  generalize (w.alloc (.cells #[.string ⟨X.name.toArray⟩, .slice X.ca X.cols.length X.cc, .slice X.ia X.ixs.length X.ic, .slice X.ha X.chks.length X.hc] 28)) = W at *
  generalize hg : w.heap.size = g at *
  clear u1 u3
  go_loopw [3] (fun i wr => ∃ k : Nat, k ≤ X.ixs.length ∧ i = .int .i64 k ∧ Box (∀ j, j < k → (X.t.ixs.getD j default).cols.length ≤ 20) ∧ wr = W) (fun i _ => X.ixs.length - (intOf i).toNat)
  case atStart => exact ⟨0, Nat.zero_le _, rfl, ⟨fun j h => by omega⟩, rfl⟩
  case round =>
    obtain ⟨k, hk, rfl, HZ, rfl⟩ := hrel
    by_cases hlt : k < X.ixs.length
    · obtain ⟨b, off, hca, hgb, hc⟩ := T1.out.rd.ixs.recAt IxP.enc_len (by omega) k hlt
      rw [hca] at u2
      have hlt2 : k < X.t.ixs.length := by show k < (X.ixs.map fun (p : IxP) => p.x).length; rw [List.length_map]; exact hlt
      have hgx : (X.t.ixs.getD k default) = (X.ixs.getD k default).x := getD_map_x X.ixs k
      have mn := (T1.out.rd.nums _ (getD_mem hlt)).lenMax
      have HHIT := Box.mk (fun (h : 20 < (X.ixs.getD k default).x.cols.length) => show E = false from by
        rw [← HE.out]; exact fewB_hit hlt2 (by rw [hgx]; exact h))
      have HST := Box.mk (fun (h : (X.ixs.getD k default).x.cols.length ≤ 20) => show ∀ j, j < k + 1 → (X.t.ixs.getD j default).cols.length ≤ 20 from fun j hj => by
        by_cases e : j = k
        · subst e; rw [hgx]; exact h
        · exact HZ.out j (by omega))
      have c1 := hc 1 _ rfl
      clear hc hca hgb hgx
      generalize X.ixs.getD k default = y at *
      obtain ⟨⟨yn, yc, yu⟩, ya, yp⟩ := y
      simp only at c1 mn HHIT HST
      generalize yc.length = yl at *
      by_cases hy : 20 < yl
      · have hX := HHIT.out hy
        subst hX
        go_wp2_with fail
        go_ret
        exact ⟨rfl, hg ▸ T1.out.below⟩
      · have hy2 : yl ≤ 20 := by omega
        have HS2 := Box.mk (HST.out hy2)
        clear hy HST HHIT
        go_wp2_with fail
        go_roundw
        case rel => exact ⟨k + 1, by omega, by go_num, HS2, trivial⟩
        case measure => simp [intOf]; omega
    · have hX := HE.out.symm.trans (fewB_all (T := X.t) n1 (by show (X.ixs.map fun (p : IxP) => p.x).length ≤ 20; rw [List.length_map]; exact n2) n3 (fun j hj => HZ.out j (by change j < (X.ixs.map fun (p : IxP) => p.x).length at hj; rw [List.length_map] at hj; omega)))
      subst hX
      go_wp2_with fail
      go_ret
      exact ⟨rfl, hg ▸ T1.out.below⟩
theorem few_is {X : TabP} {b : Bool} (h : fewB X.t = b) {w : World} (hr : TabRd w X) : Calls Try.prog 18 #[.agg #[.string ⟨X.name.toArray⟩, .slice X.ca X.cols.length X.cc, .slice X.ia X.ixs.length X.ic, .slice X.ha X.chks.length X.hc]] w (RetV (.bool b) w) := by
  subst h; exact few_any X w hr
end Go.Proofs.Ytgimkipekoabbaa

/-
  The walks of Column, Index and of the reference's. No condition.
-/
namespace Go.Proofs.Ytgimkipekoabbaa
open Go.RowKit

/-- The first place with a property, or 0. -/
def placeP {α : Type} (p : α → Bool) (l : List α) : Int := if l.any p = true then (l.findIdx p : Int) else 0
theorem placeP_max {α : Type} (p : α → Bool) (l : List α) : max 0 (idxP p l) = placeP p l := by
  unfold idxP placeP
  cases h : l.any p
  · rfl
  · simp only [if_true]; omega
theorem placeP_hit {α : Type} [Inhabited α] {p : α → Bool} {l : List α} {k : Nat} (h : ∀ j, j < k → p (l.getD j default) = false) (hk : k < l.length) (hp : p (l.getD k default) = true) : placeP p l = k ∧ l.any p = true := by
  have h2 : l.any p = true := List.any_eq_true.2 ⟨_, getD_mem hk, hp⟩
  have := idxP_hit h hk hp
  unfold idxP at this
  rw [if_pos h2] at this
  exact ⟨by unfold placeP; rw [if_pos h2]; exact this, h2⟩
theorem placeP_miss {α : Type} [Inhabited α] {p : α → Bool} {l : List α} (h : ∀ j, j < l.length → p (l.getD j default) = false) : placeP p l = 0 ∧ l.any p = false := by
  have h2 : l.any p = false := by
    cases ha : l.any p
    · rfl
    · obtain ⟨x, hx, hp⟩ := List.any_eq_true.1 ha
      obtain ⟨i, hi, rfl⟩ := List.getElem_of_mem hx
      have := h i hi
      rw [getD_eq hi, hp] at this
      cases this
  exact ⟨by unfold placeP; rw [if_neg (by rw [h2]; decide)], h2⟩
def colIs (s : List UInt8) (c : Col) : Bool := c.name == s
def ixIs (s : List UInt8) (x : Ix) : Bool := x.name == s
def ixPIs (s : List UInt8) (x : IxP) : Bool := ixIs s x.x

/-- What Column and Index return. -/
def RetF (v : Int) (b : Bool) (w : World) (e : Ending) (w' : World) : Prop := e = .returned (.tuple #[.int .i64 v, .bool b]) ∧ Below w.heap.size w w'

set_option maxRecDepth 20000 in
theorem colp_any (s : List UInt8) (b : Nat) (w : World) (hb : w.cell? ⟨b, 0, none⟩ = some (.string ⟨s.toArray⟩)) : PredB 62 #[.pointer (some ⟨b, 0, none⟩)] Col.v (colIs s) w := by
  intro W x hW
  have hlt := cell_block_lt hb
  have c0 := (hW.cell (p := ⟨b, 0, none⟩) hlt).trans hb
  obtain ⟨n1, k1, u1⟩ := x
  have e0 := Lib.cell?_alloc_some (.cells #[.string ⟨n1.toArray⟩, .int .i64 k1, .bool u1] 50) c0
  unfold Col.v colIs
  generalize hd : (n1 == s) = d
  show Calls Try.prog 62 #[.agg #[.string ⟨n1.toArray⟩, .int .i64 k1, .bool u1], .pointer (some ⟨b, 0, none⟩)] W _
  go_enter Try.func62, Try.ntmps62
  go_wp2_with fail
  go_ret
  exact ⟨by rw [← hd]; rfl, (Below.refl _ _).alloc (Nat.le_refl _) _⟩
set_option maxRecDepth 20000 in
theorem ixp_any (s : List UInt8) (b : Nat) (w : World) (hb : w.cell? ⟨b, 0, none⟩ = some (.string ⟨s.toArray⟩)) : PredB 64 #[.pointer (some ⟨b, 0, none⟩)] IxP.v (ixPIs s) w := by
  intro W x hW
  have hlt := cell_block_lt hb
  have c0 := (hW.cell (p := ⟨b, 0, none⟩) hlt).trans hb
  obtain ⟨⟨n1, k1, u1⟩, a1, p1⟩ := x
  have e0 := Lib.cell?_alloc_some (.cells #[.string ⟨n1.toArray⟩, .slice a1 k1.length p1, .bool u1] 55) c0
  unfold IxP.v ixPIs ixIs
  generalize hd : (n1 == s) = d
  show Calls Try.prog 64 #[.agg #[.string ⟨n1.toArray⟩, .slice a1 k1.length p1, .bool u1], .pointer (some ⟨b, 0, none⟩)] W _
  generalize k1.length = kl at *
  go_enter Try.func64, Try.ntmps64
  go_wp2_with fail
  go_ret
  exact ⟨by rw [← hd]; rfl, (Below.refl _ _).alloc (Nat.le_refl _) _⟩

set_option maxRecDepth 20000 in
set_option maxHeartbeats 2000000 in
theorem column_any (X : TabP) (s : List UInt8) (w : World) (hr : TabRd w X) : Calls Try.prog 25 #[X.v, .string ⟨s.toArray⟩] w (RetF (placeP (colIs s) X.cols) (X.cols.any (colIs s)) w) := by
  have hmf : ∀ (fn : Fn) (first cap : Array Value) (w : World), (Instr.makeFunc fn first cap).run Try.prog w = .ok (.func fn first cap) w := fun _ _ _ _ => rfl
  have eg : ∀ args w, (callFunc 62 args).run Try.prog w = .ok (.enter 62 args) w := enters_fn Try.func62 (by kernel_rfl) (by kernel_rfl)
  have T1 := Box.mk ((TabIn.start hr).alloc (.cells #[.string ⟨s.toArray⟩] 9))
  have cn : ((w.alloc (.cells X.cs.toArray 28)).alloc (.cells #[.string ⟨s.toArray⟩] 9)).cell? ⟨w.heap.size + 1, 0, none⟩ = some (.string ⟨s.toArray⟩) := (Blk.new (cs := [.string ⟨s.toArray⟩]) (by simp) rfl).cellOf (i := 0) rfl
  have CN := Box.mk cn
  clear cn
  have hm := placeP_max (colIs s) X.cols
  have hn := idxP_nonneg (colIs s) X.cols
  rw [← hm, ← hn]
  clear hm hn hr
  generalize hi : idxP (colIs s) X.cols = i
  have HI := Box.mk hi
  clear hi
  unfold TabP.cs at T1 CN
  unfold TabP.v
  have u1 := T1.out.c1
  by_cases h0 : 0 ≤ i
  · rw [show max 0 i = i from by omega]
    go_enter Try.func25, Try.ntmps25
    go_wp2_with fail
    refine (cidx_any (colIs s) _ _ eg X.cols _ _ _ _ T1.out.rd.cols (colp_any s _ _ CN.out)).mono ?_
    rintro e w2 ⟨he, hb⟩
    rw [HI.out] at he
    subst he
    have T2 := Box.mk (T1.out.step hb)
    clear hb u1 T1 CN
    go_wp2_with fail
    all_goals first
      | (go_ret2; exact ⟨rfl, T2.out.below⟩)
      | (obtain rfl : i = 0 := by omega
         go_ret2; exact ⟨rfl, T2.out.below⟩)
      | (exfalso; omega)
  · rw [show max 0 i = 0 from by omega]
    go_enter Try.func25, Try.ntmps25
    go_wp2_with fail
    refine (cidx_any (colIs s) _ _ eg X.cols _ _ _ _ T1.out.rd.cols (colp_any s _ _ CN.out)).mono ?_
    rintro e w2 ⟨he, hb⟩
    rw [HI.out] at he
    subst he
    have T2 := Box.mk (T1.out.step hb)
    clear hb u1 T1 CN
    go_wp2_with fail
    all_goals first
      | (go_ret2; exact ⟨rfl, T2.out.below⟩)
      | (obtain rfl : i = 0 := by omega
         go_ret2; exact ⟨rfl, T2.out.below⟩)
      | (exfalso; omega)
set_option maxRecDepth 20000 in
set_option maxHeartbeats 2000000 in
theorem index_any2 (X : TabP) (s : List UInt8) (w : World) (hr : TabRd w X) : Calls Try.prog 27 #[X.v, .string ⟨s.toArray⟩] w (RetF (placeP (ixPIs s) X.ixs) (X.ixs.any (ixPIs s)) w) := by
  have hmf : ∀ (fn : Fn) (first cap : Array Value) (w : World), (Instr.makeFunc fn first cap).run Try.prog w = .ok (.func fn first cap) w := fun _ _ _ _ => rfl
  have eg : ∀ args w, (callFunc 64 args).run Try.prog w = .ok (.enter 64 args) w := enters_fn Try.func64 (by kernel_rfl) (by kernel_rfl)
  have T1 := Box.mk ((TabIn.start hr).alloc (.cells #[.string ⟨s.toArray⟩] 9))
  have cn : ((w.alloc (.cells X.cs.toArray 28)).alloc (.cells #[.string ⟨s.toArray⟩] 9)).cell? ⟨w.heap.size + 1, 0, none⟩ = some (.string ⟨s.toArray⟩) := (Blk.new (cs := [.string ⟨s.toArray⟩]) (by simp) rfl).cellOf (i := 0) rfl
  have CN := Box.mk cn
  clear cn
  have hm := placeP_max (ixPIs s) X.ixs
  have hn := idxP_nonneg (ixPIs s) X.ixs
  rw [← hm, ← hn]
  clear hm hn hr
  generalize hi : idxP (ixPIs s) X.ixs = i
  have HI := Box.mk hi
  clear hi
  unfold TabP.cs at T1 CN
  unfold TabP.v
  have u1 := T1.out.c2
  by_cases h0 : 0 ≤ i
  · rw [show max 0 i = i from by omega]
    go_enter Try.func27, Try.ntmps27
    go_wp2_with fail
    refine (iidx_any (ixPIs s) _ _ eg X.ixs _ _ _ _ T1.out.rd.ixs (ixp_any s _ _ CN.out)).mono ?_
    rintro e w2 ⟨he, hb⟩
    rw [HI.out] at he
    subst he
    have T2 := Box.mk (T1.out.step hb)
    clear hb u1 T1 CN
    go_wp2_with fail
    all_goals first
      | (go_ret2; exact ⟨rfl, T2.out.below⟩)
      | (obtain rfl : i = 0 := by omega
         go_ret2; exact ⟨rfl, T2.out.below⟩)
      | (exfalso; omega)
  · rw [show max 0 i = 0 from by omega]
    go_enter Try.func27, Try.ntmps27
    go_wp2_with fail
    refine (iidx_any (ixPIs s) _ _ eg X.ixs _ _ _ _ T1.out.rd.ixs (ixp_any s _ _ CN.out)).mono ?_
    rintro e w2 ⟨he, hb⟩
    rw [HI.out] at he
    subst he
    have T2 := Box.mk (T1.out.step hb)
    clear hb u1 T1 CN
    go_wp2_with fail
    all_goals first
      | (go_ret2; exact ⟨rfl, T2.out.below⟩)
      | (obtain rfl : i = 0 := by omega
         go_ret2; exact ⟨rfl, T2.out.below⟩)
      | (exfalso; omega)

set_option maxRecDepth 20000 in
set_option maxHeartbeats 4000000 in
theorem rcolumn_any (X : TabP) (s : List UInt8) (w : World) (hr : TabRd w X) : Calls Try.prog 26 #[X.v, .string ⟨s.toArray⟩] w (RetF (placeP (colIs s) X.cols) (X.cols.any (colIs s)) w) := by
  generalize hE : placeP (colIs s) X.cols = E
  generalize hF : X.cols.any (colIs s) = F
  have HE := Box.mk (And.intro hE hF)
  clear hE hF
  have T1 := Box.mk (TabIn.start hr)
  have mc := hr.cols.lenMax
  clear hr
  unfold TabP.cs at T1
  unfold TabP.v
  have u1 := T1.out.c1
  go_enter Try.func26, Try.ntmps26
  go_wp2_with fail
  generalize (w.alloc (.cells #[.string ⟨X.name.toArray⟩, .slice X.ca X.cols.length X.cc, .slice X.ia X.ixs.length X.ic, .slice X.ha X.chks.length X.hc] 28)) = W at *
  generalize hg : w.heap.size = g at *
  have HG := Box.mk hg
  clear hg
  go_loopw [6] (fun i wr => ∃ k : Nat, k ≤ X.cols.length ∧ i = .int .i64 k ∧ Box (∀ j, j < k → colIs s (X.cols.getD j default) = false) ∧ wr = W) (fun i _ => X.cols.length - (intOf i).toNat)
  case atStart => exact ⟨0, Nat.zero_le _, rfl, ⟨fun j h => by omega⟩, rfl⟩
  case round =>
    obtain ⟨k, hk, rfl, HZ, rfl⟩ := hrel
    by_cases hlt : k < X.cols.length
    · obtain ⟨b, off, hca, hgb, hc⟩ := T1.out.rd.cols.recAt Col.enc_len (by omega) k hlt
      rw [hca] at u1
      have c0 := hc 0 _ rfl
      simp only [Nat.add_zero] at c0
      clear hc hca hgb
      have HHIT := Box.mk (fun (h : colIs s (X.cols.getD k default) = true) => show E = k ∧ F = true from by
        have := placeP_hit HZ.out hlt h; rw [HE.out.1, HE.out.2] at this; exact this)
      have HST := Box.mk (fun (h : colIs s (X.cols.getD k default) = false) => show ∀ j, j < k + 1 → colIs s (X.cols.getD j default) = false from fun j hj => by
        by_cases e : j = k
        · subst e; exact h
        · exact HZ.out j (by omega))
      unfold colIs at HHIT HST
      generalize (X.cols.getD k default).name = yn at *
      cases hd : (yn == s) with
      | true =>
        obtain ⟨h1, h2⟩ := HHIT.out hd
        subst h1 h2
        have hdd : decide (yn = s) = true := by rw [← name_beq]; exact hd
        have hyn : yn = s := by simpa using hd
        clear HHIT HST hd
        go_wp2_with fail
        all_goals first
          | (go_ret2; exact ⟨rfl, HG.out ▸ T1.out.below⟩)
          | (exfalso; simp_all)
      | false =>
        have HS2 := Box.mk (HST.out hd)
        have hyn : ¬ yn = s := by intro e; rw [e] at hd; simp at hd
        clear HHIT HST hd
        go_wp2_with fail
        all_goals first
          | (exact ⟨⟨k + 1, by omega, by go_num, HS2, trivial⟩, by simp [intOf]; omega⟩)
          | (exfalso; simp_all)
    · obtain ⟨h1, h2⟩ := placeP_miss (p := colIs s) (l := X.cols) (fun j hj => HZ.out j (by omega))
      rw [HE.out.1] at h1
      rw [HE.out.2] at h2
      subst h1 h2
      go_wp2_with fail
      go_ret2
      exact ⟨rfl, HG.out ▸ T1.out.below⟩
set_option maxRecDepth 20000 in
set_option maxHeartbeats 4000000 in
theorem rindex_any (X : TabP) (s : List UInt8) (w : World) (hr : TabRd w X) : Calls Try.prog 28 #[X.v, .string ⟨s.toArray⟩] w (RetF (placeP (ixPIs s) X.ixs) (X.ixs.any (ixPIs s)) w) := by
  generalize hE : placeP (ixPIs s) X.ixs = E
  generalize hF : X.ixs.any (ixPIs s) = F
  have HE := Box.mk (And.intro hE hF)
  clear hE hF
  have T1 := Box.mk (TabIn.start hr)
  have mc := hr.ixs.lenMax
  clear hr
  unfold TabP.cs at T1
  unfold TabP.v
  have u2 := T1.out.c2
  go_enter Try.func28, Try.ntmps28
  go_wp2_with fail
  generalize (w.alloc (.cells #[.string ⟨X.name.toArray⟩, .slice X.ca X.cols.length X.cc, .slice X.ia X.ixs.length X.ic, .slice X.ha X.chks.length X.hc] 28)) = W at *
  generalize hg : w.heap.size = g at *
  have HG := Box.mk hg
  clear hg
  go_loopw [6] (fun i wr => ∃ k : Nat, k ≤ X.ixs.length ∧ i = .int .i64 k ∧ Box (∀ j, j < k → ixPIs s (X.ixs.getD j default) = false) ∧ wr = W) (fun i _ => X.ixs.length - (intOf i).toNat)
  case atStart => exact ⟨0, Nat.zero_le _, rfl, ⟨fun j h => by omega⟩, rfl⟩
  case round =>
    obtain ⟨k, hk, rfl, HZ, rfl⟩ := hrel
    by_cases hlt : k < X.ixs.length
    · obtain ⟨b, off, hca, hgb, hc⟩ := T1.out.rd.ixs.recAt IxP.enc_len (by omega) k hlt
      rw [hca] at u2
      have c0 := hc 0 _ rfl
      simp only [Nat.add_zero] at c0
      clear hc hca hgb
      have HHIT := Box.mk (fun (h : ixPIs s (X.ixs.getD k default) = true) => show E = k ∧ F = true from by
        have := placeP_hit HZ.out hlt h; rw [HE.out.1, HE.out.2] at this; exact this)
      have HST := Box.mk (fun (h : ixPIs s (X.ixs.getD k default) = false) => show ∀ j, j < k + 1 → ixPIs s (X.ixs.getD j default) = false from fun j hj => by
        by_cases e : j = k
        · subst e; exact h
        · exact HZ.out j (by omega))
      unfold ixPIs ixIs at HHIT HST
      generalize (X.ixs.getD k default).x.name = yn at *
      cases hd : (yn == s) with
      | true =>
        obtain ⟨h1, h2⟩ := HHIT.out hd
        subst h1 h2
        have hdd : decide (yn = s) = true := by rw [← name_beq]; exact hd
        have hyn : yn = s := by simpa using hd
        clear HHIT HST hd
        go_wp2_with fail
        all_goals first
          | (go_ret2; exact ⟨rfl, HG.out ▸ T1.out.below⟩)
          | (exfalso; simp_all)
      | false =>
        have HS2 := Box.mk (HST.out hd)
        have hyn : ¬ yn = s := by intro e; rw [e] at hd; simp at hd
        clear HHIT HST hd
        go_wp2_with fail
        all_goals first
          | (exact ⟨⟨k + 1, by omega, by go_num, HS2, trivial⟩, by simp [intOf]; omega⟩)
          | (exfalso; simp_all)
    · obtain ⟨h1, h2⟩ := placeP_miss (p := ixPIs s) (l := X.ixs) (fun j hj => HZ.out j (by omega))
      rw [HE.out.1] at h1
      rw [HE.out.2] at h2
      subst h1 h2
      go_wp2_with fail
      go_ret2
      exact ⟨rfl, HG.out ▸ T1.out.below⟩
end Go.Proofs.Ytgimkipekoabbaa

/-
  What tables, rows, columns, indexes that came in are to a walk. No condition.
-/
namespace Go.Proofs.Ytgimkipekoabbaa
open Go.RowKit Go.WideShapes

section
variable {H : Type} {enc : TypeId × Value → H} {w : World}

/-- An element that is a slice, element by element. -/
theorem elem_rows {P : Program} {t e : TypeId} {cs : List Value} {d : DataW H} (ht : P.underlying t = some (.slice e)) {v : Value} (hv : ∃ a0 l0 c0, v = Value.slice a0 l0 c0) (hcv : v.cells.toList = cs) (h : Elem enc P w t cs d) :
    ∃ (a : Option Addr) (len cap : Nat) (css : List (List Value)) (els : List (DataW H)), v = .slice a len cap ∧ css.length = len ∧ els.length = len ∧ Rd w a len cap (P.cellsOf e) css.flatten ∧
      (∀ i (hi : i < css.length) (hj : i < els.length), Elem enc P w e css[i] els[i]) := by
  obtain ⟨a0, l0, c0, rfl⟩ := hv
  subst hcv
  obtain ⟨fuel, pl, hf⟩ := h
  rcases Deep.open_slice ht hf with ⟨hcs, hx⟩ | ⟨a, len, cap, m, n, D, Pl, hcs, _, hl, hm, hmm, hx, hel⟩
  · simp [Value.cells] at hcs
    obtain ⟨rfl, rfl, rfl⟩ := hcs
    exact ⟨none, 0, 0, [], [], rfl, rfl, rfl, Rd.nilSlice w _, fun i hi => by simp at hi⟩
  · simp [Value.cells] at hcs
    obtain ⟨rfl, rfl, rfl⟩ := hcs
    simp only [if_true] at hmm
    subst hmm
    have hC : ∀ i, i < m → ∃ cs', w.cells? 0 (a.add (i * P.cellsOf e)) (P.cellsOf e) = some cs' ∧ cs' = (w.cells? 0 (a.add (i * P.cellsOf e)) (P.cellsOf e)).getD [] ∧ DataW.trod enc P w 0 (fun _ => true) true n e cs' = some (D i, Pl i) := fun i hi => by
      obtain ⟨cs', h1, h2⟩ := hel i hi
      exact ⟨cs', h1, by rw [h1]; rfl, h2⟩
    have hlen : ∀ cs ∈ (List.range l0).map (fun i => (w.cells? 0 (a.add (i * P.cellsOf e)) (P.cellsOf e)).getD []), cs.length = P.cellsOf e := by
      intro cs hcs
      obtain ⟨i, hi, rfl⟩ := List.mem_map.1 hcs
      obtain ⟨cs', h1, h2, h3⟩ := hC i (by have := List.mem_range.1 hi; omega)
      rw [← h2]; exact (World.cells?_some h1).2.1
    refine ⟨some a, l0, m, (List.range l0).map (fun i => (w.cells? 0 (a.add (i * P.cellsOf e)) (P.cellsOf e)).getD []), (List.range l0).map D, rfl, by simp, by simp,
      ⟨?_, hl, hm, fun h => (by cases h), fun ad ha j u hu => ?_⟩, fun i hi hj => ?_⟩
    · have : ∀ css : List (List Value), (∀ cs ∈ css, cs.length = P.cellsOf e) → css.flatten.length = css.length * P.cellsOf e := by
        intro css
        induction css with
        | nil => simp
        | cons c css ih => intro h; rw [List.flatten_cons, List.length_append, h c (by simp), ih (fun x hx => h x (by simp [hx])), List.length_cons, Nat.add_mul]; omega
      rw [this _ hlen]; simp
    · simp only [Option.some.injEq] at ha; subst ha
      have := flat_cell (w := w) (a := a) (size := P.cellsOf e) _ 0 hlen (fun i hi r hr => by
        simp only [List.length_map, List.length_range] at hi
        obtain ⟨cs', h1, h2, h3⟩ := hC i (by omega)
        have hh := (World.cells?_some h1).2.2 r hr
        rw [add_add] at hh
        rw [List.getElem_map, List.getElem_range, ← h2, Nat.zero_add]; exact hh) j u hu
      rwa [Nat.zero_mul, Nat.zero_add] at this
    · simp only [List.length_map, List.length_range] at hi
      obtain ⟨cs', h1, h2, h3⟩ := hC i (by omega)
      refine ⟨n, Pl i, ?_⟩
      rw [List.getElem_map, List.getElem_range, List.getElem_map, List.getElem_range, ← h2]; exact h3

/-- The cells of an element that is a slice. -/
theorem elem_slice_cells {P : Program} {t e : TypeId} {cs : List Value} {d : DataW H} (ht : P.underlying t = some (.slice e)) (h : Elem enc P w t cs d) : ∃ a0 l0 c0, cs = [Value.slice a0 l0 c0] := by
  obtain ⟨fuel, pl, hf⟩ := h
  rcases Deep.open_slice ht hf with ⟨hcs, hx⟩ | ⟨a, len, cap, m, n, D, Pl, hcs, _⟩
  · exact ⟨_, _, _, hcs⟩
  · exact ⟨_, _, _, hcs⟩

theorem elem_sl {P : Program} {t e : TypeId} {cs : List Value} {d : DataW H} (ht : P.underlying t = some (.slice e)) (h : Elem enc P w t cs d) :
    ∃ (a : Option Addr) (len cap : Nat) (css : List (List Value)) (els : List (DataW H)), cs = [.slice a len cap] ∧ css.length = len ∧ els.length = len ∧ Rd w a len cap (P.cellsOf e) css.flatten ∧
      (∀ i (hi : i < css.length) (hj : i < els.length), Elem enc P w e css[i] els[i]) := by
  obtain ⟨a0, l0, c0, hcs⟩ := elem_slice_cells ht h
  obtain ⟨a, len, cap, css, els, hv, h1, h2, h3, h4⟩ := elem_rows ht (v := .slice a0 l0 c0) ⟨_, _, _, rfl⟩ (by rw [hcs]; rfl) h
  exact ⟨a, len, cap, css, els, by rw [hcs, hv], h1, h2, h3, h4⟩

theorem list3 {α : Type} {l : List α} (h : l.length = 3) : ∃ a b c, l = [a, b, c] := by
  match l, h with
  | [a, b, c], _ => exact ⟨a, b, c, rfl⟩
theorem list4 {α : Type} {l : List α} (h : l.length = 4) : ∃ a b c d, l = [a, b, c, d] := by
  match l, h with
  | [a, b, c, d], _ => exact ⟨a, b, c, d, rfl⟩
theorem list5 {α : Type} {l : List α} (h : l.length = 5) : ∃ a b c d e, l = [a, b, c, d, e] := by
  match l, h with
  | [a, b, c, d, e], _ => exact ⟨a, b, c, d, e, rfl⟩

theorem k_int : Try.prog.cellsOf 3 = 1 := by kernel_rfl
theorem k_str : Try.prog.cellsOf 9 = 1 := by kernel_rfl
theorem k_bool : Try.prog.cellsOf 4 = 1 := by kernel_rfl
theorem k_val : Try.prog.cellsOf 40 = 3 := by kernel_rfl
theorem k_col : Try.prog.cellsOf 50 = 3 := by kernel_rfl
theorem k_ix : Try.prog.cellsOf 55 = 3 := by kernel_rfl
theorem k_chk : Try.prog.cellsOf 42 = 5 := by kernel_rfl
theorem k_tab : Try.prog.cellsOf 28 = 4 := by kernel_rfl
theorem k_ints : Try.prog.cellsOf 32 = 1 := by kernel_rfl
theorem k_cols : Try.prog.cellsOf 24 = 1 := by kernel_rfl
theorem k_ixs : Try.prog.cellsOf 25 = 1 := by kernel_rfl
theorem k_chks : Try.prog.cellsOf 26 = 1 := by kernel_rfl

/-- A slice of integers in a struct. -/
theorem elem_ints {cs : List Value} {d : DataW H} (h : Elem enc Try.prog w 32 cs d) : ∃ (a : Option Addr) (cap : Nat) (xs : List Int), cs = [.slice a xs.length cap] ∧ Rd w a xs.length cap 1 (intVals xs) := by
  obtain ⟨a, len, cap, css, els, rfl, h1, h2, hR, hE⟩ := elem_sl Try.underlying32 h
  obtain ⟨xs, rfl, rfl, _⟩ := open_all (fun x : Int => [Value.int .i64 x]) (fun x => DataW.lit (.int .i64 x)) (fun x => (Lit.int .i64 x).wf = true) (fun cs d h => elem_int Try.underlying3 h) css els (by omega) hE
  rw [List.length_map] at h1
  subst h1
  exact ⟨a, cap, xs, rfl, hR.rows1 k_int⟩

theorem elem_val {cs : List Value} {d : DataW H} (h : Elem enc Try.prog w 40 cs d) : ∃ x : Val × DataW H, cs = x.1.enc ∧ d = x.2 ∧ True := by
  obtain ⟨hl, els, hn, rfl, hf⟩ := elem_struct Try.underlying40 h
  rw [k_val] at hl
  obtain ⟨c0, c1, c2, rfl⟩ := list3 hl
  obtain ⟨_, h0⟩ := hf 0 _ rfl
  obtain ⟨_, h1⟩ := hf 1 _ rfl
  obtain ⟨_, h2⟩ := hf 2 _ rfl
  obtain ⟨x0, y0, _⟩ := elem_int Try.underlying3 h0
  obtain ⟨x1, y1, _⟩ := elem_int Try.underlying3 h1
  obtain ⟨x2, y2, _⟩ := elem_string Try.underlying9 h2
  simp [k_int, k_str] at y0 y1 y2
  subst y0 y1 y2
  exact ⟨(⟨x0, x1, x2⟩, _), rfl, rfl, trivial⟩
theorem elem_col {cs : List Value} {d : DataW H} (h : Elem enc Try.prog w 50 cs d) : ∃ x : Col × DataW H, cs = x.1.enc ∧ d = x.2 ∧ True := by
  obtain ⟨hl, els, hn, rfl, hf⟩ := elem_struct Try.underlying50 h
  rw [k_col] at hl
  obtain ⟨c0, c1, c2, rfl⟩ := list3 hl
  obtain ⟨_, h0⟩ := hf 0 _ rfl
  obtain ⟨_, h1⟩ := hf 1 _ rfl
  obtain ⟨_, h2⟩ := hf 2 _ rfl
  obtain ⟨x0, y0, _⟩ := elem_string Try.underlying9 h0
  obtain ⟨x1, y1, _⟩ := elem_int Try.underlying3 h1
  obtain ⟨x2, y2, _⟩ := elem_bool Try.underlying4 h2
  simp [k_int, k_str, k_bool] at y0 y1 y2
  subst y0 y1 y2
  exact ⟨(⟨x0, x1, x2⟩, _), rfl, rfl, trivial⟩
theorem elem_ix {cs : List Value} {d : DataW H} (h : Elem enc Try.prog w 55 cs d) : ∃ x : IxP × DataW H, cs = x.1.enc ∧ d = x.2 ∧ Rd w x.1.a x.1.x.cols.length x.1.cap 1 (intVals x.1.x.cols) := by
  obtain ⟨hl, els, hn, rfl, hf⟩ := elem_struct Try.underlying55 h
  rw [k_ix] at hl
  obtain ⟨c0, c1, c2, rfl⟩ := list3 hl
  obtain ⟨_, h0⟩ := hf 0 _ rfl
  obtain ⟨_, h1⟩ := hf 1 _ rfl
  obtain ⟨_, h2⟩ := hf 2 _ rfl
  obtain ⟨x0, y0, _⟩ := elem_string Try.underlying9 h0
  obtain ⟨a, cap, x1, y1, hR⟩ := elem_ints h1
  obtain ⟨x2, y2, _⟩ := elem_bool Try.underlying4 h2
  simp [k_ints, k_str, k_bool] at y0 y1 y2
  subst y0 y1 y2
  exact ⟨(⟨⟨x0, x1, x2⟩, a, cap⟩, _), rfl, rfl, hR⟩
theorem elem_chk {cs : List Value} {d : DataW H} (h : Elem enc Try.prog w 42 cs d) : ∃ x : Chk × DataW H, cs = x.1.enc ∧ d = x.2 ∧ True := by
  obtain ⟨hl, els, hn, rfl, hf⟩ := elem_struct Try.underlying42 h
  rw [k_chk] at hl
  obtain ⟨c0, c1, c2, c3, c4, rfl⟩ := list5 hl
  obtain ⟨_, h0⟩ := hf 0 _ rfl
  obtain ⟨_, h1⟩ := hf 1 _ rfl
  obtain ⟨_, h2⟩ := hf 2 _ rfl
  obtain ⟨x0, y0, _⟩ := elem_int Try.underlying3 h0
  obtain ⟨x1, y1, _⟩ := elem_int Try.underlying3 h1
  obtain ⟨⟨x2, _⟩, y2, _⟩ := elem_val h2
  simp [k_int, k_val, Val.enc] at y0 y1 y2
  obtain ⟨rfl, rfl, rfl⟩ := y2
  subst y0 y1
  exact ⟨(⟨x0, x1, x2⟩, _), rfl, rfl, trivial⟩

/-- A list of records in a struct. -/
theorem elem_recs {α : Type} {t e : TypeId} {cs : List Value} {d : DataW H} (f : α → List Value) (ok : α → Prop) (k : Nat) (ht : Try.prog.underlying t = some (.slice e)) (hk : Try.prog.cellsOf e = k) (hone : ∀ cs d, Elem enc Try.prog w e cs d → ∃ x : α × DataW H, cs = f x.1 ∧ d = x.2 ∧ ok x.1)
    (h : Elem enc Try.prog w t cs d) : ∃ (a : Option Addr) (cap : Nat) (xs : List α), cs = [.slice a xs.length cap] ∧ Rd w a xs.length cap k (recC f xs) ∧ ∀ x ∈ xs, ok x := by
  obtain ⟨a, len, cap, css, els, rfl, h1, h2, hR, hE⟩ := elem_sl ht h
  obtain ⟨xs, rfl, rfl, hok⟩ := open_all (fun x : α × DataW H => f x.1) (fun x => x.2) (fun x => ok x.1) hone css els (by omega) hE
  rw [List.length_map] at h1
  refine ⟨a, cap, xs.map (·.1), by rw [List.length_map, h1], ?_, fun x hx => ?_⟩
  · rw [List.length_map, h1]
    unfold recC
    rw [List.map_map, ← hk]
    exact hR
  · obtain ⟨y, hy, rfl⟩ := List.mem_map.1 hx
    exact hok y hy

set_option maxRecDepth 20000 in
/-- A table that came in. -/
theorem open_tab {v : Value} {d : DataW H} {p : List MemPlace} {r : Reach} {b0 : Nat} (hv : Value.okWide Try.prog w r b0 28 v) (h : DataW.Trod enc Try.prog w 0 (fun _ => true) true 28 v d p) : ∃ X : TabP, v = X.v ∧ TabRd w X := by
  obtain ⟨cs, rfl, hcs⟩ := okWide_struct Try.underlying28 hv
  obtain ⟨fuel, hf0⟩ := h
  obtain ⟨hl, els, hn, rfl, hf⟩ := elem_struct (enc := enc) (w := w) Try.underlying28 ⟨fuel, p, hf0⟩
  rw [k_tab] at hl
  obtain ⟨c0, c1, c2, c3, hcl⟩ := list4 hl
  rw [hcl] at hf
  obtain ⟨_, h0⟩ := hf 0 _ rfl
  obtain ⟨_, h1⟩ := hf 1 _ rfl
  obtain ⟨_, h2⟩ := hf 2 _ rfl
  obtain ⟨_, h3⟩ := hf 3 _ rfl
  obtain ⟨x0, y0, _⟩ := elem_string Try.underlying9 h0
  obtain ⟨a1, p1, x1, y1, r1, _⟩ := elem_recs Col.enc (fun _ => True) 3 Try.underlying24 k_col (fun cs d h => elem_col h) h1
  obtain ⟨a2, p2, x2, y2, r2, n2⟩ := elem_recs IxP.enc (fun x => Rd w x.a x.x.cols.length x.cap 1 (intVals x.x.cols)) 3 Try.underlying25 k_ix (fun cs d h => elem_ix h) h2
  obtain ⟨a3, p3, x3, y3, r3, _⟩ := elem_recs Chk.enc (fun _ => True) 5 Try.underlying26 k_chk (fun cs d h => elem_chk h) h3
  simp [k_cols, k_str, k_ixs, k_chks] at y0 y1 y2 y3
  subst y0 y1 y2 y3
  refine ⟨⟨x0, a1, p1, x1, a2, p2, x2, a3, p3, x3⟩, ?_, r1, r2, n2, r3⟩
  unfold TabP.v
  congr 1
  apply Array.toList_inj.1
  simpa [Value.cells] using hcl
set_option maxRecDepth 20000 in
/-- A row that came in. -/
theorem open_row {v : Value} {d : DataW H} {p : List MemPlace} {r : Reach} {b0 : Nat} (hv : Value.okWide Try.prog w r b0 37 v) (h : DataW.Trod enc Try.prog w 0 (fun _ => true) true 37 v d p) : ∃ (a : Option Addr) (cap : Nat) (r : List Val), v = .slice a r.length cap ∧ Rd w a r.length cap 3 (recC Val.enc r) := by
  obtain ⟨a0, l0, c0, rfl⟩ := okWide_slice Try.underlying37 hv
  obtain ⟨fuel, hf0⟩ := h
  obtain ⟨a, cap, xs, hc, hR, _⟩ := elem_recs Val.enc (fun _ => True) 3 Try.underlying37 k_val (fun cs d h => elem_val h) ⟨fuel, p, hf0⟩
  simp [Value.cells] at hc
  obtain ⟨rfl, rfl, rfl⟩ := hc
  exact ⟨_, _, xs, rfl, hR⟩
set_option maxRecDepth 20000 in
/-- A column that came in. -/
theorem open_col {v : Value} {d : DataW H} {p : List MemPlace} {r : Reach} {b0 : Nat} (hv : Value.okWide Try.prog w r b0 50 v) (h : DataW.Trod enc Try.prog w 0 (fun _ => true) true 50 v d p) : ∃ c : Col, v = c.v := by
  obtain ⟨cs, rfl, hcs⟩ := okWide_struct Try.underlying50 hv
  obtain ⟨fuel, hf0⟩ := h
  obtain ⟨⟨x, _⟩, hx, _⟩ := elem_col (enc := enc) (w := w) ⟨fuel, p, hf0⟩
  refine ⟨x, ?_⟩
  unfold Col.v
  congr 1
  apply Array.toList_inj.1
  simpa [Value.cells, Col.enc] using hx
set_option maxRecDepth 20000 in
/-- An index that came in. -/
theorem open_ix {v : Value} {d : DataW H} {p : List MemPlace} {r : Reach} {b0 : Nat} (hv : Value.okWide Try.prog w r b0 55 v) (h : DataW.Trod enc Try.prog w 0 (fun _ => true) true 55 v d p) : ∃ x : IxP, v = x.v ∧ Rd w x.a x.x.cols.length x.cap 1 (intVals x.x.cols) := by
  obtain ⟨cs, rfl, hcs⟩ := okWide_struct Try.underlying55 hv
  obtain ⟨fuel, hf0⟩ := h
  obtain ⟨⟨x, _⟩, hx, _, hR⟩ := elem_ix (enc := enc) (w := w) ⟨fuel, p, hf0⟩
  refine ⟨x, ?_, hR⟩
  unfold IxP.v
  congr 1
  apply Array.toList_inj.1
  simpa [Value.cells, IxP.enc] using hx
end
end Go.Proofs.Ytgimkipekoabbaa

/-
  The walks of the reference's Text and constant. No condition.
-/
namespace Go.Proofs.Ytgimkipekoabbaa
open Go.RowKit

/-- A list of integers of the call's own. -/
def RetL (L : List Int) (w : World) (e : Ending) (w' : World) : Prop := Below w.heap.size w w' ∧ ∃ a cap, e = .returned (.slice a L.length cap) ∧ w'.ownsRow w.heap.size 3 1 (.slice a L.length cap) L.length (intVals L)

set_option maxRecDepth 20000 in
set_option maxHeartbeats 4000000 in
theorem rtext_any (s : List UInt8) (w : World) (hs : s.length ≤ 100000) : Calls Try.prog 56 #[.string ⟨s.toArray⟩] w (RetL (textW s) w) := by
  have hz : (⟨s.toArray⟩ : ByteArray).size = s.length := str_size s
  go_enter Try.func56, Try.ntmps56
  go_wp2_with fail
  go_loopw [3, 4] (fun v i wr => ∃ (k : Nat) (a : Option Addr) (cap : Nat), k ≤ nWords s.length ∧ i = .int .i64 (5 * k : Nat) ∧ v = .slice a k cap ∧ wr.ownsRow w.heap.size 3 1 (.slice a k cap) k (intVals (textUp s k)) ∧ Below w.heap.size w wr) (fun _ i _ => s.length + 5 - (intOf i).toNat)
  case atStart => exact ⟨0, none, 0, Nat.zero_le _, rfl, rfl, World.ownsRow_nil _ _ _ _, Below.refl _ _⟩
  case round =>
    obtain ⟨k, a, cap, hk, rfl, rfl, hown, hbel⟩ := hrel
    by_cases hlt : 5 * k < s.length
    · obtain ⟨p, hp⟩ : ∃ p, p = 5 * k := ⟨_, rfl⟩
      have HP := Box.mk hp
      have hkn := lt_nWords hlt
      have hup := Box.mk (textUp_succ s k)
      have hp5 := Box.mk (show ((5 * (k + 1) : Nat) : Int) = (p : Int) + 5 from by omega)
      rw [← hp] at hlt ⊢
      clear hp
      have HO := Box.mk (And.intro hown hbel)
      clear hown hbel
      go_wp2_with fail
      go_loopw [5, 6] (fun v j wr2 => ∃ m : Nat, m ≤ 5 ∧ j = .int .i64 m ∧ v = .int .i64 (wordTo s k m : Nat) ∧ wr2 = wr) (fun _ j _ => 5 - (intOf j).toNat)
      case atStart => exact ⟨0, by omega, rfl, rfl, rfl⟩
      case round =>
        obtain ⟨m, hm, rfl, rfl, rfl⟩ := hrel
        by_cases hm5 : m < 5
        · have hwlt := wordTo_lt5 s k m hm5
          by_cases hpm : p + m < s.length
          · have hst : Box (wordTo s k (m + 1) = wordTo s k m * 256 + (s.getD (p + m) 0).toNat) := ⟨by rw [HP.out]; rfl⟩
            have hy := (s.getD (p + m) 0).toNat_lt
            have hix := run_index_str (P := Try.prog) (t := 9) (by kernel_rfl) s .i64 (p + m) hpm wr
            rw [show ((p + m : Nat) : Int) = (p : Int) + (m : Int) from by omega] at hix
            generalize (s.getD (p + m) 0).toNat = y at *
            generalize hv : wordTo s k m = v at *
            clear hv
            go_wp2_with fail
            refine ⟨⟨m + 1, by omega, by go_num, ?_, trivial⟩, by simp [intOf]; omega⟩
            rw [hst.out]; go_num
          · have hst : Box (wordTo s k (m + 1) = wordTo s k m * 256) := ⟨by
              have h1 := HP.out
              show wordTo s k m * 256 + (s.getD (5 * k + m) 0).toNat = _
              rw [List.getD_eq_getElem?_getD, List.getElem?_eq_none (by omega)]; rfl⟩
            generalize hv : wordTo s k m = v at *
            clear hv
            go_wp2_with fail
            refine ⟨⟨m + 1, by omega, by go_num, ?_, trivial⟩, by simp [intOf]; omega⟩
            rw [hst.out]; go_num
        · obtain rfl : m = 5 := by omega
          have hwd := Box.mk (show ((wordTo s k 5 : Nat) : Int) = wordAt s k from rfl)
          obtain ⟨hown, hbel⟩ := HO.out
          have hsz := hbel.size
          have hkl : k ≤ 20000 := by have := HP.out; omega
          go_wp2_with (at_builtin; refine wpList_append_src rfl _ _ 32 32 rfl sl_int (.inl sl_int.ht) rfl (hown.alloc _) rfl (Src.oneNew _ _ _ rfl) (by omega) (by unfold maxLen; omega) (by simp; omega) ?_; intro a3 cap3 w3 hown3 hgr3 _)
          have hb3 := below_grown (hbel.alloc hsz _) hgr3 (hown.alloc _) (Nat.le_refl _) (by simp; omega)
          refine ⟨⟨k + 1, a3, cap3, hkn, by rw [hp5.out], rfl, ?_, hb3⟩, by simp [intOf]; omega⟩
          rw [hup.out]
          simpa [intVals, hwd.out] using hown3
    · have hkn := nWords_le hlt hk
      subst hkn
      go_wp2_with fail
      go_ret
      refine ⟨hbel, a, cap, ?_, ?_⟩
      · rw [textW_length]; rfl
      · rw [textW_length]; exact hown

set_option maxRecDepth 20000 in
set_option maxHeartbeats 4000000 in
theorem rconst_any (k n : Int) (s : List UInt8) (w : World) (hk1 : k = 1 → -549755813888 ≤ n ∧ n ≤ 549755813887) (hs : s.length ≤ 1000) : Calls Try.prog 58 #[.agg #[.int .i64 k, .int .i64 n, .string ⟨s.toArray⟩]] w (RetL (valW ⟨k, n, s⟩) w) := by
  have hz : (⟨s.toArray⟩ : ByteArray).size = s.length := str_size s
  have HT := Box.mk (fun w => rtext_any s w (by omega))
  by_cases h1 : k = 1
  · subst h1
    have hn := hk1 rfl
    have HV := Box.mk (show valW ⟨1, n, s⟩ = [n + 549755813888] from rfl)
    go_enter Try.func58, Try.ntmps58
    go_wp2_with fail
    go_ret
    rw [HV.out]
    exact ⟨((Below.refl _ _).alloc (Nat.le_refl _) _).alloc (by simp) _, _, 1, rfl, own_new (Blk.new (by simp) rfl) (by simp) rfl (by simp [maxLen])⟩
  · by_cases h3 : k = 3
    · subst h3
      have HV := Box.mk (show valW ⟨3, n, s⟩ = [n] from rfl)
      clear h1 hk1
      go_enter Try.func58, Try.ntmps58
      go_wp2_with fail
      go_ret
      rw [HV.out]
      exact ⟨((Below.refl _ _).alloc (Nat.le_refl _) _).alloc (by simp) _, _, 1, rfl, own_new (Blk.new (by simp) rfl) (by simp) rfl (by simp [maxLen])⟩
    · have HV := Box.mk (show valW ⟨k, n, s⟩ = [(s.length : Int)] ++ textW s from by unfold valW; rw [if_neg h1, if_neg h3])
      have t1 : (k == 1) = false := by simp [h1]
      have t3 : (k == 3) = false := by simp [h3]
      clear h1 h3 hk1
      have hw0 : ((w.alloc (.cells #[.int .i64 k, .int .i64 n, .string ⟨s.toArray⟩] 40)).alloc (.cells #[.int .i64 (s.length : Int)] 3)).ownsRow w.heap.size 3 1 (.slice (some ⟨w.heap.size + 1, 0, none⟩) 1 1) 1 [.int .i64 (s.length : Int)] := own_new (Blk.new (by simp) rfl) (by simp) rfl (by simp [maxLen])
      have hB0 : Below w.heap.size w ((w.alloc (.cells #[.int .i64 k, .int .i64 n, .string ⟨s.toArray⟩] 40)).alloc (.cells #[.int .i64 (s.length : Int)] 3)) := ((Below.refl _ _).alloc (Nat.le_refl _) _).alloc (by simp) _
      have b0 := ((Blk.new (w := w) (k := w.heap.size) (ty := 40) (cs := [.int .i64 k, .int .i64 n, .string ⟨s.toArray⟩]) rfl rfl).alloc (.cells #[.int .i64 (s.length : Int)] 3)).cellOf (i := 2) rfl
      have HW0 := Box.mk (And.intro hw0 hB0)
      clear hw0 hB0
      go_enter Try.func58, Try.ntmps58
      go_wp2_with fail
      refine (HT.out _).mono ?_
      rintro e w2 ⟨hb, ta, tc, rfl, hown2⟩
      obtain ⟨hown, hB⟩ := HW0.out
      have hown' := own_below hown hb (Nat.le_refl _)
      have hB2 := hB.trans (hb.mono hB.size)
      have hl : (textW s).length ≤ 200 := by rw [textW_length]; unfold nWords; omega
      generalize textW s = M at *
      go_wp2_with (at_builtin; refine wpList_append_src rfl _ _ 32 32 rfl sl_int (.inl sl_int.ht) rfl hown' rfl (Src.ofRd (Rd.ofOwn hown2) (intVals_one _)) (by omega) (by unfold maxLen; omega) (by have := hB2.size; omega) ?_; intro a3 cap3 w3 hown3 hgr3 _)
      go_ret
      have hb3 := below_grown hB2 hgr3 hown' (Nat.le_refl _) (by have := hB2.size; omega)
      have hlen : ([(s.length : Int)] ++ M).length = 1 + M.length := by simp; omega
      rw [HV.out]
      refine ⟨hb3, a3, cap3, ?_, ?_⟩
      · rw [hlen]; rfl
      · rw [hlen]; simpa [intVals] using hown3
end Go.Proofs.Ytgimkipekoabbaa
