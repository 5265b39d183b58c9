/-
  The walk of sanity. No condition.
-/
import Derived.Test.YtgimkipekoabbaaWWords
namespace Go.Proofs.Ytgimkipekoabbaa
open Go.RowKit

/-- The tables that sanity plays. -/
def X0 (g : Nat) : TabP := ⟨[116], some ⟨g, 0, none⟩, 1, [⟨[97], 1, true⟩], none, 0, [], none, 0, []⟩
def X1 (g h : Nat) : TabP := ⟨[116], some ⟨g, 0, none⟩, 1, [⟨[97], 1, true⟩], none, 0, [], some ⟨h, 0, none⟩, 1, [⟨0, 10, ⟨1, 3, []⟩⟩]⟩
theorem check0 (g : Nat) : checkT (X0 g).t = 0 := by show checkT (X0 0).t = 0; decide
theorem check1 (g h : Nat) : checkT (X1 g h).t = 0 := by show checkT (X1 0 0).t = 0; decide
theorem words0 (g : Nat) : wordsT (X0 g).t = [4097, 498216206336, 13, 416611827712] := by show wordsT (X0 0).t = _; decide
theorem fits0a (g : Nat) : fitsT (X0 g).t [⟨0, 0, []⟩] = 0 := by show fitsT (X0 0).t _ = _; decide
theorem fits0b (g : Nat) : fitsT (X0 g).t [⟨2, 0, []⟩] = 7 := by show fitsT (X0 0).t _ = _; decide
theorem fits0c (g : Nat) : fitsT (X0 g).t [] = 1 := by show fitsT (X0 0).t _ = _; decide
theorem fits1a (g h : Nat) : fitsT (X1 g h).t [⟨1, 3, []⟩] = 201 := by show fitsT (X1 0 0).t _ = _; decide
theorem fits1b (g h : Nat) : fitsT (X1 g h).t [⟨1, 4, []⟩] = 0 := by show fitsT (X1 0 0).t _ = _; decide
theorem fits1c (g h : Nat) : fitsT (X1 g h).t [⟨0, 0, []⟩] = 0 := by show fitsT (X1 0 0).t _ = _; decide

theorem rd_rec {α : Type} {enc : α → List Value} {k : Nat} {w : World} {g : Nat} {ty : TypeId} {l : List α} (hk : ∀ x, (enc x).length = k) (h : Blk w g ty (recC enc l)) (hl : l.length ≤ maxLen) : Rd w (some ⟨g, 0, none⟩) l.length l.length k (recC enc l) :=
  Rd.ofOwn (own_new (base := 0) h (Nat.zero_le _) (by rw [recC_length hk]) hl)
theorem rd_nil (w : World) (k : Nat) : Rd w none 0 0 k [] := ⟨by simp, Nat.le_refl _, by decide, fun _ => rfl, fun ad ha => by cases ha⟩
theorem tab0 {w : World} {g : Nat} (h : Blk w g 50 [.string ⟨#[97]⟩, .int .i64 1, .bool true]) : TabRd w (X0 g) :=
  ⟨rd_rec (l := [(⟨[97], 1, true⟩ : Col)]) Col.enc_len h (by decide), rd_nil _ _, by simp [X0], rd_nil _ _⟩
theorem tab1 {w : World} {g gh : Nat} (h : Blk w g 50 [.string ⟨#[97]⟩, .int .i64 1, .bool true]) (h2 : Blk w gh 42 [.int .i64 0, .int .i64 10, .int .i64 1, .int .i64 3, .string ⟨#[]⟩]) : TabRd w (X1 g gh) :=
  ⟨rd_rec (l := [(⟨[97], 1, true⟩ : Col)]) Col.enc_len h (by decide), rd_nil _ _, by simp [X1], rd_rec (l := [(⟨0, 10, ⟨1, 3, []⟩⟩ : Chk)]) Chk.enc_len h2 (by decide)⟩

/-- Fits at a row of one value in a new block. -/
theorem fits_row {X : TabP} {w : World} (hr : TabRd w X) (v : Val) {E : Int} (hE : fitsT X.t [v] = E) {k : Nat} (hk : k = w.heap.size) :
    Calls Try.prog 24 #[X.v, .slice (some ⟨k, 0, none⟩) 1 1] (w.alloc (.cells v.enc.toArray 40)) (fun e w' => e = .returned (.int .i64 E) ∧ Below w.heap.size w w') := by
  subst hE; subst hk
  have hrd := rd_rec (l := [v]) (w := w.alloc (.cells v.enc.toArray 40)) (ty := 40) (g := w.heap.size) Val.enc_len (Blk.new rfl (by simp [recC])) (by simp [maxLen])
  refine (fits_any X [v] _ 1 1 _ (hr.alloc _) hrd).mono ?_
  rintro e w' ⟨rfl, hb⟩
  exact ⟨rfl, ((Below.refl _ _).alloc (Nat.le_refl _) _).trans (hb.mono (by simp))⟩
theorem fits_nil {X : TabP} {w : World} (hr : TabRd w X) {E : Int} (hE : fitsT X.t [] = E) :
    Calls Try.prog 24 #[X.v, .slice none 0 0] w (fun e w' => e = .returned (.int .i64 E) ∧ Below w.heap.size w w') := by
  subst hE
  refine (fits_any X [] none 0 0 w hr (rd_nil _ _)).mono ?_
  rintro e w' ⟨rfl, hb⟩
  exact ⟨rfl, hb⟩

theorem nameb {s : List UInt8} {b : Bool} (h : nameB s = b) (w : World) : Calls Try.prog 16 #[.string ⟨s.toArray⟩] w fun e w' => e = .returned (.bool b) ∧ Below w.heap.size w w' := name_is h w

set_option maxRecDepth 20000 in
set_option maxHeartbeats 4000000 in
theorem sanity_any (w : World) : Calls Try.prog 15 #[] w (RetV (.bool true) w) := by
  have S0 : TabIn w ((w.alloc (.cells #[.string ⟨#[97]⟩, .int .i64 1, .bool true] 50)).alloc (.cells #[.string ⟨#[116]⟩, .slice (some ⟨w.heap.size, 0, none⟩) 1 1, .slice none 0 0, .slice none 0 0] 28)) (w.heap.size + 1) (X0 w.heap.size) :=
    ⟨Blk.new (by simp) rfl, (tab0 (Blk.new rfl rfl)).alloc _, ((Below.refl _ _).alloc (Nat.le_refl _) _).alloc (by simp) _⟩
  have B0 : Blk ((w.alloc (.cells #[.string ⟨#[97]⟩, .int .i64 1, .bool true] 50)).alloc (.cells #[.string ⟨#[116]⟩, .slice (some ⟨w.heap.size, 0, none⟩) 1 1, .slice none 0 0, .slice none 0 0] 28)) w.heap.size 50 [.string ⟨#[97]⟩, .int .i64 1, .bool true] := (Blk.new rfl rfl).alloc _
  have S := Box.mk (And.intro S0 B0)
  clear S0 B0
  go_enter Try.func15, Try.ntmps15
  go_wp2_with fail
  have hww : ∃ W1, (w.alloc (.cells #[.string ⟨#[97]⟩, .int .i64 1, .bool true] 50)).alloc (.cells #[.string ⟨#[116]⟩, .slice (some ⟨w.heap.size, 0, none⟩) 1 1, .slice none 0 0, .slice none 0 0] 28) = W1 := ⟨_, rfl⟩
  obtain ⟨W1, hW1⟩ := hww
  rw [hW1] at S ⊢
  clear hW1
  refine (nameb (s := [97]) (b := true) (by decide) _).mono ?_
  rintro e W2 ⟨rfl, hb⟩
  replace S := Box.mk (And.intro (S.out.1.step hb) (S.out.2.call0 hb))
  clear hb
  go_wp2_with fail
  refine (nameb (s := [97, 95, 49]) (b := true) (by decide) _).mono ?_
  rintro e W3 ⟨rfl, hb⟩
  replace S := Box.mk (And.intro (S.out.1.step hb) (S.out.2.call0 hb))
  clear hb
  go_wp2_with fail
  refine (nameb (s := [65]) (b := false) (by decide) _).mono ?_
  rintro e W4 ⟨rfl, hb⟩
  replace S := Box.mk (And.intro (S.out.1.step hb) (S.out.2.call0 hb))
  clear hb
  go_wp2_with fail
  refine (nameb (s := [49, 97]) (b := false) (by decide) _).mono ?_
  rintro e W5 ⟨rfl, hb⟩
  replace S := Box.mk (And.intro (S.out.1.step hb) (S.out.2.call0 hb))
  clear hb
  go_wp2_with fail
  refine (nameb (s := [115, 101, 108, 101, 99, 116]) (b := false) (by decide) _).mono ?_
  rintro e W6 ⟨rfl, hb⟩
  replace S := Box.mk (And.intro (S.out.1.step hb) (S.out.2.call0 hb))
  clear hb
  go_wp2_with fail
  refine (nameb (s := []) (b := false) (by decide) _).mono ?_
  rintro e W7 ⟨rfl, hb⟩
  replace S := Box.mk (And.intro (S.out.1.step hb) (S.out.2.call0 hb))
  clear hb
  have x0 := S.out.1.c0
  have x1 := S.out.1.c1
  have x2 := S.out.1.c2
  have x3 := S.out.1.c3
  go_wp2_with fail
  refine (words_any (X0 w.heap.size) W7 S.out.1.rd).mono ?_
  rintro e W8 ⟨hb, la, ln, lc, he, hrd⟩
  rw [check0] at he
  rw [if_pos (check0 _), words0] at hrd
  subst he
  have T := Box.mk (And.intro (S.out.1.step hb) (And.intro (S.out.2.call0 hb) hrd))
  clear hb S hrd x0 x1 x2 x3
  have x0 := T.out.1.c0
  have x1 := T.out.1.c1
  have x2 := T.out.1.c2
  have x3 := T.out.1.c3
  go_wp2_with fail
  refine (fits_row T.out.1.rd ⟨0, 0, []⟩ (fits0a _) rfl).mono ?_
  rintro e W9 ⟨rfl, hb⟩
  replace T := Box.mk (And.intro (T.out.1.step hb) (And.intro (T.out.2.1.call0 hb) (T.out.2.2.call0 hb)))
  clear hb x0 x1 x2 x3
  have x0 := T.out.1.c0
  have x1 := T.out.1.c1
  have x2 := T.out.1.c2
  have x3 := T.out.1.c3
  go_wp2_with fail
  refine (fits_row T.out.1.rd ⟨2, 0, []⟩ (fits0b _) rfl).mono ?_
  rintro e W10 ⟨rfl, hb⟩
  replace T := Box.mk (And.intro (T.out.1.step hb) (And.intro (T.out.2.1.call0 hb) (T.out.2.2.call0 hb)))
  clear hb x0 x1 x2 x3
  have x0 := T.out.1.c0
  have x1 := T.out.1.c1
  have x2 := T.out.1.c2
  have x3 := T.out.1.c3
  go_wp2_with fail
  refine (fits_nil T.out.1.rd (fits0c _)).mono ?_
  rintro e W11 ⟨rfl, hb⟩
  replace T := Box.mk (And.intro (T.out.1.step hb) (And.intro (T.out.2.1.call0 hb) (T.out.2.2.call0 hb)))
  clear hb x0 x1 x2 x3
  have x0 := T.out.1.c0
  have x1 := T.out.1.c1
  have x2 := T.out.1.c2
  have x3 := T.out.1.c3
  go_wp2_with fail
  obtain ⟨V, hV⟩ : ∃ V, V = ((W11.alloc (.cells #[.string ⟨(X0 w.heap.size).name.toArray⟩, .slice (X0 w.heap.size).ca (X0 w.heap.size).cols.length (X0 w.heap.size).cc, .slice (X0 w.heap.size).ia (X0 w.heap.size).ixs.length (X0 w.heap.size).ic, .slice (some ⟨W11.heap.size + 1, 0, none⟩) 1 1] 28)).alloc (.cells #[.int .i64 0, .int .i64 10, .int .i64 1, .int .i64 3, .string ⟨#[]⟩] 42)) := ⟨_, rfl⟩
  have hVs : W11.heap.size + 1 + 1 = V.heap.size := by rw [hV]; simp
  have TV : TabIn w V W11.heap.size (X1 w.heap.size (W11.heap.size + 1)) ∧ Rd V la ln lc 1 (intVals [4097, 498216206336, 13, 416611827712]) := by
    subst hV
    have b1 := (T.out.2.1.alloc (.cells #[.string ⟨(X0 w.heap.size).name.toArray⟩, .slice (X0 w.heap.size).ca (X0 w.heap.size).cols.length (X0 w.heap.size).cc, .slice (X0 w.heap.size).ia (X0 w.heap.size).ixs.length (X0 w.heap.size).ic, .slice (some ⟨W11.heap.size + 1, 0, none⟩) 1 1] 28)).alloc (.cells #[.int .i64 0, .int .i64 10, .int .i64 1, .int .i64 3, .string ⟨#[]⟩] 42)
    exact ⟨⟨(Blk.new rfl rfl).alloc _, tab1 b1 (Blk.new (by simp) rfl), (T.out.1.below.alloc T.out.1.below.size _).alloc (by have := T.out.1.below.size; simp; omega) _⟩, (T.out.2.2.alloc _).alloc _⟩
  rw [← hV]
  clear hV T x0 x1 x2 x3
  have T := Box.mk TV
  clear TV
  generalize W11.heap.size = g2 at *
  refine (fits_row T.out.1.rd ⟨1, 3, []⟩ (fits1a _ _) hVs).mono ?_
  rintro e W12 ⟨rfl, hb⟩
  clear hVs
  replace T := Box.mk (And.intro (T.out.1.step hb) (T.out.2.call0 hb))
  clear hb
  have x0 := T.out.1.c0
  have x1 := T.out.1.c1
  have x2 := T.out.1.c2
  have x3 := T.out.1.c3
  go_wp2_with fail
  refine (fits_row T.out.1.rd ⟨1, 4, []⟩ (fits1b _ _) rfl).mono ?_
  rintro e W13 ⟨rfl, hb⟩
  replace T := Box.mk (And.intro (T.out.1.step hb) (T.out.2.call0 hb))
  clear hb x0 x1 x2 x3
  have x0 := T.out.1.c0
  have x1 := T.out.1.c1
  have x2 := T.out.1.c2
  have x3 := T.out.1.c3
  go_wp2_with fail
  refine (fits_row T.out.1.rd ⟨0, 0, []⟩ (fits1c _ _) rfl).mono ?_
  rintro e W14 ⟨rfl, hb⟩
  replace T := Box.mk (And.intro (T.out.1.step hb) (T.out.2.call0 hb))
  clear hb x0 x1 x2 x3
  go_wp2_with fail
  refine (sameInts_any [4097, 498216206336, 13, 416611827712] [4097, 498216206336, 13, 416611827712] _ _ _ 4 _ 4 _ (T.out.2.alloc _) (Rd.ofOwn (own_new (e := 3) (base := 0) (Blk.new (w := W14) (cs := intVals [4097, 498216206336, 13, 416611827712]) rfl rfl) (Nat.zero_le _) rfl (by decide)))).mono ?_
  rintro e W15 ⟨rfl, q, hq⟩
  replace T := Box.mk (show TabIn w W15 g2 (X1 w.heap.size (g2 + 1)) from by rw [hq]; exact (T.out.1.alloc _).drewN q)
  clear hq
  have x0 := T.out.c0
  have x1 := T.out.c1
  have x2 := T.out.c2
  have x3 := T.out.c3
  go_wp2_with fail
  refine (check_is (X := X1 w.heap.size (g2 + 1)) (check1 _ _) T.out.rd).mono ?_
  rintro e W16 ⟨rfl, hb⟩
  replace T := Box.mk (T.out.step hb)
  clear hb x0 x1 x2 x3
  go_wp2_with fail
  go_ret
  exact ⟨rfl, T.out.below⟩
end Go.Proofs.Ytgimkipekoabbaa
