/-
  The reference's Parse; the walk of SchemaParseMatchesSpec. No condition.
-/
import Derived.Test.YtgimkipekoabbaaWGs
import Derived.Test.YtgimkipekoabbaaLRt
namespace Go.Proofs.Ytgimkipekoabbaa
open Go.RowKit

theorem gW_of {lim : Int} {l l' : List Int} {n : Int} (h : rdW lim l = some (n, l')) : gW l = (n, l') := by
  obtain ⟨rfl, h0, _⟩ := rdW_some h
  show (if 0 ≤ n then n else 0, l') = _
  rw [if_pos h0]
theorem gBy_of : ∀ {k : Nat} {l : List Int} {p : List UInt8 × List Int}, rdB l k = some p → gBy l k = p
  | 0, l, p, h => by simp only [rdB, Option.some.injEq] at h; exact h
  | k + 1, l, p, h => by
    unfold rdB at h
    obtain ⟨q, h1, h2⟩ := Option.bind_eq_some_iff.1 h
    obtain ⟨r, h3, rfl⟩ := Option.map_eq_some_iff.1 h2
    unfold gBy
    rw [gBy_of h1, gW_of (n := r.1) (l' := r.2) h3]
theorem gT_of {n : Nat} {l : List Int} {p : List UInt8 × List Int} (h : rdT n l = some p) (hn : n ≤ 64) : gT n l = p := by
  unfold rdT at h
  obtain ⟨q, h1, h2⟩ := Option.bind_eq_some_iff.1 h
  split at h2
  · simp only [Option.some.injEq] at h2
    unfold gT
    rw [if_pos hn, gBy_of h1]; exact h2
  · cases h2
theorem gV_of {k : Int} {l : List Int} {p : Val × List Int} (h : rdV k l = some p) : gV k l = p := by
  unfold rdV at h
  unfold gV
  split at h
  · rename_i h1
    obtain ⟨⟨m, l1⟩, h2, rfl⟩ := Option.map_eq_some_iff.1 h
    rw [if_pos h1, gW_of h2]
  · rename_i h1
    rw [if_neg h1]
    split at h
    · rename_i h3
      obtain ⟨⟨m, l1⟩, h2, rfl⟩ := Option.map_eq_some_iff.1 h
      rw [if_pos h3, gW_of h2]
    · rename_i h3
      obtain ⟨⟨m, l1⟩, h2, h4⟩ := Option.bind_eq_some_iff.1 h
      obtain ⟨⟨s, l2⟩, h5, rfl⟩ := Option.map_eq_some_iff.1 h4
      have := (rdW_some h2).2
      rw [if_neg h3, gW_of h2]
      simp only at h5 ⊢
      rw [gT_of h5 (by omega)]
theorem gC_of {l : List Int} {p : Col × List Int} (h : rdC l = some p) : gC l = p := by
  unfold rdC at h
  obtain ⟨⟨m, l1⟩, h2, h4⟩ := Option.bind_eq_some_iff.1 h
  obtain ⟨⟨s, l2⟩, h5, rfl⟩ := Option.map_eq_some_iff.1 h4
  have := (rdW_some h2).2
  exact gC_eq (gW_of h2) (gT_of h5 (by show (m / 8).toNat ≤ 64; omega))
theorem gI_of {l : List Int} {p : Ix × List Int} (h : rdI l = some p) : gI l = p := by
  unfold rdI at h
  obtain ⟨⟨m, l1⟩, h1, h2⟩ := Option.bind_eq_some_iff.1 h
  obtain ⟨⟨c, l2⟩, h3, h4⟩ := Option.bind_eq_some_iff.1 h2
  obtain ⟨⟨s, l3⟩, h5, h6⟩ := Option.bind_eq_some_iff.1 h4
  have := (rdW_some h1).2
  split at h6
  · simp only [Option.some.injEq] at h6
    subst h6
    exact gI_eq (gW_of h1) (gW_of h3) (gT_of h5 (by show (m / 32).toNat ≤ 64; omega))
  · cases h6
theorem gK_of {cols : List Col} {l : List Int} {p : Chk × List Int} (h : rdK cols l = some p) : gK cols l = p := by
  unfold rdK at h
  obtain ⟨⟨m, l1⟩, h1, h2⟩ := Option.bind_eq_some_iff.1 h
  split at h2
  · cases h2
  · rename_i hc
    obtain ⟨⟨v, l2⟩, h3, rfl⟩ := Option.map_eq_some_iff.1 h2
    simp only at hc
    exact gK_eq (gW_of h1) (if_pos (by omega)) (gV_of h3)
theorem gMany_of {α : Type} {f : List Int → Option (α × List Int)} {g : List Int → α × List Int} (hf : ∀ l p, f l = some p → g l = p) : ∀ {k : Nat} {l : List Int} {p : List α × List Int}, rdMany f l k = some p → gMany g l k = p
  | 0, l, p, h => by simp only [rdMany, Option.some.injEq] at h; exact h
  | k + 1, l, p, h => by
    unfold rdMany at h
    obtain ⟨q, h1, h2⟩ := Option.bind_eq_some_iff.1 h
    obtain ⟨r, h3, rfl⟩ := Option.map_eq_some_iff.1 h2
    unfold gMany
    rw [gMany_of hf h1, hf _ _ h3]
theorem guess_of {l : List Int} {T : Tab} (h : parseT l = some T) : guessT l = T := by
  unfold parseT at h
  obtain ⟨⟨hd, l1⟩, h1, h2⟩ := Option.bind_eq_some_iff.1 h
  obtain ⟨⟨nm, l2⟩, h3, h4⟩ := Option.bind_eq_some_iff.1 h2
  obtain ⟨⟨cs, l3⟩, h5, h6⟩ := Option.bind_eq_some_iff.1 h4
  obtain ⟨⟨xs, l4⟩, h7, h8⟩ := Option.bind_eq_some_iff.1 h6
  obtain ⟨⟨ks, l5⟩, h9, h10⟩ := Option.bind_eq_some_iff.1 h8
  split at h10
  · simp only [Option.some.injEq] at h10
    subst h10
    have hb := (rdW_some h1).2
    have e0 : gHead l = hd := by unfold gHead; rw [gW_of h1]
    have e1 : gName l = (nm, l2) := by unfold gName; rw [e0, gW_of h1]; exact gT_of h3 (by show (hd / 4096).toNat ≤ 64; omega)
    have e2 : gCols l = (cs, l3) := by unfold gCols; rw [e0, e1]; exact gMany_of (fun _ _ => gC_of) h5
    have e3 : gIxs l = (xs, l4) := by unfold gIxs; rw [e0, e2]; exact gMany_of (fun _ _ => gI_of) h7
    have e4 : gChks l = (ks, l5) := by unfold gChks; rw [e0, e2, e3]; exact gMany_of (fun _ _ => gK_of) h9
    unfold guessT
    rw [e1, e2, e3, e4]
  · cases h10
/-- What the reference's Parse finds. -/
theorem parse_spec (l : List Int) : parseT l = if checkT (guessT l) = 0 ∧ wordsT (guessT l) = l then some (guessT l) else none := by
  cases h : parseT l with
  | some T =>
    obtain ⟨h1, h2, _⟩ := parseT_inv h
    have h3 := guess_of h
    subst h3
    rw [if_pos ⟨h1, h2⟩]
  | none =>
    rw [if_neg]
    rintro ⟨h1, h2⟩
    have := parseT_up h1
    rw [h2, h] at this
    cases this

set_option maxRecDepth 20000 in
set_option maxHeartbeats 4000000 in
theorem rparse_any {a : Option Addr} {n c : Nat} {l : List Int} {w : World} (hr : Rd w a n c 1 (intVals l)) (hwf : ∀ x ∈ l, x < 9223372036854775808) : Calls Try.prog 41 #[.slice a n c] w (RetP (parseT l) w) := by
  obtain rfl : l.length = n := hr.ilen
  have HS := Box.mk (parse_spec l)
  generalize hO : parseT l = O
  rw [hO] at HS
  clear hO
  have HR := Box.mk hr
  have HW := Box.mk hwf
  clear hr hwf
  go_enter Try.func41, Try.ntmps41
  go_wp2_with fail
  have HZ := Box.mk (Blk.new (w := w) (k := w.heap.size) (ty := 28) (arr := #[.string ⟨#[]⟩, .slice none 0 0, .slice none 0 0, .slice none 0 0]) (cs := [.string ⟨#[]⟩, .slice none 0 0, .slice none 0 0, .slice none 0 0]) rfl rfl)
  have HB := Box.mk ((Below.refl w.heap.size w).alloc (Nat.le_refl _) (.cells #[.string ⟨#[]⟩, .slice none 0 0, .slice none 0 0, .slice none 0 0] 28))
  replace HR := Box.mk (HR.out.below HB.out (Nat.le_refl _))
  generalize (w.alloc (.cells #[.string ⟨#[]⟩, .slice none 0 0, .slice none 0 0, .slice none 0 0] 28)) = w1 at *
  refine (guess_any HR.out HW.out).mono ?_
  rintro e w2 ⟨hb2, X, rfl, hX, hXt⟩
  have R2 := Box.mk (And.intro (HR.out.call0 hb2) (And.intro (HZ.out.call0 hb2) (HB.out.trans (hb2.mono HB.out.size))))
  have P3 := Box.mk (And.intro (PwS.new hX R2.out.1 R2.out.2.2) (R2.out.2.1.alloc (.cells #[.string ⟨X.name.toArray⟩, .slice X.ca X.cols.length X.cc, .slice X.ia X.ixs.length X.ic, .slice X.ha X.chks.length X.hc] 28)))
  have HT := Box.mk hXt
  rw [← HT.out] at HS
  have hgg : w.heap.size < w2.heap.size := R2.out.2.1.lt
  clear hb2 hX hXt R2 HZ HB HR HW HT
  unfold TabP.v
  have x0 := P3.out.1.t.cellOf (i := 0) rfl
  have x1 := P3.out.1.t.cellOf (i := 1) rfl
  have x2 := P3.out.1.t.cellOf (i := 2) rfl
  have x3 := P3.out.1.t.cellOf (i := 3) rfl
  go_wp2_with fail
  clear x0 x1 x2 x3
  generalize hv : checkT X.t = v
  generalize hL : (if checkT X.t = 0 then wordsT X.t else []) = L
  refine (rwords_is hv hL P3.out.1.rd).mono ?_
  rintro e w4 ⟨hb4, a4, n4, c4, rfl, hrd4⟩
  have P4 := Box.mk (And.intro (P3.out.1.step hb4) (P3.out.2.call0 hb4))
  have R4 := Box.mk hrd4
  have HV := Box.mk (And.intro hv hL)
  clear hb4 hrd4 P3 hv hL
  go_wp2_with fail
  generalize hd : decide (L = l) = d
  refine (same_is hd R4.out P4.out.1.r).mono ?_
  rintro e w5 ⟨rfl, hb5⟩
  have P5 := Box.mk (And.intro (P4.out.1.step hb5) (P4.out.2.call0 hb5))
  have HD := Box.mk hd
  clear hb5 P4 R4 hd
  by_cases hgood : v = 0 ∧ L = l
  · obtain ⟨rfl, hLl⟩ := hgood
    obtain rfl : true = d := by rw [← HD.out, decide_eq_true hLl]
    have hwl : wordsT X.t = l := by have := HV.out.2; rw [if_pos HV.out.1, hLl] at this; exact this
    obtain rfl := HS.out.trans (if_pos ⟨HV.out.1, hwl⟩)
    clear hwl hLl
    have x0 := P5.out.1.t.cellOf (i := 0) rfl
    have x1 := P5.out.1.t.cellOf (i := 1) rfl
    have x2 := P5.out.1.t.cellOf (i := 2) rfl
    have x3 := P5.out.1.t.cellOf (i := 3) rfl
    go_wp2_with (with_reducible refine wpList_store_row rfl _ _ _ rfl rfl (by kernel_rfl) P5.out.2 rfl rfl (cs := [.string ⟨X.name.toArray⟩, .slice X.ca X.cols.length X.cc, .slice X.ia X.ixs.length X.ic, .slice X.ha X.chks.length X.hc]) rfl rfl (tab_one _ _ _ _ _ _ _ _ _ _) ?_)
    refine bodyPost_ret (results_cell2 rfl _ rfl (P5.out.2.row [.string ⟨X.name.toArray⟩, .slice X.ca X.cols.length X.cc, .slice X.ia X.ixs.length X.ic, .slice X.ha X.chks.length X.hc]) tabT) rfl ?_
    refine ⟨below_setRow P5.out.1.b (Nat.le_refl _) _, X, rfl, ?_, rfl⟩
    exact P5.out.1.rd.row (s := ⟨#[]⟩) (b1 := none) (b2 := none) (b3 := none) (n1 := 0) (n2 := 0) (n3 := 0) (c1 := 0) (c2 := 0) (c3 := 0) P5.out.2 _
  · have hn : O = none := HS.out.trans (if_neg (fun h => hgood ⟨HV.out.1.symm.trans h.1, by have := HV.out.2; rw [if_pos h.1, h.2] at this; exact this.symm⟩))
    subst hn
    by_cases hv0 : v = 0
    · subst hv0
      obtain rfl : false = d := by rw [← HD.out, decide_eq_false (fun h => hgood ⟨rfl, h⟩)]
      clear hgood
      go_wp2_with (with_reducible refine wpList_store_row rfl _ _ _ rfl rfl (by kernel_rfl) P5.out.2 rfl rfl (cs := [.string ⟨#[]⟩, .slice none 0 0, .slice none 0 0, .slice none 0 0]) rfl rfl (tab_one _ _ _ _ _ _ _ _ _ _) ?_)
      refine bodyPost_ret (results_cell2 rfl _ rfl (P5.out.2.row [.string ⟨#[]⟩, .slice none 0 0, .slice none 0 0, .slice none 0 0]) tabT) rfl ?_
      exact RetTab.nil (below_setRow P5.out.1.b (Nat.le_refl _) _)
    · have hvv : (v == 0) = false := by simp [hv0]
      clear hgood
      go_wp2_with (with_reducible refine wpList_store_row rfl _ _ _ rfl rfl (by kernel_rfl) P5.out.2 rfl rfl (cs := [.string ⟨#[]⟩, .slice none 0 0, .slice none 0 0, .slice none 0 0]) rfl rfl (tab_one _ _ _ _ _ _ _ _ _ _) ?_)
      refine bodyPost_ret (results_cell2 rfl _ rfl (P5.out.2.row [.string ⟨#[]⟩, .slice none 0 0, .slice none 0 0, .slice none 0 0]) tabT) rfl ?_
      exact RetTab.nil (below_setRow P5.out.1.b (Nat.le_refl _) _)
set_option maxRecDepth 20000 in
set_option maxHeartbeats 4000000 in
theorem pm_walk {a : Option Addr} {n c : Nat} {l : List Int} {w : World} (hr : Rd w a n c 1 (intVals l)) (hwf : ∀ x ∈ l, x < 9223372036854775808) : Calls Try.prog 12 #[.slice a n c] w (RetV (.bool true) w) := by
  have hmx := hr.lenMax
  have HR := Box.mk hr
  have HW := Box.mk hwf
  clear hr hwf
  go_enter Try.func12, Try.ntmps12
  go_wp2_with fail
  refine (sanity_any w).mono ?_
  rintro e w2 ⟨rfl, hb2⟩
  by_cases hn : n ≤ 200
  · have R2 := Box.mk (And.intro (HR.out.call0 hb2) hb2)
    clear hb2
    go_wp2_with fail
    generalize ho : parseT l = o
    have HO := Box.mk ho
    clear ho
    obtain ⟨v, hv⟩ : ∃ v : Int, (if o.isSome then 0 else 3) = v := ⟨_, rfl⟩
    obtain ⟨T, hT⟩ : ∃ T, o.getD TN = T := ⟨_, rfl⟩
    have HRP := Box.mk (show ∀ w, RetP o w = RetTab T v w from fun w => by unfold RetP; rw [hv, hT])
    clear hv hT
    have hp1 := parse_is R2.out.1 HO.out
    rw [HRP.out] at hp1
    refine hp1.mono ?_
    clear hp1
    rintro e w3 ⟨hb3, X, rfl, hX, hXt⟩
    have R3 := Box.mk (And.intro (R2.out.1.call0 hb3) (R2.out.2.trans (hb3.mono R2.out.2.size)))
    have P3 := Box.mk (PwS.new hX R3.out.1 R3.out.2)
    have HX := Box.mk hXt
    clear hb3 hX hXt R2 R3
    unfold TabP.v
    go_wp2_with fail
    generalize (w3.alloc (.cells #[.string ⟨X.name.toArray⟩, .slice X.ca X.cols.length X.cc, .slice X.ia X.ixs.length X.ic, .slice X.ha X.chks.length X.hc] 28)) = w4 at *
    generalize w3.heap.size = g1 at *
    have hp2 := rparse_any P3.out.r HW.out
    rw [HO.out, HRP.out] at hp2
    refine hp2.mono ?_
    clear hp2
    rintro e w5 ⟨hb5, Y, rfl, hY, hYt⟩
    have P5 := Box.mk (P3.out.step hb5)
    have Q5 := Box.mk (PwS.new hY P5.out.r P5.out.b)
    have P6 := Box.mk (P5.out.step ((Below.refl _ _).alloc (Nat.le_refl _) (.cells #[.string ⟨Y.name.toArray⟩, .slice Y.ca Y.cols.length Y.cc, .slice Y.ia Y.ixs.length Y.ic, .slice Y.ha Y.chks.length Y.hc] 28)))
    have HY := Box.mk (show X.t = Y.t from HX.out.trans hYt.symm)
    clear hb5 hY hYt P3 P5
    unfold TabP.v
    have x0 := P6.out.t.cellOf (i := 0) rfl
    have x1 := P6.out.t.cellOf (i := 1) rfl
    have x2 := P6.out.t.cellOf (i := 2) rfl
    have x3 := P6.out.t.cellOf (i := 3) rfl
    have y0 := Q5.out.t.cellOf (i := 0) rfl
    have y1 := Q5.out.t.cellOf (i := 1) rfl
    have y2 := Q5.out.t.cellOf (i := 2) rfl
    have y3 := Q5.out.t.cellOf (i := 3) rfl
    go_wp2_with fail
    clear x0 x1 x2 x3 y0 y1 y2 y3
    refine (same_tabs HY.out P6.out.rd Q5.out.rd).mono ?_
    rintro e w7 ⟨rfl, hb7⟩
    have P7 := Box.mk (P6.out.step hb7)
    clear hb7 P6 Q5
    go_wp2_with fail
    go_ret
    exact ⟨by first | rfl | simp, P7.out.b⟩
  · go_wp2_with fail
    go_ret
    exact ⟨rfl, hb2⟩
end Go.Proofs.Ytgimkipekoabbaa
