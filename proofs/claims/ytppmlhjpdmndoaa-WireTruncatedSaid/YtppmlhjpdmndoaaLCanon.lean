/-
  The walk of WireCanonical: it returns true and keeps what was there. No condition.
-/
import Derived.Test.YtppmlhjpdmndoaaWSanity
import Derived.Test.YtppmlhjpdmndoaaArg
import Derived.Test.YtppmlhjpdmndoaaMemF
import Derived.Test.YtppmlhjpdmndoaaCanon
import Derived.Test.YtppmlhjpdmndoaaLDecode
namespace Go.Proofs.Ytppmlhjpdmndoaa
open Go.RowKit

/-- 's[:u]'. -/
theorem Rd.pre {w : World} {a : Option Addr} {n cap : Nat} {xs : List Value} (h : Rd w a n cap 1 xs) (u : Nat) (hu : u ≤ n) : Rd w a u cap 1 (xs.take u) :=
  ⟨by rw [List.length_take]; have := h.hlen; omega, Nat.le_trans hu h.hcap, h.hmax, fun ha => by rw [h.hnil ha]; simp, fun ad ha j v hv => by
    rw [List.getElem?_take] at hv
    split at hv
    · exact h.hcell ad ha j v hv
    · cases hv⟩

set_option maxRecDepth 20000 in
set_option maxHeartbeats 2000000 in
theorem is_any {m l : List UInt8} {a b : Option Addr} {n1 c1 n cap g : Nat} {w : World} {u e : Nat} (h1 : Rd w a n1 c1 1 (byteVals m)) (hcell : w.cell? ⟨g, 0, none⟩ = some (.slice b n cap)) (h2 : Rd w b n cap 1 (byteVals l))
    (h : e = 0 → u ≤ n ∧ l.take u = m) : Calls Try.prog 37 #[.slice a n1 c1, .int .i64 u, .int .i64 e, .pointer (some ⟨g, 0, none⟩)] w (RetBool true w) := by
  have hmax := h2.lenMax
  by_cases he : e = 0
  · subst he
    obtain ⟨hu, hm⟩ := h rfl
    clear h
    have h2' := h2.pre u hu
    rw [show List.take u (byteVals l) = byteVals m from by rw [← hm]; simp [byteVals, List.map_take]] at h2'
    have hcap := h2.hcap
    clear hm
    rcases Nat.eq_zero_or_pos u with rfl | h0
    all_goals
      go_enter Try.func37, Try.ntmps37
      go_wp2_with (go_at_call 13; refine (same_v h1 h2' (r := true) (by simp)).mono ?_; rintro e w1 ⟨rfl, hb1⟩)
      go_ret
      exact ⟨rfl, hb1⟩
  · have heb : ((e : Int) == 0) = false := by simp; omega
    have heb2 : ((e : Int) != 0) = true := by simp; omega
    clear he h
    go_enter Try.func37, Try.ntmps37
    go_wp2_with fail
    go_ret
    exact ⟨rfl, Below.refl _ _⟩

set_option maxRecDepth 20000 in
set_option maxHeartbeats 8000000 in
theorem canon_walk (a0 : Option Addr) (len0 cap0 : Nat) (l : List UInt8) (w : World) (hrd : Rd w a0 len0 cap0 1 (byteVals l)) :
    Calls Try.prog 7 #[.slice a0 len0 cap0] w fun e w' => e = .returned (.bool true) ∧ Below w.heap.size w w' := by
  have hmax := hrd.lenMax
  have Hl := Lib.hid hrd.blen
  have hb0 : Below w.heap.size w (w.alloc (.cells #[.slice a0 len0 cap0] 28)) := (Below.refl _ _).alloc (Nat.le_refl _) _
  have hrd0 := hrd.alloc (.cells #[.slice a0 len0 cap0] 28)
  have hc0 : (w.alloc (.cells #[.slice a0 len0 cap0] 28)).cell? ⟨w.heap.size, 0, none⟩ = some (.slice a0 len0 cap0) := by
    rw [cell_of_row _ w.heap.size 0 #[.slice a0 len0 cap0] 28 (0, 0) (heap_alloc_new w _)]; rfl
  by_cases hlen : len0 ≤ 2000
  · obtain ⟨x1, u1, e1, hx1⟩ : ∃ x u e, getI l = (x, u, e) := ⟨_, _, _, rfl⟩
    obtain ⟨x2, u2, e2, hx2⟩ : ∃ x u e, getB l = (x, u, e) := ⟨_, _, _, rfl⟩
    obtain ⟨x3, u3, e3, hx3⟩ : ∃ x u e, getL getI 1 l = (x, u, e) := ⟨_, _, _, rfl⟩
    obtain ⟨x4, u4, e4, hx4⟩ : ∃ x u e, getL getB 1 l = (x, u, e) := ⟨_, _, _, rfl⟩
    obtain ⟨x5, u5, e5, hx5⟩ : ∃ x u e, getL getD16 16 l = (x, u, e) := ⟨_, _, _, rfl⟩
    have hd := getL_dig l
    rw [hx5] at hd
    have Hd := Lib.hid hd; clear hd
    have E1 : Hid (e1 = 0 → u1 ≤ len0 ∧ l.take u1 = enc x1) := fun h => by subst h; obtain ⟨a, b, c, d⟩ := getI_canon hx1; exact ⟨by rw [Hl.out]; exact d, a⟩
    have E2 : Hid (e2 = 0 → u2 ≤ len0 ∧ l.take u2 = encB x2) := fun h => by subst h; obtain ⟨a, b, c⟩ := getB_canon hx2; exact ⟨by rw [Hl.out]; exact b, a⟩
    have E3 : Hid (e3 = 0 → u3 ≤ len0 ∧ l.take u3 = encL enc x3) := fun h => by subst h; obtain ⟨a, b, c, d⟩ := getL_canon canonI hx3; exact ⟨by rw [Hl.out]; exact b, a⟩
    have E4 : Hid (e4 = 0 → u4 ≤ len0 ∧ l.take u4 = encL encB x4) := fun h => by subst h; obtain ⟨a, b, c, d⟩ := getL_canon canonB hx4; exact ⟨by rw [Hl.out]; exact b, a⟩
    have E5 : Hid (e5 = 0 → u5 ≤ len0 ∧ l.take u5 = encL (fun d => d) x5) := fun h => by subst h; obtain ⟨a, b, c⟩ := getLD_canon hx5; exact ⟨by rw [Hl.out]; exact b, a⟩
    have F1 : -9223372036854775808 ≤ x1 ∧ x1 ≤ 9223372036854775807 := by
      by_cases h : e1 = 0
      · subst h; obtain ⟨a, b, c, d⟩ := getI_canon hx1; exact ⟨b, c⟩
      · have := (getI_errs l (by rw [hx1]; exact h)).1; rw [hx1] at this; simp only at this; omega
    have F2 : x2.length ≤ len0 := by
      by_cases h : e2 = 0
      · subst h; obtain ⟨a, b, c⟩ := getB_canon hx2; rw [Hl.out]; exact c
      · have := getB_errs l (by rw [hx2]; exact h); rw [hx2] at this; simp only at this; subst this; simp
    have F3 : Hid (x3.length ≤ len0 ∧ ∀ x ∈ x3, -9223372036854775808 ≤ x ∧ x ≤ 9223372036854775807) := by
      by_cases h : e3 = 0
      · subst h; obtain ⟨a, b, c, d⟩ := getL_canon canonI hx3; exact ⟨by rw [Hl.out]; exact c, d⟩
      · have := getL_errs getI 1 l (by rw [hx3]; exact h); rw [hx3] at this; simp only at this; subst this; exact ⟨Nat.zero_le _, by simp⟩
    have F4 : Hid (x4.length ≤ len0 ∧ totLen x4 ≤ len0) := by
      by_cases h : e4 = 0
      · subst h
        obtain ⟨a, b, c, d⟩ := getL_canon canonB hx4
        refine ⟨by rw [Hl.out]; exact c, ?_⟩
        have h1 := tot_flat x4
        have h2 := congrArg List.length a
        unfold encL at h2
        rw [List.length_append, List.length_take] at h2
        rw [Hl.out]; omega
      · have := getL_errs getB 1 l (by rw [hx4]; exact h); rw [hx4] at this; simp only at this; subst this; exact ⟨Nat.zero_le _, by simp [totLen]⟩
    have F5 : Hid (x5.length ≤ len0) := by
      by_cases h : e5 = 0
      · subst h; obtain ⟨a, b, c⟩ := getLD_canon hx5; show _ ≤ _; rw [Hl.out]; exact c
      · have := getL_errs getD16 16 l (by rw [hx5]; exact h); rw [hx5] at this; simp only at this; subst this; exact Nat.zero_le _
    have Hx1 := Lib.hid hx1; have Hx2 := Lib.hid hx2; have Hx3 := Lib.hid hx3; have Hx4 := Lib.hid hx4; have Hx5 := Lib.hid hx5
    clear hx1 hx2 hx3 hx4 hx5
    have hbs : (⟨x2.toArray⟩ : ByteArray).size ≤ 1099511627776 := by show x2.toArray.size ≤ _; simp; omega
    go_enter Try.func7, Try.ntmps7
    go_wp2_with fail
    refine (getInt_n Hx1.out hrd0).mono ?_
    rintro e w1 ⟨rfl, rfl⟩
    go_wp2_with fail
    refine (getBytes_n Hx2.out hrd0).mono ?_
    rintro e w1 ⟨rfl, rfl⟩
    go_wp2_with fail
    refine (getInts_v Hx3.out hrd0 (by omega)).mono ?_
    rintro e w1 ⟨a1, c1, rfl, R1, hb1⟩
    have hrd1 := hrd0.call0 hb1
    have hc1 := (hb1.cell (p := ⟨w.heap.size, 0, none⟩) (by simp)).trans hc0
    go_wp2_with fail
    refine (getStrings_v Hx4.out hrd1 (by omega)).mono ?_
    rintro e w2 ⟨a2, c2, rfl, R2, hb2⟩
    have B2 := (Below.refl _ _).call0 (Nat.le_refl _) hb1 |>.call0 (Nat.le_refl _) hb2
    have hrd2 := hrd1.call0 hb2
    have hc2 := (B2.cell (p := ⟨w.heap.size, 0, none⟩) (by simp)).trans hc0
    have R1a := R1.call0 hb2
    clear hc1 hrd1 R1 hb1 hb2
    go_wp2_with fail
    refine (getDigests_v Hx5.out hrd2 (by omega)).mono ?_
    rintro e w3 ⟨a3, c3, rfl, R3, hb3⟩
    have B3 := B2.call0 (Nat.le_refl _) hb3
    have hrd3 := hrd2.call0 hb3
    have R1b := R1a.call0 hb3
    have R2b := R2.call0 hb3
    clear hc2 hrd2 R1a R2 hb3 B2
    go_wp2_with fail
    refine (sanity_any _).mono ?_
    rintro e w4 ⟨rfl, hb4⟩
    have B4 := B3.call0 (Nat.le_refl _) hb4
    have hrd4 := hrd3.call0 hb4
    have R1c := R1b.call0 hb4
    have R2c := R2b.call0 hb4
    have R3c := R3.call0 hb4
    clear hrd3 R1b R2b R3 hb4 B3
    go_wp2_with fail
    refine (int_v rfl F1.1 F1.2).mono ?_
    rintro e w5 ⟨a5, c5, rfl, R5, hb5⟩
    have B5 := B4.call0 (Nat.le_refl _) hb5
    have hrd5 := hrd4.call0 hb5
    have R1d := R1c.call0 hb5
    have R2d := R2c.call0 hb5
    have R3d := R3c.call0 hb5
    clear hrd4 R1c R2c R3c hb5 B4
    go_wp2_with fail
    refine (is_any R5 ((B5.cell (p := ⟨w.heap.size, 0, none⟩) (by simp)).trans hc0) hrd5 E1.out).mono ?_
    rintro e w6 ⟨rfl, hb6⟩
    have B6 := B5.call0 (Nat.le_refl _) hb6
    have hrd6 := hrd5.call0 hb6
    have R1e := R1d.call0 hb6
    have R2e := R2d.call0 hb6
    have R3e := R3d.call0 hb6
    clear hrd5 R1d R2d R3d hb6 B5 R5
    go_wp2_with fail
    refine (bytes_v (r := encB x2) rfl hbs).mono ?_
    rintro e w7 ⟨a7, c7, rfl, R7, hb7⟩
    have B7 := B6.call0 (Nat.le_refl _) hb7
    have hrd7 := hrd6.call0 hb7
    have R1f := R1e.call0 hb7
    have R2f := R2e.call0 hb7
    have R3f := R3e.call0 hb7
    clear hrd6 R1e R2e R3e hb7 B6
    go_wp2_with fail
    refine (is_any R7 ((B7.cell (p := ⟨w.heap.size, 0, none⟩) (by simp)).trans hc0) hrd7 E2.out).mono ?_
    rintro e w8 ⟨rfl, hb8⟩
    have B8 := B7.call0 (Nat.le_refl _) hb8
    have hrd8 := hrd7.call0 hb8
    have R1g := R1f.call0 hb8
    have R2g := R2f.call0 hb8
    have R3g := R3f.call0 hb8
    clear hrd7 R1f R2f R3f hb8 B7 R7
    go_wp2_with fail
    refine (ints_v rfl R1g F3.out.2 (by have := F3.out.1; omega)).mono ?_
    rintro e w9 ⟨a9, c9, rfl, R9, hb9⟩
    have B9 := B8.call0 (Nat.le_refl _) hb9
    have hrd9 := hrd8.call0 hb9
    have R2h := R2g.call0 hb9
    have R3h := R3g.call0 hb9
    clear hrd8 R1g R2g R3g hb9 B8
    go_wp2_with fail
    refine (is_any R9 ((B9.cell (p := ⟨w.heap.size, 0, none⟩) (by simp)).trans hc0) hrd9 E3.out).mono ?_
    rintro e w10 ⟨rfl, hb10⟩
    have B10 := B9.call0 (Nat.le_refl _) hb10
    have hrd10 := hrd9.call0 hb10
    have R2i := R2h.call0 hb10
    have R3i := R3h.call0 hb10
    clear hrd9 R2h R3h hb10 B9 R9
    go_wp2_with fail
    refine (strings_v rfl R2i (by have := F4.out.2; omega) (by have := F4.out.1; omega)).mono ?_
    rintro e w11 ⟨a11, c11, rfl, R11, hb11⟩
    have B11 := B10.call0 (Nat.le_refl _) hb11
    have hrd11 := hrd10.call0 hb11
    have R3j := R3i.call0 hb11
    clear hrd10 R2i R3i hb11 B10
    go_wp2_with fail
    refine (is_any R11 ((B11.cell (p := ⟨w.heap.size, 0, none⟩) (by simp)).trans hc0) hrd11 E4.out).mono ?_
    rintro e w12 ⟨rfl, hb12⟩
    have B12 := B11.call0 (Nat.le_refl _) hb12
    have hrd12 := hrd11.call0 hb12
    have R3k := R3j.call0 hb12
    clear hrd11 R3j hb12 B11 R11
    go_wp2_with fail
    refine (digests_v rfl Hd R3k (by have := F5.out; omega)).mono ?_
    rintro e w13 ⟨a13, c13, rfl, R13, hb13⟩
    have B13 := B12.call0 (Nat.le_refl _) hb13
    have hrd13 := hrd12.call0 hb13
    clear hrd12 R3k hb13 B12
    go_wp2_with fail
    refine (is_any R13 ((B13.cell (p := ⟨w.heap.size, 0, none⟩) (by simp)).trans hc0) hrd13 E5.out).mono ?_
    rintro e w14 ⟨rfl, hb14⟩
    have B14 := B13.call0 (Nat.le_refl _) hb14
    go_wp2_with fail
    go_ret
    exact ⟨rfl, hb0.trans (B14.mono (by simp))⟩
  · go_enter Try.func7, Try.ntmps7
    go_wp2_with (go_at_call 12; refine (sanity_any _).mono ?_; rintro e w9 ⟨rfl, hb9⟩)
    go_ret
    exact ⟨rfl, hb0.trans (hb9.mono (by simp))⟩
end Go.Proofs.Ytppmlhjpdmndoaa
