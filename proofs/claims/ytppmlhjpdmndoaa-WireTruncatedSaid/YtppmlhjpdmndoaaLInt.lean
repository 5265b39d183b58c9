/-
  The walk of WireIntRoundTrip: it returns true and keeps what was there. No condition.
-/
import Derived.Test.YtppmlhjpdmndoaaWSanity
import Derived.Test.YtppmlhjpdmndoaaArg
import Derived.Test.YtppmlhjpdmndoaaMemF
import Derived.Test.YtppmlhjpdmndoaaRound
namespace Go.Proofs.Ytppmlhjpdmndoaa
open Go.RowKit

theorem byteVals_app {l m : List UInt8} : byteVals l ++ byteVals m = byteVals (l ++ m) := (byteVals_append l m).symm

/-- 'b[:len(b):len(b)]'. -/
theorem Rd.full {w : World} {a : Option Addr} {n cap size : Nat} {xs : List Value} (h : Rd w a n cap size xs) : Rd w a n n size xs :=
  ⟨h.hlen, Nat.le_refl _, Nat.le_trans h.hcap h.hmax, h.hnil, h.hcell⟩

set_option maxRecDepth 20000 in
set_option maxHeartbeats 2000000 in
theorem int_walk (n : Int) (h1 : -9223372036854775808 ≤ n) (h2 : n ≤ 9223372036854775807) (a0 : Option Addr) (len0 cap0 : Nat) (l : List UInt8) (w : World) (hrd : Rd w a0 len0 cap0 1 (byteVals l)) :
    Calls Try.prog 6 #[.int .i64 n, .slice a0 len0 cap0] w fun e w' => e = .returned (.bool true) ∧ Below w.heap.size w w' := by
  have hmax := hrd.lenMax
  have Hl := Lib.hid hrd.blen
  have hel := enc_len n h1 h2
  have HR := Lib.hid (getI_enc n l h1 h2)
  by_cases hlen : len0 ≤ 2000
  · go_enter Try.func6, Try.ntmps6
    go_wp2_with fail
    refine (int_v (r := enc n) rfl h1 h2).mono ?_
    rintro e w1 ⟨a1, c1, rfl, R1, hb1⟩
    have R2 := R1.full
    have hc1 := R1.hcap
    have S1 := Src.below (P := Try.prog) hrd (byteVals_one _) hb1 (Nat.le_refl _)
    go_wp2_with (at_builtin; refine wpList_append_full rfl _ _ 28 28 rfl sl28 (.inl sl28.ht) rfl R2 rfl S1 (by omega) (by unfold maxLen; omega) ?_; intro a3 c3 w2 R3 hb2)
    rw [byteVals_app] at R3
    refine (getInt_n HR.out R3).mono ?_
    rintro e w3 ⟨rfl, rfl⟩
    have B2 := hb1.call0 (Nat.le_refl _) hb2
    clear R1 R2 R3 S1 hc1
    go_wp2_with fail
    refine (sanity_any _).mono ?_
    rintro e w4 ⟨rfl, hb4⟩
    have B4 := B2.call0 (Nat.le_refl _) hb4
    obtain ⟨q1, q2⟩ := hel
    go_wp2_with fail
    go_ret
    refine ⟨?_, B4⟩
    show Ending.returned (Value.bool (decide (((enc n).length : Int) ≤ 10))) = _
    rw [decide_eq_true (by omega)]
  · go_enter Try.func6, Try.ntmps6
    go_wp2_with (go_at_call 12; refine (sanity_any _).mono ?_; rintro e w9 ⟨rfl, hb9⟩)
    go_ret
    exact ⟨rfl, hb9⟩
end Go.Proofs.Ytppmlhjpdmndoaa
