/-
  The walks of the check bit by bit, and of multiplication. No condition.
-/
import Derived.Test.YtcngnpkpaliflaaDoorWAdd
namespace Go.Proofs.YtcngnpkpaliflaaDoor
open Go.RowKit

theorem stp_nat (r : BitVec 40) (b : Bool) : (stp r b).toNat = (r.toNat * 2 % 1099511627776) ^^^ (if (decide (r.toNat / 549755813888 = 1)) ^^ b then 75628553 else 0) := by
  have hm : r.msb = decide (r.toNat / 549755813888 = 1) := by
    rw [BitVec.msb_eq_decide]
    have := r.isLt
    rw [decide_eq_decide]; omega
  unfold stp
  rw [BitVec.toNat_xor, BitVec.toNat_shiftLeft, Nat.shiftLeft_eq, hm]
  congr 1
  cases decide (r.toNat / 549755813888 = 1) ^^ b <;> rfl

set_option maxRecDepth 20000 in
set_option maxHeartbeats 1000000 in
theorem step_any (r : BitVec 40) (b : Bool) (w : World) :
    Calls Tryd.prog 40 #[.int .u64 (r.toNat : Int), .int .u64 (b.toNat : Int)] w fun e w' => e = .returned (.int .u64 ((stp r b).toNat : Int)) ∧ w = w' := by
  have hr : r.toNat < 1099511627776 := r.isLt
  have hN := stp_nat r b
  have hA : bits .and .u64 ((r.toNat : Int) * 2) 1099511627775 = ((r.toNat * 2 % 1099511627776 : Nat) : Int) := by
    rw [show ((r.toNat : Int) * 2) = ((r.toNat * 2 : Nat) : Int) from by omega, show (1099511627775 : Int) = ((1099511627775 : Nat) : Int) from rfl, u64_and_nat _ _ (by omega) (by omega),
      show r.toNat * 2 &&& 1099511627775 = r.toNat * 2 % 1099511627776 from Nat.and_two_pow_sub_one_eq_mod _ 40]
  have hB : bits .xor .u64 ((r.toNat : Int) * 2 % 1099511627776) 75628553 = ((r.toNat * 2 % 1099511627776 ^^^ 75628553 : Nat) : Int) := by
    rw [show ((r.toNat : Int) * 2 % 1099511627776) = ((r.toNat * 2 % 1099511627776 : Nat) : Int) from by omega, show (75628553 : Int) = ((75628553 : Nat) : Int) from rfl, u64_xor_nat _ _ (by omega) (by omega)]
  rcases (show r.toNat / 549755813888 = 0 ∨ r.toNat / 549755813888 = 1 by omega) with h0 | h0 <;> cases b
  all_goals
    have h1 : (r.toNat : Int) / 549755813888 = ((r.toNat / 549755813888 : Nat) : Int) := by omega
    rw [h0] at h1 hN
    simp at hN
    generalize (stp r _).toNat = z at *
    have HN := Lib.hid hN
    have HB := Lib.hid hB
    clear hN hB
    go_enter Tryd.func40, Tryd.ntmps40
    go_wp2_with fail
    go_ret
    exact ⟨congrArg (fun v => Ending.returned (Value.int .u64 v)) (by rw [HN.out]; first | exact HB.out | omega), rfl⟩

theorem bit_of (c k : Nat) : (c / 2 ^ k) % 2 = (c.testBit k).toNat := by
  rw [Nat.testBit_eq_decide_div_mod_eq]
  rcases Nat.mod_two_eq_zero_or_one (c / 2 ^ k) with h | h <;> rw [h] <;> rfl

/-- The bits of a byte, the first k of them. -/
theorem bits8_get (c k : Nat) (hk : k < 8) : (bits8 c).take (k + 1) = (bits8 c).take k ++ [c.testBit (7 - k)] := by
  match k, hk with
  | 0, _ => rfl
  | 1, _ => rfl
  | 2, _ => rfl
  | 3, _ => rfl
  | 4, _ => rfl
  | 5, _ => rfl
  | 6, _ => rfl
  | 7, _ => rfl

set_option maxRecDepth 20000 in
set_option maxHeartbeats 2000000 in
theorem refCrc_any (l : List UInt8) (a : Option Addr) (n cap : Nat) (w : World) (hrd : Rd w a n cap 1 (byteVals l)) :
    Calls Tryd.prog 17 #[.slice a n cap] w fun e w' => e = .returned (.int .i64 (crc l : Int)) ∧ w = w' := by
  have Hl := Lib.hid hrd.blen
  have hmax := hrd.lenMax
  go_enter Tryd.func17, Tryd.ntmps17
  go_wp2_with fail
  go_loop [3, 4] (fun r i => ∃ k : Nat, k ≤ n ∧ i = .int .i64 k ∧ r = .int .u64 ((feed ones40 (l.take k)).toNat : Int)) (fun _ i => n - (intOf i).toNat)
  case atStart => exact ⟨0, Nat.zero_le _, rfl, rfl⟩
  case round =>
    obtain ⟨k, hk, rfl, rfl⟩ := hrel
    by_cases hlt : k < n
    · obtain ⟨b, off, rfl, hc⟩ := hrd.byteN k hlt
      have hS := Lib.hid (show feed ones40 (l.take (k + 1)) = stps (feed ones40 (l.take k)) (bits8 (l.getD k 0).toNat) from by
        rw [List.take_succ_eq_append_getElem (by rw [Hl.out]; exact hlt), feed_snoc, List.getD_eq_getElem?_getD, List.getElem?_eq_getElem (by rw [Hl.out]; exact hlt)]; rfl)
      have h256 : (l.getD k 0).toNat < 256 := (l.getD k 0).toNat_lt
      generalize (l.getD k 0).toNat = c at *
      generalize feed ones40 (l.take k) = r at *
      go_wp2_with fail
      go_loop [3, 5] (fun v i => ∃ j : Nat, j ≤ 8 ∧ i = .int .i64 j ∧ v = .int .u64 ((stps r ((bits8 c).take j)).toNat : Int)) (fun _ i => 8 - (intOf i).toNat)
      case atStart => exact ⟨0, Nat.zero_le _, rfl, rfl⟩
      case round =>
        obtain ⟨j, hj, rfl, rfl⟩ := hrel
        by_cases hjt : j < 8
        · have hJ := Lib.hid (show stp (stps r ((bits8 c).take j)) (c.testBit (7 - j)) = stps r ((bits8 c).take (j + 1)) from by rw [bits8_get c j hjt, stps_append]; rfl)
          have hbit : bits .and .u64 ((c : Int) / 2 ^ (7 - j)) 1 = ((c.testBit (7 - j)).toNat : Int) := by
            have h7 : c / 2 ^ (7 - j) ≤ c := Nat.div_le_self _ _
            rw [show ((c : Int) / 2 ^ (7 - j)) = ((c / 2 ^ (7 - j) : Nat) : Int) from by simp, show (1 : Int) = ((1 : Nat) : Int) from rfl, u64_and_nat _ _ (by omega) (by omega), Nat.and_one_is_mod, bit_of]
          have Hb := Lib.hid hbit; clear hbit
          go_wp2_with fail
          rw [Hb.out]
          refine (step_any _ _ _).mono ?_
          rintro e w1 ⟨rfl, rfl⟩
          rw [hJ.out]
          go_wp2_with fail
          go_round
          case rel => exact ⟨j + 1, by omega, by go_num, rfl⟩
          case measure => simp [intOf]; omega
        · have hj8 : j = 8 := by omega
          subst hj8
          have hA := Lib.hid (show stps r ((bits8 c).take 8) = feed ones40 (l.take (k + 1)) from by rw [hS.out]; rfl)
          rw [hA.out]
          go_wp2_with fail
          go_round
          case rel => exact ⟨k + 1, by omega, by go_num, rfl⟩
          case measure => simp [intOf]; omega
    · have hkn : k = n := by omega
      subst hkn
      have hA := Lib.hid (show l.take k = l from List.take_of_length_le (by rw [Hl.out]; exact Nat.le_refl _))
      rw [hA.out]
      have hlt2 := (feed ones40 l).isLt
      have hx : bits .xor .u64 ((feed ones40 l).toNat : Int) 1099511627775 = ((crc l : Nat) : Int) := by
        rw [← crc_xor, show (1099511627775 : Int) = ((1099511627775 : Nat) : Int) from rfl, u64_xor_nat _ _ (by omega) (by omega)]
      have hcl := crc_lt l
      generalize hz : crc l = z at *
      have HZ := Lib.hid hz; clear hz
      go_wp2_with fail
      go_ret
      refine ⟨?_, rfl⟩
      show Ending.returned (Value.int .i64 (z : Int)) = _
      rw [HZ.out]

theorem stp_low_nat (m : BitVec 40) (h : m.toNat / 549755813888 = 0) : m.toNat * 2 = (stp m false).toNat := by
  rw [stp_nat, h]; simp; omega
theorem stp_high_nat (m : BitVec 40) (h : m.toNat / 549755813888 = 1) : (m.toNat * 2 % 1099511627776) ^^^ 75628553 = (stp m false).toNat := by
  rw [stp_nat, h]; simp

set_option maxRecDepth 20000 in
set_option maxHeartbeats 4000000 in
theorem times_any (a b : BitVec 40) (w : World) (hT : Tabs w) :
    Calls Tryd.prog 43 #[.int .u64 (a.toNat : Int), .int .u64 (b.toNat : Int)] w fun e w' => e = .returned (.int .u64 ((mul a b).toNat : Int)) ∧ w = w' := by
  have ha : a.toNat < 1099511627776 := a.isLt
  have hb : b.toNat < 1099511627776 := b.isLt
  have hc1 : w.cell? ⟨1, 1, none⟩ = some (.int .u64 75628553) := hT.nib 1 (by omega)
  go_enter Tryd.func43, Tryd.ntmps43
  go_wp2_with fail
  go_loop [5, 6] (fun o i => ∃ k : Nat, k ≤ 40 ∧ i = .int .i64 (39 - (k : Int)) ∧ o = .int .u64 ((mulTo a b k).toNat : Int)) (fun _ i => (intOf i + 1).toNat)
  case atStart => exact ⟨0, by omega, rfl, rfl⟩
  case round =>
    obtain ⟨k, hk, rfl, rfl⟩ := hrel
    by_cases hlt : k < 40
    · have hS := Lib.hid (show mulTo a b (k + 1) = stp (mulTo a b k) false ^^^ (if b.getLsbD (39 - k) then a else 0#40) from rfl)
      generalize mulTo a b k = m at *
      have hm : m.toNat < 1099511627776 := m.isLt
      have hs : (stp m false).toNat < 1099511627776 := (stp m false).isLt
      have hA : bits .and .u64 ((m.toNat : Int) * 2) 1099511627775 = ((m.toNat * 2 % 1099511627776 : Nat) : Int) := by
        rw [show ((m.toNat : Int) * 2) = ((m.toNat * 2 : Nat) : Int) from by omega, show (1099511627775 : Int) = ((1099511627775 : Nat) : Int) from rfl, u64_and_nat _ _ (by omega) (by omega),
          show m.toNat * 2 &&& 1099511627775 = m.toNat * 2 % 1099511627776 from Nat.and_two_pow_sub_one_eq_mod _ 40]
      have hbit : bits .and .u64 ((b.toNat : Int) / 2 ^ (39 - k)) 1 = ((b.getLsbD (39 - k)).toNat : Int) := by
        have h7 : b.toNat / 2 ^ (39 - k) ≤ b.toNat := Nat.div_le_self _ _
        rw [show ((b.toNat : Int) / 2 ^ (39 - k)) = ((b.toNat / 2 ^ (39 - k) : Nat) : Int) from by simp, show (1 : Int) = ((1 : Nat) : Int) from rfl, u64_and_nat _ _ (by omega) (by omega), Nat.and_one_is_mod, bit_of]; rfl
      have hX : bits .xor .u64 ((stp m false).toNat : Int) (a.toNat : Int) = (((stp m false) ^^^ a).toNat : Int) := by
        rw [u64_xor_nat _ _ (by omega) (by omega), BitVec.toNat_xor]
      rcases (show m.toNat / 549755813888 = 0 ∨ m.toNat / 549755813888 = 1 by omega) with h0 | h0 <;> cases hq : b.getLsbD (39 - k)
      all_goals rw [hq] at hbit hS
      · have hE := stp_low_nat m h0
        have hT1 : (((m.toNat : Int) * 2 / 1099511627776 : Int) == 1) = false := by rw [beq_eq_false_iff_ne]; omega
        go_wp2_with fail
        go_round
        case rel => exact ⟨k + 1, by omega, congrArg (Value.int .i64) (by omega), congrArg (Value.int .u64) (by rw [hS.out]; simp; omega)⟩
        case measure => simp [intOf]; omega
      · have hE := stp_low_nat m h0
        have hT1 : (((m.toNat : Int) * 2 / 1099511627776 : Int) == 1) = false := by rw [beq_eq_false_iff_ne]; omega
        have hX2 : bits .xor .u64 ((m.toNat : Int) * 2) (a.toNat : Int) = (((stp m false) ^^^ a).toNat : Int) := by rw [← hX]; congr 1; omega
        clear hX hE
        go_wp2_with fail
        go_round
        case rel => exact ⟨k + 1, by omega, congrArg (Value.int .i64) (by omega), congrArg (Value.int .u64) (by rw [hS.out]; rfl)⟩
        case measure => simp [intOf]; omega
      · have hE := stp_high_nat m h0
        have hT1 : (((m.toNat : Int) * 2 / 1099511627776 : Int) == 1) = true := by rw [beq_iff_eq]; omega
        have hX3 : bits .xor .u64 ((m.toNat : Int) * 2 % 1099511627776) 75628553 = ((stp m false).toNat : Int) := by
          rw [← hE, show ((m.toNat : Int) * 2 % 1099511627776) = ((m.toNat * 2 % 1099511627776 : Nat) : Int) from by omega, show (75628553 : Int) = ((75628553 : Nat) : Int) from rfl, u64_xor_nat _ _ (by omega) (by omega)]
        clear hX hE
        go_wp2_with fail
        go_round
        case rel => exact ⟨k + 1, by omega, congrArg (Value.int .i64) (by omega), congrArg (Value.int .u64) (by rw [hS.out]; simp)⟩
        case measure => simp [intOf]; omega
      · have hE := stp_high_nat m h0
        have hT1 : (((m.toNat : Int) * 2 / 1099511627776 : Int) == 1) = true := by rw [beq_iff_eq]; omega
        have hX3 : bits .xor .u64 ((m.toNat : Int) * 2 % 1099511627776) 75628553 = ((stp m false).toNat : Int) := by
          rw [← hE, show ((m.toNat : Int) * 2 % 1099511627776) = ((m.toNat * 2 % 1099511627776 : Nat) : Int) from by omega, show (75628553 : Int) = ((75628553 : Nat) : Int) from rfl, u64_xor_nat _ _ (by omega) (by omega)]
        clear hE
        go_wp2_with fail
        go_round
        case rel => exact ⟨k + 1, by omega, congrArg (Value.int .i64) (by omega), congrArg (Value.int .u64) (by rw [hS.out]; rfl)⟩
        case measure => simp [intOf]; omega
    · have h40 : k = 40 := by omega
      subst h40
      go_wp2_with fail
      go_ret
      exact ⟨rfl, rfl⟩
end Go.Proofs.YtcngnpkpaliflaaDoor
