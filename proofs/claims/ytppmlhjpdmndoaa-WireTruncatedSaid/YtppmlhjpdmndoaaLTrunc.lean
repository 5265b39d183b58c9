/-
  The walk of WireTruncated: it returns true and keeps what was there. No condition.
-/
import Derived.Test.YtppmlhjpdmndoaaLList
import Derived.Test.YtppmlhjpdmndoaaLCanon
import Derived.Test.YtppmlhjpdmndoaaTrunc
namespace Go.Proofs.Ytppmlhjpdmndoaa
open Go.RowKit

/-- The five encodings, in a row of five slices. -/
structure Five (w : World) (g : Nat) (a0 : Option Addr) (k0 : Nat) (l0 : List UInt8) (a1 : Option Addr) (k1 : Nat) (l1 : List UInt8) (a2 : Option Addr) (k2 : Nat) (l2 : List UInt8) (a3 : Option Addr) (k3 : Nat) (l3 : List UInt8) (a4 : Option Addr) (k4 : Nat) (l4 : List UInt8) : Prop where
  c0 : w.cell? ⟨g, 0, none⟩ = some (.slice a0 l0.length k0)
  c1 : w.cell? ⟨g, 1, none⟩ = some (.slice a1 l1.length k1)
  c2 : w.cell? ⟨g, 2, none⟩ = some (.slice a2 l2.length k2)
  c3 : w.cell? ⟨g, 3, none⟩ = some (.slice a3 l3.length k3)
  c4 : w.cell? ⟨g, 4, none⟩ = some (.slice a4 l4.length k4)
  r0 : Rd w a0 l0.length k0 1 (byteVals l0)
  r1 : Rd w a1 l1.length k1 1 (byteVals l1)
  r2 : Rd w a2 l2.length k2 1 (byteVals l2)
  r3 : Rd w a3 l3.length k3 1 (byteVals l3)
  r4 : Rd w a4 l4.length k4 1 (byteVals l4)

theorem Five.below {w w' : World} {g : Nat} {a0 : Option Addr} {k0 : Nat} {l0 : List UInt8} {a1 : Option Addr} {k1 : Nat} {l1 : List UInt8} {a2 : Option Addr} {k2 : Nat} {l2 : List UInt8} {a3 : Option Addr} {k3 : Nat} {l3 : List UInt8} {a4 : Option Addr} {k4 : Nat} {l4 : List UInt8}
    (h : Five w g a0 k0 l0 a1 k1 l1 a2 k2 l2 a3 k3 l3 a4 k4 l4) (hb : Below w.heap.size w w') : Five w' g a0 k0 l0 a1 k1 l1 a2 k2 l2 a3 k3 l3 a4 k4 l4 := by
  have c : ∀ {p : Addr} {u : Value}, w.cell? p = some u → w'.cell? p = some u := fun hu => (hb.cell (cell_block_lt hu)).trans hu
  exact ⟨c h.c0, c h.c1, c h.c2, c h.c3, c h.c4, h.r0.call0 hb, h.r1.call0 hb, h.r2.call0 hb, h.r3.call0 hb, h.r4.call0 hb⟩

theorem Five.mk5 {w : World} {a0 : Option Addr} {k0 : Nat} {l0 : List UInt8} {a1 : Option Addr} {k1 : Nat} {l1 : List UInt8} {a2 : Option Addr} {k2 : Nat} {l2 : List UInt8} {a3 : Option Addr} {k3 : Nat} {l3 : List UInt8} {a4 : Option Addr} {k4 : Nat} {l4 : List UInt8} (e : TypeId)
    (r0 : Rd w a0 l0.length k0 1 (byteVals l0)) (r1 : Rd w a1 l1.length k1 1 (byteVals l1)) (r2 : Rd w a2 l2.length k2 1 (byteVals l2)) (r3 : Rd w a3 l3.length k3 1 (byteVals l3)) (r4 : Rd w a4 l4.length k4 1 (byteVals l4)) :
    Five (w.alloc (.cells #[.slice a0 l0.length k0, .slice a1 l1.length k1, .slice a2 l2.length k2, .slice a3 l3.length k3, .slice a4 l4.length k4] e)) w.heap.size a0 k0 l0 a1 k1 l1 a2 k2 l2 a3 k3 l3 a4 k4 l4 := by
  have c : ∀ (j : Nat) (v : Value), #[Value.slice a0 l0.length k0, .slice a1 l1.length k1, .slice a2 l2.length k2, .slice a3 l3.length k3, .slice a4 l4.length k4][j]? = some v →
      (w.alloc (.cells #[.slice a0 l0.length k0, .slice a1 l1.length k1, .slice a2 l2.length k2, .slice a3 l3.length k3, .slice a4 l4.length k4] e)).cell? ⟨w.heap.size, j, none⟩ = some v := fun j v h => by
    rw [cell_of_row _ w.heap.size j _ e (0, 0) (heap_alloc_new w _)]; exact h
  exact ⟨c 0 _ rfl, c 1 _ rfl, c 2 _ rfl, c 3 _ rfl, c 4 _ rfl, r0.alloc _, r1.alloc _, r2.alloc _, r3.alloc _, r4.alloc _⟩

theorem few_bool {ss : List (List UInt8)} {n : Nat} (h : n ≤ 40) (hs : ∀ s ∈ ss, s.length ≤ 140737488351232) (hn : ss.length = n) : n + totLen ss ≤ 4611686018427387904 := by
  have : totLen ss ≤ ss.length * 140737488351232 := by
    clear hn h
    induction ss with
    | nil => simp [totLen]
    | cons x ss ih =>
      have h : totLen (x :: ss) = x.length + totLen ss := by simp [totLen]
      have := ih (fun y hy => hs y (by simp [hy]))
      have := hs x (by simp)
      rw [h, List.length_cons, Nat.add_mul]; omega
  omega

set_option maxRecDepth 20000 in
set_option maxHeartbeats 8000000 in
theorem trunc_walk (n : Int) (h1 : -9223372036854775808 ≤ n) (h2 : n ≤ 9223372036854775807) (s : ByteArray) (hs : s.size ≤ 140737488351232)
    (a2 : Option Addr) (n2 k2 : Nat) (xs : List Int) (a3 : Option Addr) (n3 k3 : Nat) (ss : List (List UInt8)) (a4 : Option Addr) (n4 k4 : Nat) (ds : List (List UInt8)) (w : World)
    (hn2 : n2 ≤ 140737488351232) (R2 : Rd w a2 n2 k2 1 (intVals xs)) (hx : Hid (∀ x ∈ xs, -9223372036854775808 ≤ x ∧ x ≤ 9223372036854775807))
    (hn3 : n3 ≤ 140737488351232) (R3 : Rd w a3 n3 k3 1 (bstrVals ss)) (hss : Hid (∀ s ∈ ss, s.length ≤ 140737488351232))
    (hn4 : n4 ≤ 140737488351232) (R4 : Rd w a4 n4 k4 16 (digVals ds)) (hd : Hid (∀ d ∈ ds, d.length = 16)) :
    Calls Try.prog 9 #[.int .i64 n, .string s, .slice a2 n2 k2, .slice a3 n3 k3, .slice a4 n4 k4] w fun e w' => e = .returned (.bool true) ∧ Below w.heap.size w w' := by
  have L2 : Hid (xs.length = n2) := by have := R2.hlen; rw [intVals_length] at this; show _ = _; omega
  have L3 : Hid (ss.length = n3) := by have := R3.hlen; rw [bstrVals_length] at this; show _ = _; omega
  have L4 : Hid (n4 = ds.length) := dig_n hd R4
  by_cases hle : s.size + 10 * n2 + 16 * n4 ≤ 400 ∧ n3 ≤ 40
  · obtain ⟨hle, h40⟩ := hle
    have hfb := few_bool h40 hss.out L3.out
    by_cases hf : n3 + totLen ss ≤ 2000
    · have hsl := Lib.hid (show s.data.toList.length = s.size from by simp)
      have M0 := enc_len n h1 h2
      have M1 := encB_len s.data.toList (by rw [hsl.out]; omega)
      have M2 := encLI_len xs hx.out (by rw [L2.out]; omega)
      have M3 := encLB_len ss (by omega) (by rw [L3.out]; omega)
      have M4 := encLD_len ds hd.out (by rw [← L4.out]; omega)
      rw [hsl.out] at M1; rw [L2.out] at M2; rw [L3.out] at M3; rw [← L4.out] at M4
      have T0 : Hid (∀ i, i < (enc n).length → getI ((enc n).take i) = (0, 0, 10)) := fun i hi => getI_trunc n i h1 h2 hi
      have T1 : Hid (∀ i, i < (encB s.data.toList).length → getB ((encB s.data.toList).take i) = ([], 0, 10)) := fun i hi => getB_trunc s.data.toList (by rw [hsl.out]; omega) i hi
      have T2 : Hid (∀ i, i < (encL enc xs).length → getL getI 1 ((encL enc xs).take i) = ([], 0, 10)) := fun i hi => getL_trunc codecI cutsI (Nat.le_refl _) xs hx.out (by rw [L2.out]; omega) i hi
      have T3 : Hid (∀ i, i < (encL encB ss).length → getL getB 1 ((encL encB ss).take i) = ([], 0, 10)) := fun i hi => getL_trunc codecB cutsB (Nat.le_refl _) ss (fun x hx => by have := tot_each ss x hx; omega) (by rw [L3.out]; omega) i hi
      have T4 : Hid (∀ i, i < (encL (fun d => d) ds).length → getL getD16 16 ((encL (fun d => d) ds).take i) = ([], 0, 10)) := fun i hi => getLD_trunc ds hd.out (by rw [← L4.out]; omega) i hi
      go_enter Try.func9, Try.ntmps9
      go_wp2_with fail
      refine (few_any ss _ _ _ _ R3 (by omega)).mono ?_
      rintro e w1 ⟨rfl, rfl⟩
      rw [decide_eq_true hf]
      go_wp2_with fail
      refine (int_v rfl h1 h2).mono ?_
      rintro e w1 ⟨a_1, c_1, rfl, E0, hb1⟩
      have R2_1 := R2.call0 hb1
      have R3_1 := R3.call0 hb1
      have R4_1 := R4.call0 hb1
      have BEL_1 := (Below.refl _ _).call0 (Nat.le_refl _) hb1
      clear hb1 R2 R3 R4
      go_wp2_with fail
      refine (bytes_v rfl (by omega)).mono ?_
      rintro e w2 ⟨a_2, c_2, rfl, E1, hb2⟩
      have R2_2 := R2_1.call0 hb2
      have R3_2 := R3_1.call0 hb2
      have R4_2 := R4_1.call0 hb2
      have E0_2 := E0.call0 hb2
      have BEL_2 := BEL_1.call0 (Nat.le_refl _) hb2
      clear hb2 R2_1 R3_1 R4_1 E0 BEL_1
      go_wp2_with fail
      refine (ints_v rfl R2_2 hx (by omega)).mono ?_
      rintro e w3 ⟨a_3, c_3, rfl, E2, hb3⟩
      have R3_3 := R3_2.call0 hb3
      have R4_3 := R4_2.call0 hb3
      have E0_3 := E0_2.call0 hb3
      have E1_3 := E1.call0 hb3
      have BEL_3 := BEL_2.call0 (Nat.le_refl _) hb3
      clear hb3 R2_2 R3_2 R4_2 E0_2 E1 BEL_2
      go_wp2_with fail
      refine (strings_v rfl R3_3 (by omega) (by omega)).mono ?_
      rintro e w4 ⟨a_4, c_4, rfl, E3, hb4⟩
      have R4_4 := R4_3.call0 hb4
      have E0_4 := E0_3.call0 hb4
      have E1_4 := E1_3.call0 hb4
      have E2_4 := E2.call0 hb4
      have BEL_4 := BEL_3.call0 (Nat.le_refl _) hb4
      clear hb4 R3_3 R4_3 E0_3 E1_3 E2 BEL_3
      go_wp2_with fail
      refine (digests_v rfl hd R4_4 (by omega)).mono ?_
      rintro e w5 ⟨a_5, c_5, rfl, E4, hb5⟩
      have E0_5 := E0_4.call0 hb5
      have E1_5 := E1_4.call0 hb5
      have E2_5 := E2_4.call0 hb5
      have E3_5 := E3.call0 hb5
      have BEL_5 := BEL_4.call0 (Nat.le_refl _) hb5
      clear hb5 R4_4 E0_4 E1_4 E2_4 E3 BEL_4
      have hF := Five.mk5 28 E0_5 E1_5 E2_5 E3_5 E4
      have hB := BEL_5.alloc (by have := BEL_5.size; omega) (.cells #[.slice a_1 (enc n).length c_1, .slice a_2 (encB s.data.toList).length c_2, .slice a_3 (encL enc xs).length c_3, .slice a_4 (encL encB ss).length c_4, .slice a_5 (encL (fun d => d) ds).length c_5] 28)
      clear E0_5 E1_5 E2_5 E3_5 E4 BEL_5
      go_wp2_with fail
      generalize w5.alloc (.cells #[.slice a_1 (enc n).length c_1, .slice a_2 (encB s.data.toList).length c_2, .slice a_3 (encL enc xs).length c_3, .slice a_4 (encL encB ss).length c_4, .slice a_5 (encL (fun d => d) ds).length c_5] 28) = wz at *
      generalize w5.heap.size = g at *
      generalize enc n = l0 at *
      generalize encB s.data.toList = l1 at *
      generalize encL enc xs = l2 at *
      generalize encL encB ss = l3 at *
      generalize encL (fun d => d) ds = l4 at *
      go_loopw [49] (fun v wr => ∃ k : Int, 0 ≤ k ∧ k ≤ 5 ∧ v = .int .i64 k ∧ Five wr g a_1 c_1 l0 a_2 c_2 l1 a_3 c_3 l2 a_4 c_4 l3 a_5 c_5 l4 ∧ Below w.heap.size w wr)
        (fun v _ => (5 - intOf v).toNat)
      case atStart => exact ⟨0, by omega, by omega, rfl, hF, hB⟩
      case round =>
        clear hF hB
        obtain ⟨k, hk0, hk5, rfl, hF, hB⟩ := hrel
        rcases (show k = 0 ∨ k = 1 ∨ k = 2 ∨ k = 3 ∨ k = 4 ∨ k = 5 by omega) with rfl | rfl | rfl | rfl | rfl | rfl
        · have hcell := hF.c0
          have hrd := hF.r0
          have hcap := hrd.hcap
          have hmx := hrd.lenMax
          obtain ⟨wo, rfl⟩ : ∃ wo : World, wo = wr := ⟨_, rfl⟩
          go_wp2_with fail
          go_loopw [57] (fun v wr => ∃ i : Nat, i ≤ l0.length ∧ i ≤ 500 ∧ v = .int .i64 i ∧ Five wr g a_1 c_1 l0 a_2 c_2 l1 a_3 c_3 l2 a_4 c_4 l3 a_5 c_5 l4 ∧ Below w.heap.size w wr)
            (fun v _ => 500 - (intOf v).toNat)
          case atStart => exact ⟨0, by omega, by omega, rfl, hF, hB⟩
          case round =>
            clear hF hB hcell hrd
            obtain ⟨i, hi, hi5, rfl, hF, hB⟩ := hrel
            have hrd := hF.r0
            by_cases hlt : i < l0.length ∧ i < 500
            · obtain ⟨hlt, hlt5⟩ := hlt
              have Rp := hrd.pre i (by omega)
              rw [show List.take i (byteVals l0) = byteVals (l0.take i) from by simp [byteVals, List.map_take]] at Rp
              rcases Nat.eq_zero_or_pos i with rfl | hi0
              all_goals
                go_wp2_with fail
                refine (getInt_n (T0.out _ hlt) Rp).mono ?_
                rintro e wq ⟨rfl, rfl⟩
                go_wp2_with fail
                go_roundw
                case rel => first | exact ⟨1, by omega, by omega, by go_num, hF, hB⟩ | exact ⟨i + 1, by omega, by omega, by go_num, hF, hB⟩
                case measure => first | (simp [intOf]; done) | (simp [intOf]; omega)
            · by_cases hge : i < 500
              all_goals go_wp2_with fail
              all_goals
                go_roundw
                case rel => exact ⟨1, by omega, by omega, by first | rfl | go_num, hF, hB⟩
                try (case measure => first | (simp [intOf]; done) | (simp [intOf]; omega))
        · have hcell := hF.c1
          have hrd := hF.r1
          have hcap := hrd.hcap
          have hmx := hrd.lenMax
          obtain ⟨wo, rfl⟩ : ∃ wo : World, wo = wr := ⟨_, rfl⟩
          go_wp2_with fail
          go_loopw [57] (fun v wr => ∃ i : Nat, i ≤ l1.length ∧ i ≤ 500 ∧ v = .int .i64 i ∧ Five wr g a_1 c_1 l0 a_2 c_2 l1 a_3 c_3 l2 a_4 c_4 l3 a_5 c_5 l4 ∧ Below w.heap.size w wr)
            (fun v _ => 500 - (intOf v).toNat)
          case atStart => exact ⟨0, by omega, by omega, rfl, hF, hB⟩
          case round =>
            clear hF hB hcell hrd
            obtain ⟨i, hi, hi5, rfl, hF, hB⟩ := hrel
            have hrd := hF.r1
            by_cases hlt : i < l1.length ∧ i < 500
            · obtain ⟨hlt, hlt5⟩ := hlt
              have Rp := hrd.pre i (by omega)
              rw [show List.take i (byteVals l1) = byteVals (l1.take i) from by simp [byteVals, List.map_take]] at Rp
              rcases Nat.eq_zero_or_pos i with rfl | hi0
              all_goals
                go_wp2_with fail
                refine (getBytes_n (T1.out _ hlt) Rp).mono ?_
                rintro e wq ⟨rfl, rfl⟩
                go_wp2_with fail
                go_roundw
                case rel => first | exact ⟨1, by omega, by omega, by go_num, hF, hB⟩ | exact ⟨i + 1, by omega, by omega, by go_num, hF, hB⟩
                case measure => first | (simp [intOf]; done) | (simp [intOf]; omega)
            · by_cases hge : i < 500
              all_goals go_wp2_with fail
              all_goals
                go_roundw
                case rel => exact ⟨2, by omega, by omega, by first | rfl | go_num, hF, hB⟩
                try (case measure => first | (simp [intOf]; done) | (simp [intOf]; omega))
        · have hcell := hF.c2
          have hrd := hF.r2
          have hcap := hrd.hcap
          have hmx := hrd.lenMax
          obtain ⟨wo, rfl⟩ : ∃ wo : World, wo = wr := ⟨_, rfl⟩
          go_wp2_with fail
          go_loopw [57] (fun v wr => ∃ i : Nat, i ≤ l2.length ∧ i ≤ 500 ∧ v = .int .i64 i ∧ Five wr g a_1 c_1 l0 a_2 c_2 l1 a_3 c_3 l2 a_4 c_4 l3 a_5 c_5 l4 ∧ Below w.heap.size w wr)
            (fun v _ => 500 - (intOf v).toNat)
          case atStart => exact ⟨0, by omega, by omega, rfl, hF, hB⟩
          case round =>
            clear hF hB hcell hrd
            obtain ⟨i, hi, hi5, rfl, hF, hB⟩ := hrel
            have hrd := hF.r2
            by_cases hlt : i < l2.length ∧ i < 500
            · obtain ⟨hlt, hlt5⟩ := hlt
              have Rp := hrd.pre i (by omega)
              rw [show List.take i (byteVals l2) = byteVals (l2.take i) from by simp [byteVals, List.map_take]] at Rp
              rcases Nat.eq_zero_or_pos i with rfl | hi0
              all_goals
                go_wp2_with fail
                refine (getInts_v (T2.out _ hlt) Rp (by omega)).mono ?_
                rintro e wq ⟨aq, cq, rfl, Rq, hbq⟩
                go_wp2_with fail
                go_roundw
                case rel => first | exact ⟨1, by omega, by omega, by go_num, hF.below hbq, hB.call0 (Nat.le_refl _) hbq⟩ | exact ⟨i + 1, by omega, by omega, by go_num, hF.below hbq, hB.call0 (Nat.le_refl _) hbq⟩
                case measure => first | (simp [intOf]; done) | (simp [intOf]; omega)
            · by_cases hge : i < 500
              all_goals go_wp2_with fail
              all_goals
                go_roundw
                case rel => exact ⟨3, by omega, by omega, by first | rfl | go_num, hF, hB⟩
                try (case measure => first | (simp [intOf]; done) | (simp [intOf]; omega))
        · have hcell := hF.c3
          have hrd := hF.r3
          have hcap := hrd.hcap
          have hmx := hrd.lenMax
          obtain ⟨wo, rfl⟩ : ∃ wo : World, wo = wr := ⟨_, rfl⟩
          by_cases hm5 : 500 < l3.length
          all_goals
            go_wp2_with fail
            go_loopw [57] (fun v wr => ∃ i : Nat, i ≤ l3.length ∧ i ≤ 500 ∧ v = .int .i64 i ∧ Five wr g a_1 c_1 l0 a_2 c_2 l1 a_3 c_3 l2 a_4 c_4 l3 a_5 c_5 l4 ∧ Below w.heap.size w wr)
              (fun v _ => 500 - (intOf v).toNat)
            case atStart => exact ⟨0, by omega, by omega, rfl, hF, hB⟩
            case round =>
              clear hF hB hcell hrd
              obtain ⟨i, hi, hi5, rfl, hF, hB⟩ := hrel
              have hrd := hF.r3
              by_cases hlt : i < l3.length ∧ i < 500
              · obtain ⟨hlt, hlt5⟩ := hlt
                have Rp := hrd.pre i (by omega)
                rw [show List.take i (byteVals l3) = byteVals (l3.take i) from by simp [byteVals, List.map_take]] at Rp
                rcases Nat.eq_zero_or_pos i with rfl | hi0
                all_goals
                  go_wp2_with fail
                  refine (getStrings_v (T3.out _ hlt) Rp (by omega)).mono ?_
                  rintro e wq ⟨aq, cq, rfl, Rq, hbq⟩
                  go_wp2_with fail
                  go_roundw
                  case rel => first | exact ⟨1, by omega, by omega, by go_num, hF.below hbq, hB.call0 (Nat.le_refl _) hbq⟩ | exact ⟨i + 1, by omega, by omega, by go_num, hF.below hbq, hB.call0 (Nat.le_refl _) hbq⟩
                  case measure => first | (simp [intOf]; done) | (simp [intOf]; omega)
              · by_cases hge : i < 500
                all_goals go_wp2_with fail
                all_goals
                  go_roundw
                  case rel => exact ⟨4, by omega, by omega, by first | rfl | go_num, hF, hB⟩
                  try (case measure => first | (simp [intOf]; done) | (simp [intOf]; omega))
        · have hcell := hF.c4
          have hrd := hF.r4
          have hcap := hrd.hcap
          have hmx := hrd.lenMax
          obtain ⟨wo, rfl⟩ : ∃ wo : World, wo = wr := ⟨_, rfl⟩
          go_wp2_with fail
          go_loopw [57] (fun v wr => ∃ i : Nat, i ≤ l4.length ∧ i ≤ 500 ∧ v = .int .i64 i ∧ Five wr g a_1 c_1 l0 a_2 c_2 l1 a_3 c_3 l2 a_4 c_4 l3 a_5 c_5 l4 ∧ Below w.heap.size w wr)
            (fun v _ => 500 - (intOf v).toNat)
          case atStart => exact ⟨0, by omega, by omega, rfl, hF, hB⟩
          case round =>
            clear hF hB hcell hrd
            obtain ⟨i, hi, hi5, rfl, hF, hB⟩ := hrel
            have hrd := hF.r4
            by_cases hlt : i < l4.length ∧ i < 500
            · obtain ⟨hlt, hlt5⟩ := hlt
              have Rp := hrd.pre i (by omega)
              rw [show List.take i (byteVals l4) = byteVals (l4.take i) from by simp [byteVals, List.map_take]] at Rp
              rcases Nat.eq_zero_or_pos i with rfl | hi0
              all_goals
                go_wp2_with fail
                refine (getDigests_v (T4.out _ hlt) Rp (by omega)).mono ?_
                rintro e wq ⟨aq, cq, rfl, Rq, hbq⟩
                go_wp2_with fail
                go_roundw
                case rel => first | exact ⟨1, by omega, by omega, by go_num, hF.below hbq, hB.call0 (Nat.le_refl _) hbq⟩ | exact ⟨i + 1, by omega, by omega, by go_num, hF.below hbq, hB.call0 (Nat.le_refl _) hbq⟩
                case measure => first | (simp [intOf]; done) | (simp [intOf]; omega)
            · by_cases hge : i < 500
              all_goals go_wp2_with fail
              all_goals
                go_roundw
                case rel => exact ⟨5, by omega, by omega, by first | rfl | go_num, hF, hB⟩
                try (case measure => first | (simp [intOf]; done) | (simp [intOf]; omega))
        · go_wp2_with (go_at_call 12; refine (sanity_any _).mono ?_; rintro e w9 ⟨rfl, hb9⟩)
          go_ret
          exact ⟨rfl, hB.call0 (Nat.le_refl _) hb9⟩
    · go_enter Try.func9, Try.ntmps9
      go_wp2_with fail
      refine (few_any ss _ _ _ _ R3 (by omega)).mono ?_
      rintro e w1 ⟨rfl, rfl⟩
      rw [decide_eq_false hf]
      go_wp2_with (go_at_call 12; refine (sanity_any _).mono ?_; rintro e w9 ⟨rfl, hb9⟩)
      go_ret
      exact ⟨rfl, hb9⟩
  · by_cases hg : s.size + 10 * n2 + 16 * n4 ≤ 400
    · have h40 : ¬ n3 ≤ 40 := fun h => hle ⟨hg, h⟩
      clear hle
      go_enter Try.func9, Try.ntmps9
      go_wp2_with (go_at_call 12; refine (sanity_any _).mono ?_; rintro e w9 ⟨rfl, hb9⟩)
      go_ret
      exact ⟨rfl, hb9⟩
    · clear hle
      go_enter Try.func9, Try.ntmps9
      go_wp2_with (go_at_call 12; refine (sanity_any _).mono ?_; rintro e w9 ⟨rfl, hb9⟩)
      go_ret
      exact ⟨rfl, hb9⟩
end Go.Proofs.Ytppmlhjpdmndoaa
