/-
  The walk of the program's schedule. No condition.
-/
import Derived.Test.YtcngnpkpaliflaaDoorWRot
import Derived.RegionTactic
import Derived.ChangeAlike
import Derived.Deep.CutRange
namespace Go.Proofs.YtcngnpkpaliflaaDoor
open Go.RowKit

/-- The words so far, then zeros. -/
def schedVals (b : List UInt8) (t : Nat) : List Value := wordVals (schedTo b t) ++ List.replicate (64 - t) (.int .u32 0)
theorem schedVals_length (b : List UInt8) (t : Nat) (ht : t ≤ 64) : (schedVals b t).length = 64 := by
  unfold schedVals; rw [List.length_append, wordVals_length, schedTo_length, List.length_replicate]; omega
theorem schedVals_set (b : List UInt8) (t : Nat) (ht : t < 64) : (schedVals b t).set t (.int .u32 ((wAt b (schedTo b t) t).toNat : Int)) = schedVals b (t + 1) := by
  unfold schedVals
  rw [List.set_append_right _ _ (by rw [wordVals_length, schedTo_length]; exact Nat.le_refl _), wordVals_length, schedTo_length, Nat.sub_self, show 64 - t = (64 - (t + 1)) + 1 from by omega, List.replicate_succ, List.set_cons_zero]
  simp [schedTo, wordVals]
theorem schedVals_get (b : List UInt8) (t i : Nat) (hi : i < t) : (schedVals b t)[i]? = some (.int .u32 (((schedTo b t).getD i 0).toNat : Int)) := by
  unfold schedVals
  rw [List.getElem?_append_left (by rw [wordVals_length, schedTo_length]; exact hi)]
  simp [wordVals, List.getD_eq_getElem?_getD, List.getElem?_eq_getElem (show i < (schedTo b t).length by rw [schedTo_length]; exact hi)]

theorem schedVals_at (b : List UInt8) (t : Nat) (ht : t < 64) : (schedVals b t)[t]? = some (.int .u32 0) := by
  unfold schedVals
  rw [List.getElem?_append_right (by rw [wordVals_length, schedTo_length]; exact Nat.le_refl _), wordVals_length, schedTo_length, Nat.sub_self, List.getElem?_replicate, if_pos (by omega)]
theorem schedVals_all (b : List UInt8) : schedVals b 64 = wordVals (sched b) := by simp [schedVals, sched]
theorem schedVals_zero (b : List UInt8) (t : Nat) (ht : t < 64) : (schedVals b t).set t (.int .u32 ((0 : Nat) : Int)) = schedVals b t := by
  unfold schedVals
  rw [List.set_append_right _ _ (by rw [wordVals_length, schedTo_length]; exact Nat.le_refl _), wordVals_length, schedTo_length, Nat.sub_self, show 64 - t = (64 - (t + 1)) + 1 from by omega, List.replicate_succ, List.set_cons_zero]
  rfl
theorem sub_byte (b : List UInt8) (i j : Nat) (hj : j < 4) : ((b.drop i).take 4).getD j 0 = b.getD (i + j) 0 := by
  rw [List.getD_eq_getElem?_getD, List.getElem?_take, if_pos hj, List.getElem?_drop, List.getD_eq_getElem?_getD]

/-- The first j bytes of a word. -/
def partN (b : List UInt8) (i : Nat) : Nat → Nat
  | 0 => 0
  | j + 1 => partN b i j * 256 + (b.getD (i + j) 0).toNat
theorem partN_lt (b : List UInt8) (i j : Nat) : partN b i j < 256 ^ j := by
  induction j with
  | zero => simp [partN]
  | succ j ih => have := (b.getD (i + j) 0).toNat_lt; rw [partN, Nat.pow_succ]; omega
theorem partN_four (b : List UInt8) (i : Nat) : partN b i 4 = (word b i).toNat := by
  have h := partN_lt b i 4
  have e : partN b i 4 = (b.getD i 0).toNat * 16777216 + (b.getD (i + 1) 0).toNat * 65536 + (b.getD (i + 2) 0).toNat * 256 + (b.getD (i + 3) 0).toNat := by
    simp only [partN, Nat.add_zero]; omega
  rw [e] at h ⊢
  unfold word
  rw [UInt32.toNat_ofNat', Nat.mod_eq_of_lt h]

theorem agg73 : AggT Tryd.prog 73 64 := ⟨by kernel_rfl, by kernel_rfl⟩
theorem or_byte {p x : Nat} (hx : x < 256) (hp : p < 16777216) : bits .or .u32 ((p : Int) * 256) (x : Int) = ((p * 256 + x : Nat) : Int) := by
  rw [show ((p : Int) * 256) = ((p * 256 : Nat) : Int) from by omega, u32_or_nat _ _ (by omega) (by omega)]
  congr 1
  have := Nat.two_pow_add_eq_or_of_lt (i := 8) (b := x) hx p
  rw [show 2 ^ 8 * p = p * 256 from by omega] at this
  omega

theorem rotl7 (x : UInt32) (w : World) : Calls Tryd.prog 55 #[.int .u32 (x.toNat : Int), .int .i64 (-7)] w fun e w' => e = .returned (.int .u32 ((rot x 7).toNat : Int)) ∧ w = w' := rotl_any x 7 (by omega) (by omega) w
theorem rotl18 (x : UInt32) (w : World) : Calls Tryd.prog 55 #[.int .u32 (x.toNat : Int), .int .i64 (-18)] w fun e w' => e = .returned (.int .u32 ((rot x 18).toNat : Int)) ∧ w = w' := rotl_any x 18 (by omega) (by omega) w
theorem rotl17 (x : UInt32) (w : World) : Calls Tryd.prog 55 #[.int .u32 (x.toNat : Int), .int .i64 (-17)] w fun e w' => e = .returned (.int .u32 ((rot x 17).toNat : Int)) ∧ w = w' := rotl_any x 17 (by omega) (by omega) w
theorem rotl19 (x : UInt32) (w : World) : Calls Tryd.prog 55 #[.int .u32 (x.toNat : Int), .int .i64 (-19)] w fun e w' => e = .returned (.int .u32 ((rot x 19).toNat : Int)) ∧ w = w' := rotl_any x 19 (by omega) (by omega) w
theorem shr_word (x : UInt32) (k : Nat) : ((x.toNat : Int) / (k : Int)) = ((UInt32.ofNat (x.toNat / k)).toNat : Int) := by
  have hx := x.toNat_lt
  have : x.toNat / k ≤ x.toNat := Nat.div_le_self _ _
  rw [UInt32.toNat_ofNat', Nat.mod_eq_of_lt (by omega)]; simp

set_option maxRecDepth 20000 in
set_option maxHeartbeats 1000000 in
theorem schedule_any (b : List UInt8) (a : Option Addr) (cap : Nat) (w : World) (hrd : Rd w a 64 cap 1 (byteVals b)) :
    Calls Tryd.prog 51 #[.slice a 64 cap] w (RetV (.agg (wordVals (sched b)).toArray) w) := by
  have hcap := hrd.hcap
  have hmax := hrd.hmax
  unfold maxLen at hmax
  obtain ⟨g, off, rfl, hg, hby⟩ := hrd.byteAll (by omega)
  have HBY := Lib.hid hby
  clear hby hrd
  go_enter Tryd.func51, Tryd.ntmps51
  go_wp2_with fail
  go_loopw [11] (fun i wr => ∃ t : Nat, t ≤ 64 ∧ i = .int .i64 t ∧ Blk wr (w.heap.size + 1) 73 (schedVals b t) ∧ Blk wr w.heap.size 73 (List.replicate 64 (.int .u32 0)) ∧ Below w.heap.size w wr) (fun i _ => 64 - (intOf i).toNat)
  case atStart => exact ⟨0, by omega, rfl, Blk.new (by simp) rfl, (Blk.new rfl rfl).alloc _, ((Below.refl _ _).alloc (Nat.le_refl _) _).alloc (by simp) _⟩
  case round =>
    obtain ⟨t, ht, rfl, hb1, hb2, hB⟩ := hrel
    obtain ⟨wo, rfl⟩ : ∃ wo : World, wo = wr := ⟨_, rfl⟩
    by_cases hlt : t < 64
    · have hset := Lib.hid (schedVals_set b t hlt)
      have hlen := Lib.hid (schedVals_length b t ht)
      by_cases h16 : t < 16
      · have hw := Lib.hid (show wAt b (schedTo b t) t = word b (4 * t) from if_pos h16)
        go_wp2_with fail
        go_loopw [24] (fun i wr => ∃ j : Nat, j ≤ 4 ∧ i = .int .i64 j ∧ Blk wr (w.heap.size + 1) 73 ((schedVals b t).set t (.int .u32 ((partN b (4 * t) j : Nat) : Int))) ∧ Blk wr w.heap.size 73 (List.replicate 64 (.int .u32 0)) ∧ Below w.heap.size w wr) (fun i _ => 4 - (intOf i).toNat)
        case atStart => exact ⟨0, by omega, rfl, by rw [show partN b (4 * t) 0 = 0 from rfl, schedVals_zero b t hlt]; exact hb1, hb2, hB⟩
        case round =>
          clear hb1 hb2 hB
          obtain ⟨j, hj, rfl, hb1, hb2, hB⟩ := hrel
          by_cases hjt : j < 4
          · have hc := (hB.cell (p := ⟨g, off + (4 * t + j), none⟩) hg).trans (HBY.out (4 * t + j) (by omega))
            rw [← Nat.add_assoc] at hc
            have hN := Lib.hid (show partN b (4 * t) (j + 1) = partN b (4 * t) j * 256 + (b.getD (4 * t + j) 0).toNat from rfl)
            have h256 : (b.getD (4 * t + j) 0).toNat < 256 := (b.getD (4 * t + j) 0).toNat_lt
            have hpl : partN b (4 * t) j < 16777216 := by
              have := partN_lt b (4 * t) j
              exact Nat.lt_of_lt_of_le this (Nat.le_trans (Nat.pow_le_pow_right (by omega) (show j ≤ 3 by omega)) (by decide))
            generalize (b.getD (4 * t + j) 0).toNat = x at *
            generalize partN b (4 * t) j = q at *
            have hor := or_byte h256 hpl
            have hcc := hb1.cellOf (i := t) (v := .int .u32 (q : Int)) (List.getElem?_set_self (by rw [hlen.out]; exact hlt))
            have hff := hb1.free t
            go_wp2_with fail
            go_roundw
            case rel => exact ⟨j + 1, by omega, by go_num, by have := hb1.set t (.int .u32 ((q * 256 + x : Nat) : Int)); rw [List.set_set] at this; rw [hN.out]; simpa using this, hb2.other (by simp) _, hB.setCell (by simp) _⟩
            case measure => simp [intOf]; omega
          · have h4 : j = 4 := by omega
            subst h4
            go_wp2_with fail
            go_roundw
            case rel => exact ⟨t + 1, by omega, by go_num, by rw [← hset.out, hw.out, ← partN_four]; exact hb1, hb2, hB⟩
            case measure => simp [intOf]; omega
      · have hw := Lib.hid (show wAt b (schedTo b t) t = _ from if_neg h16)
        have hc15 := hb1.cellOf (schedVals_get b t (t - 15) (by omega))
        have hc2 := hb1.cellOf (schedVals_get b t (t - 2) (by omega))
        have hc16 := hb1.cellOf (schedVals_get b t (t - 16) (by omega))
        have hc7 := hb1.cellOf (schedVals_get b t (t - 7) (by omega))
        generalize (schedTo b t).getD (t - 15) 0 = p15 at *
        generalize (schedTo b t).getD (t - 2) 0 = p2 at *
        generalize (schedTo b t).getD (t - 16) 0 = p16 at *
        generalize (schedTo b t).getD (t - 7) 0 = p7 at *
        have C1 := Lib.hid (rotl7 p15)
        have C2 := Lib.hid (rotl18 p15)
        have C3 := Lib.hid (rotl17 p2)
        have C4 := Lib.hid (rotl19 p2)
        have S0 := Lib.hid (show sm0 p15 = rot p15 7 ^^^ rot p15 18 ^^^ UInt32.ofNat (p15.toNat / 8) from rfl)
        have S1 := Lib.hid (show sm1 p2 = rot p2 17 ^^^ rot p2 19 ^^^ UInt32.ofNat (p2.toNat / 1024) from rfl)
        have d0 : (p15.toNat : Int) / 8 = _ := shr_word p15 8
        have d1 : (p2.toNat : Int) / 1024 = _ := shr_word p2 1024
        generalize rot p15 7 = ra at *
        generalize rot p15 18 = rb at *
        generalize rot p2 17 = rc at *
        generalize rot p2 19 = rd at *
        generalize UInt32.ofNat (p15.toNat / 8) = da at *
        generalize UInt32.ofNat (p2.toNat / 1024) = db at *
        have x1 := u32_xor_word ra rb
        have x2 := u32_xor_word (ra ^^^ rb) da
        have x3 := u32_xor_word rc rd
        have x4 := u32_xor_word (rc ^^^ rd) db
        rw [← S0.out] at x2
        rw [← S1.out] at x4
        generalize sm0 p15 = s0 at *
        generalize sm1 p2 = s1 at *
        generalize ra ^^^ rb = rab at *
        generalize rc ^^^ rd = rcd at *
        have y1 := u32_add_word p16 s0
        have y2 := u32_add_word (p16 + s0) p7
        have y3 := u32_add_word (p16 + s0 + p7) s1
        generalize p16 + s0 + p7 + s1 = z3 at *
        generalize p16 + s0 + p7 = z2 at *
        generalize p16 + s0 = z1 at *
        go_wp2_with fail
        go_quiet (fail)
        go_wp2_with fail
        refine (C1.out _).mono ?_
        rintro e w1 ⟨rfl, rfl⟩
        go_wp2_with fail
        refine (C2.out _).mono ?_
        rintro e w1 ⟨rfl, rfl⟩
        go_wp2_with fail
        refine (C3.out _).mono ?_
        rintro e w1 ⟨rfl, rfl⟩
        go_wp2_with fail
        refine (C4.out _).mono ?_
        rintro e w1 ⟨rfl, rfl⟩
        go_wp2_with fail
        have HZ := Lib.hid (show z3 = wAt b (schedTo b t) t from hw.out.symm)
        have hb1' := hb1.drewN nq
        have hB' := below_drewN hB nq
        have hb2' := hb2.drewN nq
        have hct := hb1'.cellOf (schedVals_at b t hlt)
        have hft := hb1'.free t
        have hcd16 : (wo.drewN nq).cell? ⟨w.heap.size + 1, t - 16, none⟩ = _ := hc16
        have hcd7 : (wo.drewN nq).cell? ⟨w.heap.size + 1, t - 7, none⟩ = _ := hc7
        generalize wo.drewN nq = wd at *
        go_region
        go_wp2_with fail
        go_roundw
        case rel => exact ⟨t + 1, by omega, by go_num, by rw [← hset.out, ← HZ.out]; exact (hb1'.set t _).drew, (hb2'.other (by simp) _).drew, (hB'.setCell (by simp) _).drew⟩
        case measure => simp [intOf]; omega
    · have h64 : t = 64 := by omega
      subst h64
      rw [schedVals_all] at hb1
      have hsl : (wordVals (sched b)).length = 64 := by rw [wordVals_length]; exact schedTo_length b 64
      have Hsl := Lib.hid hsl; clear hsl
      have H1 := Lib.hid (wordVals_one (sched b))
      generalize hcs : wordVals (sched b) = cs at *
      have HC := Lib.hid hcs; clear hcs
      go_wp2_with (first
        | ((with_reducible show wpList _ _ _ _ _ _); refine wpList_load_agg (o := ⟨some 78, _, _, _, _, _⟩) rfl 73 _ rfl agg73 rfl (cs := cs) Hsl.out hb1.agg ?_)
        | ((with_reducible show wpList _ _ _ _ _ _); refine wpList_store_row (o := ⟨none, .store 73 (.tmp 2) (.tmp 78), _, _, _, _⟩) rfl 73 _ _ rfl rfl agg73.info hb2 (by simp) rfl (cs := cs) rfl Hsl.out H1.out ?_))
      exact bodyPost_ret (results_cell1 (g := w.heap.size) (cs := cs) rfl _ rfl (hb2.row cs) (by rw [Hsl.out]; exact agg73)) rfl ⟨by first | rfl | rw [HC.out], below_setRow hB (Nat.le_refl _) _⟩
end Go.Proofs.YtcngnpkpaliflaaDoor
