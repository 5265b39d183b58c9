/-
  The walk of the reference's words. No condition.
-/
import Derived.Test.YtcngnpkpaliflaaDoorWPad
import Derived.StillTailTactics
namespace Go.Proofs.YtcngnpkpaliflaaDoor
open Go.RowKit

theorem or_at (k : Nat) {p x : Nat} (hx : x < 256) (hk : k ≤ 16) (hp : p * 256 * 2 ^ k < 4294967296) : bits .or .u32 ((p * 256 * 2 ^ k : Nat) : Int) ((x * 2 ^ k : Nat) : Int) = ((p * 256 * 2 ^ k + x * 2 ^ k : Nat) : Int) := by
  have hk2 : 2 ^ k ≤ 2 ^ 16 := Nat.pow_le_pow_right (by omega) hk
  have hxk : x * 2 ^ k ≤ 255 * 2 ^ 16 := Nat.mul_le_mul (by omega) hk2
  rw [u32_or_nat _ _ hp (by omega)]
  congr 1
  have h1 : x * 2 ^ k < 2 ^ (8 + k) := by rw [Nat.pow_add]; exact Nat.mul_lt_mul_of_pos_right hx (Nat.two_pow_pos k)
  have := Nat.two_pow_add_eq_or_of_lt (i := 8 + k) h1 p
  rw [show 2 ^ (8 + k) * p = p * 256 * 2 ^ k from by rw [Nat.pow_add]; simp [Nat.mul_comm, Nat.mul_left_comm]] at this
  omega

/-- What a call of rotr answers. -/
def RotrC (x : UInt32) (n : Int) (r : UInt32) : Prop := ∀ w, Calls Tryd.prog 46 #[.int .u32 (x.toNat : Int), .int .i64 n] w fun e w' => e = .returned (.int .u32 (r.toNat : Int)) ∧ ∃ m, w' = w.drewN m
theorem RotrC.quiet {x : UInt32} {n : Int} {r : UInt32} (h : RotrC x n r) {w : World} {k : Nat} :
    Calls Tryd.prog 46 #[.int .u32 (x.toNat : Int), .int .i64 n] (w.drewN k) fun e w'' => e = .returned (.int .u32 (r.toNat : Int)) ∧ ∃ m, w'' = w.drewN m := Calls.quiet_of (h _)

set_option maxRecDepth 20000 in
set_option maxHeartbeats 1000000 in
theorem refWords_sched (b : List UInt8) (a : Option Addr) (cap : Nat) (w : World) (hrd : Rd w a 64 cap 1 (byteVals b)) :
    Calls Tryd.prog 45 #[.slice a 64 cap] w (RetV (.agg (wordVals (sched b)).toArray) w) := by
  have hcap := hrd.hcap
  have hmax := hrd.hmax
  unfold maxLen at hmax
  obtain ⟨g, off, rfl, hg, hby⟩ := hrd.byteAll (by omega)
  have HBY := Lib.hid hby
  clear hby hrd
  go_enter Tryd.func45, Tryd.ntmps45
  go_wp2_with fail
  go_loopw [4] (fun i wr => ∃ t : Nat, t ≤ 16 ∧ i = .int .i64 t ∧ Blk wr (w.heap.size + 1) 73 (schedVals b t) ∧ Blk wr w.heap.size 73 (List.replicate 64 (.int .u32 0)) ∧ Below w.heap.size w wr) (fun i _ => 16 - (intOf i).toNat)
  case atStart => exact ⟨0, by omega, rfl, Blk.new (by simp) rfl, (Blk.new rfl rfl).alloc _, ((Below.refl _ _).alloc (Nat.le_refl _) _).alloc (by simp) _⟩
  case round =>
    obtain ⟨t, ht, rfl, hb1, hb2, hB⟩ := hrel
    by_cases hlt : t < 16
    · have hset := Box.mk (schedVals_set b t (by omega))
      have hw := Box.mk (show wAt b (schedTo b t) t = word b (4 * t) from if_pos hlt)
      obtain ⟨p0, hp0⟩ : ∃ p, p = 4 * t := ⟨_, rfl⟩
      obtain ⟨p1, hp1⟩ : ∃ p, p = 4 * t + 1 := ⟨_, rfl⟩
      obtain ⟨p2, hp2⟩ : ∃ p, p = 4 * t + 2 := ⟨_, rfl⟩
      obtain ⟨p3, hp3⟩ : ∃ p, p = 4 * t + 3 := ⟨_, rfl⟩
      have e0 : IntKind.i64.wrap (4 * (t : Int)) = (p0 : Int) := by rw [IntKind.wrap_i64]; omega
      have e1 : IntKind.i64.wrap ((p0 : Int) + 1) = (p1 : Int) := by rw [IntKind.wrap_i64]; omega
      have e2 : IntKind.i64.wrap ((p0 : Int) + 2) = (p2 : Int) := by rw [IntKind.wrap_i64]; omega
      have e3 : IntKind.i64.wrap ((p0 : Int) + 3) = (p3 : Int) := by rw [IntKind.wrap_i64]; omega
      have c0 := (hB.cell (p := ⟨g, off + p0, none⟩) hg).trans (HBY.out p0 (by omega))
      have c1 := (hB.cell (p := ⟨g, off + p1, none⟩) hg).trans (HBY.out p1 (by omega))
      have c2 := (hB.cell (p := ⟨g, off + p2, none⟩) hg).trans (HBY.out p2 (by omega))
      have c3 := (hB.cell (p := ⟨g, off + p3, none⟩) hg).trans (HBY.out p3 (by omega))
      have b0 : (p0 : Int) < 64 := by omega
      have b1 : (p1 : Int) < 64 := by omega
      have b2 : (p2 : Int) < 64 := by omega
      have b3 : (p3 : Int) < 64 := by omega
      have bt : (t : Int) < 64 := by omega
      have hword : (word b (4 * t)).toNat = (b.getD p0 0).toNat * 16777216 + (b.getD p1 0).toNat * 65536 + (b.getD p2 0).toNat * 256 + (b.getD p3 0).toNat := by
        have h0 := (b.getD (4 * t) 0).toNat_lt
        have h1 := (b.getD (4 * t + 1) 0).toNat_lt
        have h2 := (b.getD (4 * t + 2) 0).toNat_lt
        have h3 := (b.getD (4 * t + 3) 0).toNat_lt
        rw [hp0, hp1, hp2, hp3]; unfold word; rw [UInt32.toNat_ofNat', Nat.mod_eq_of_lt (by omega)]
      have x0 := (b.getD p0 0).toNat_lt
      have x1 := (b.getD p1 0).toNat_lt
      have x2 := (b.getD p2 0).toNat_lt
      have x3 := (b.getD p3 0).toNat_lt
      generalize (b.getD p0 0).toNat = y0 at *
      generalize (b.getD p1 0).toNat = y1 at *
      generalize (b.getD p2 0).toNat = y2 at *
      generalize (b.getD p3 0).toNat = y3 at *
      obtain ⟨q1, hq1⟩ : ∃ q, q = y0 * 16777216 + y1 * 65536 := ⟨_, rfl⟩
      obtain ⟨q2, hq2⟩ : ∃ q, q = q1 + y2 * 256 := ⟨_, rfl⟩
      obtain ⟨q3, hq3⟩ : ∃ q, q = q2 + y3 := ⟨_, rfl⟩
      have o1 : bits .or .u32 ((y0 : Int) * 16777216) ((y1 : Int) * 65536) = (q1 : Int) := by
        rw [show (y0 : Int) * 16777216 = ((y0 * 256 * 65536 : Nat) : Int) from by omega, show (y1 : Int) * 65536 = ((y1 * 65536 : Nat) : Int) from by omega, or_at 16 (by omega) (by omega) (by omega), hq1]; omega
      have o2 : bits .or .u32 (q1 : Int) ((y2 : Int) * 256) = (q2 : Int) := by
        rw [show q1 = (y0 * 256 + y1) * 256 * 256 from by omega, show (y2 : Int) * 256 = ((y2 * 256 : Nat) : Int) from by omega, or_at 8 (by omega) (by omega) (by omega), hq2]; omega
      have o3 : bits .or .u32 (q2 : Int) (y3 : Int) = (q3 : Int) := by
        have := or_byte (p := y0 * 65536 + y1 * 256 + y2) (x := y3) (by omega) (by omega)
        rw [show (q2 : Int) = ((y0 * 65536 + y1 * 256 + y2 : Nat) : Int) * 256 from by omega, this]; omega
      have HW := Box.mk (hword.trans (show _ = q3 from by omega)); clear hword
      have hcc := hb1.cellOf (schedVals_at b t (by omega))
      have hff := hb1.free t
      clear hp0 hp1 hp2 hp3 hq1 hq2 hq3
      go_wp2_with fail
      go_still_tail 35, (by kernel_rfl)
      go_wp2_with fail
      go_roundw
      case rel => exact ⟨t + 1, by omega, by go_num, by rw [← hset.out, hw.out, HW.out]; exact (hb1.set t _).drew, (hb2.other (by simp) _).drew, (hB.setCell (by simp) _).drew⟩
      case measure => simp [intOf]; omega
    · have h16 : t = 16 := by omega
      subst h16
      go_wp2_with fail
      go_loopw [5] (fun k wr => ∃ t : Nat, 16 ≤ t ∧ t ≤ 64 ∧ k = .int .i64 t ∧ Blk wr (w.heap.size + 1) 73 (schedVals b t) ∧ Blk wr w.heap.size 73 (List.replicate 64 (.int .u32 0)) ∧ Below w.heap.size w wr) (fun i _ => 64 - (intOf i).toNat)
      case atStart => exact ⟨16, by omega, by omega, rfl, hb1, hb2, hB⟩
      case round =>
        clear hb1 hb2 hB
        obtain ⟨t, ht16, ht, rfl, hb1, hb2, hB⟩ := hrel
        obtain ⟨wo, rfl⟩ : ∃ wo : World, wo = wr := ⟨_, rfl⟩
        by_cases hlt : t < 64
        · have hset := Box.mk (schedVals_set b t hlt)
          have hw := Box.mk (show wAt b (schedTo b t) t = _ from if_neg (show ¬ t < 16 by omega))
          have hc15 := hb1.cellOf (schedVals_get b t (t - 15) (by omega))
          have hc2 := hb1.cellOf (schedVals_get b t (t - 2) (by omega))
          have hc16 := hb1.cellOf (schedVals_get b t (t - 16) (by omega))
          have hc7 := hb1.cellOf (schedVals_get b t (t - 7) (by omega))
          generalize (schedTo b t).getD (t - 15) 0 = p15 at *
          generalize (schedTo b t).getD (t - 2) 0 = p2 at *
          generalize (schedTo b t).getD (t - 16) 0 = p16 at *
          generalize (schedTo b t).getD (t - 7) 0 = p7 at *
          have C1 := Box.mk (show RotrC p15 7 _ from rotr_any p15 7 (by omega) (by omega))
          have C2 := Box.mk (show RotrC p15 18 _ from rotr_any p15 18 (by omega) (by omega))
          have C3 := Box.mk (show RotrC p2 17 _ from rotr_any p2 17 (by omega) (by omega))
          have C4 := Box.mk (show RotrC p2 19 _ from rotr_any p2 19 (by omega) (by omega))
          have S0 := Box.mk (show sm0 p15 = rot p15 7 ^^^ rot p15 18 ^^^ UInt32.ofNat (p15.toNat / 8) from rfl)
          have S1 := Box.mk (show sm1 p2 = rot p2 17 ^^^ rot p2 19 ^^^ UInt32.ofNat (p2.toNat / 1024) from rfl)
          have d0 : (p15.toNat : Int) / 8 = _ := shr_word p15 8
          have d1 : (p2.toNat : Int) / 1024 = _ := shr_word p2 1024
          generalize rot p15 7 = ra at *
          generalize rot p15 18 = rb at *
          generalize rot p2 17 = rc at *
          generalize rot p2 19 = rd at *
          generalize UInt32.ofNat (p15.toNat / 8) = da at *
          generalize UInt32.ofNat (p2.toNat / 1024) = db at *
          have x1 := u32_xor_word ra rb
          have x2 := u32_xor_word (ra ^^^ rb) da
          have x3 := u32_xor_word rc rd
          have x4 := u32_xor_word (rc ^^^ rd) db
          rw [← S0.out] at x2
          rw [← S1.out] at x4
          generalize sm0 p15 = s0 at *
          generalize sm1 p2 = s1 at *
          generalize ra ^^^ rb = rab at *
          generalize rc ^^^ rd = rcd at *
          have y1 := u32_add_word p16 s0
          have y2 := u32_add_word (p16 + s0) p7
          have y3 := u32_add_word (p16 + s0 + p7) s1
          generalize p16 + s0 + p7 + s1 = z3 at *
          generalize p16 + s0 + p7 = z2 at *
          generalize p16 + s0 = z1 at *
          go_wp2_with fail
          go_quiet (first
            | (with_reducible exact C1.out.quiet)
            | (with_reducible exact C2.out.quiet))
          have hcb2 : (wo.drewN nq).cell? ⟨w.heap.size + 1, t - 2, none⟩ = _ := hc2
          have hb1' := hb1.drewN nq
          have hB' := below_drewN hB nq
          have hb2' := hb2.drewN nq
          have hc16' : (wo.drewN nq).cell? ⟨w.heap.size + 1, t - 16, none⟩ = _ := hc16
          have hc7' : (wo.drewN nq).cell? ⟨w.heap.size + 1, t - 7, none⟩ = _ := hc7
          clear hc2 hc15 hc16 hc7 hb1 hB hb2
          generalize wo.drewN nq = wd at *
          go_wp2_with fail
          go_quiet (first
            | (with_reducible exact C3.out.quiet)
            | (with_reducible exact C4.out.quiet))
          have HZ := Box.mk (show z3 = wAt b (schedTo b t) t from hw.out.symm)
          have hb1 := hb1'.drewN nq
          have hB := below_drewN hB' nq
          have hb2 := hb2'.drewN nq
          have hct := hb1.cellOf (schedVals_at b t hlt)
          have hft := hb1.free t
          have hcd16 : (wd.drewN nq).cell? ⟨w.heap.size + 1, t - 16, none⟩ = _ := hc16'
          have hcd7 : (wd.drewN nq).cell? ⟨w.heap.size + 1, t - 7, none⟩ = _ := hc7'
          clear hc16' hc7' hb1' hB' hb2' hcb2
          generalize wd.drewN nq = we at *
          go_wp2_with fail
          go_region
          go_wp2_with fail
          go_roundw
          case rel => exact ⟨t + 1, by omega, by omega, by go_num, by rw [← hset.out, ← HZ.out]; exact (hb1.set t _).drew, (hb2.other (by simp) _).drew, (hB.setCell (by simp) _).drew⟩
          case measure => simp [intOf]; omega
        · have h64 : t = 64 := by omega
          subst h64
          rw [schedVals_all] at hb1
          have hsl : (wordVals (sched b)).length = 64 := by rw [wordVals_length]; exact schedTo_length b 64
          have Hsl := Box.mk hsl; clear hsl
          have H1 := Box.mk (wordVals_one (sched b))
          generalize hcs : wordVals (sched b) = cs at *
          have HC := Box.mk hcs; clear hcs
          go_wp2_with (first
            | ((with_reducible show wpList _ _ _ _ _ _); refine wpList_load_agg (o := ⟨some 100, _, _, _, _, _⟩) rfl 73 _ rfl agg73 rfl (cs := cs) Hsl.out hb1.agg ?_)
            | ((with_reducible show wpList _ _ _ _ _ _); refine wpList_store_row (o := ⟨none, .store 73 (.tmp 2) (.tmp 100), _, _, _, _⟩) rfl 73 _ _ rfl rfl agg73.info hb2 (by simp) rfl (cs := cs) rfl Hsl.out H1.out ?_))
          exact bodyPost_ret (results_cell1 (g := w.heap.size) (cs := cs) rfl _ rfl (hb2.row cs) (by rw [Hsl.out]; exact agg73)) rfl ⟨by first | rfl | rw [HC.out], below_setRow hB (Nat.le_refl _) _⟩
end Go.Proofs.YtcngnpkpaliflaaDoor
