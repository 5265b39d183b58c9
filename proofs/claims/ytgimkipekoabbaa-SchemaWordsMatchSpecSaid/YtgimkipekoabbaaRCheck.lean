/-
  The walks of the reference's checks and Check. No condition.
-/
import Derived.Test.YtgimkipekoabbaaRIxs
import Derived.Test.YtgimkipekoabbaaRCols
namespace Go.Proofs.Ytgimkipekoabbaa
open Go.RowKit

theorem rvalid_is {k n : Int} {s : List UInt8} {b : Bool} (h : (validB ⟨k, n, s⟩ || nullB ⟨k, n, s⟩) = b) (w : World) : Calls Try.prog 65 #[.agg #[.int .i64 k, .int .i64 n, .string ⟨s.toArray⟩]] w fun e w' => e = .returned (.bool b) ∧ Below w.heap.size w w' := by
  subst h; exact rvalid_any k n s w

set_option maxRecDepth 20000 in
set_option maxHeartbeats 4000000 in
theorem rchecks_any (zs : List Chk) (cols : List Col) (a a2 : Option Addr) (n cap n2 cap2 : Nat) (w : World) (hr : Rd w a n cap 5 (recC Chk.enc zs)) (hr2 : Rd w a2 n2 cap2 3 (recC Col.enc cols)) (hkd : ∀ c ∈ cols, kindB c.kind = true) :
    Calls Try.prog 52 #[.slice a n cap, .slice a2 n2 cap2] w (RetV (.int .i64 (chksE zs cols)) w) := by
  have hln := hr.rlen Chk.enc_len (by omega)
  have hmax := hr.lenMax
  have hln2 := hr2.rlen Col.enc_len (by omega)
  have hmax2 := hr2.lenMax
  have R := Box.mk hr
  have R2 := Box.mk hr2
  have HKD := Box.mk hkd
  clear hr hr2 hkd
  generalize hE : chksE zs cols = E
  have HE := Box.mk hE
  clear hE
  go_enter Try.func52, Try.ntmps52
  go_wp2_with fail
  go_loopw [5] (fun i wr => ∃ k : Nat, k ≤ n ∧ i = .int .i64 k ∧ Box (∀ j, j < k → chkErr zs cols j = 0) ∧ Box (Below w.heap.size w wr)) (fun i _ => n - (intOf i).toNat)
  case atStart => exact ⟨0, Nat.zero_le _, rfl, ⟨fun j h => by omega⟩, ⟨Below.refl _ _⟩⟩
  case round =>
    obtain ⟨k, hk, rfl, HZ, BW⟩ := hrel
    by_cases hlt : k < n
    · obtain ⟨b, off, rfl, hgb, hc⟩ := (R.out.below BW.out (Nat.le_refl _)).recAt Chk.enc_len (by omega) k hlt
      have HHIT := Box.mk (fun (v : Int) (hv : chkErr zs cols k = v) (h0 : v ≠ 0) => show E = v from by
        rw [← HE.out, ← hv]; exact firstE_hit HZ.out (by omega) (by rw [hv]; exact h0))
      generalize hy : zs.getD k default = y at *
      have HY := Box.mk hy
      clear hy
      obtain ⟨yc, yo, yk, yn, ys⟩ := y
      have c0 := hc 0 _ rfl
      have c1 := hc 1 _ rfl
      have c2 := hc 2 _ rfl
      have c3 := hc 3 _ rfl
      have c4 := hc 4 _ rfl
      simp only [Nat.add_zero] at c0 c1 c2 c3 c4
      have B2 := Box.mk (BW.out.alloc BW.out.size (.cells #[.int .i64 yc, .int .i64 yo, .int .i64 yk, .int .i64 yn, .string ⟨ys.toArray⟩] 42))
      have ba := Blk.new (w := wr) (k := wr.heap.size) (ty := 42) (cs := [.int .i64 yc, .int .i64 yo, .int .i64 yk, .int .i64 yn, .string ⟨ys.toArray⟩]) rfl rfl
      have BS := Box.mk (show Below w.heap.size w (wr.alloc (.cells #[.int .i64 yc, .int .i64 yo, .int .i64 yk, .int .i64 yn, .string ⟨ys.toArray⟩] 42)) from B2.out)
      clear hc hgb
      have hch : Box (chkPlaceB ⟨yc, yo, ⟨yk, yn, ys⟩⟩ cols.length = false → E = 1) := ⟨fun h => HHIT.out _ (chkErr_place HY.out h) (by decide)⟩
      by_cases p0 : yc < 0
      · have hX := hch.out (by unfold chkPlaceB; exact decide_eq_false (fun h => by simp only at h; omega))
        subst hX
        clear ba
        go_wp2_with fail
        go_ret
        exact ⟨rfl, BS.out⟩
      by_cases p1 : (n2 : Int) ≤ yc
      · have hX := hch.out (by unfold chkPlaceB; exact decide_eq_false (fun h => by simp only at h; omega))
        subst hX
        clear ba
        go_wp2_with fail
        go_ret
        exact ⟨rfl, BS.out⟩
      have p1' : yc < (n2 : Int) := by omega
      have p1d : decide ((n2 : Int) ≤ yc) = false := decide_eq_false p1
      by_cases p2 : yo < 6
      · have hX := hch.out (by unfold chkPlaceB; exact decide_eq_false (fun h => by simp only at h; omega))
        subst hX
        clear ba
        go_wp2_with fail
        go_ret
        exact ⟨rfl, BS.out⟩
      by_cases p3 : 11 < yo
      · have hX := hch.out (by unfold chkPlaceB; exact decide_eq_false (fun h => by simp only at h; omega))
        subst hX
        clear ba
        go_wp2_with fail
        go_ret
        exact ⟨rfl, BS.out⟩
      have HPL := Box.mk (show chkPlaceB ⟨yc, yo, ⟨yk, yn, ys⟩⟩ cols.length = true from by unfold chkPlaceB; exact decide_eq_true ⟨by simp only; omega, by simp only; omega, by simp only; omega, by simp only; omega⟩)
      obtain ⟨q, rfl⟩ := Int.eq_ofNat_of_zero_le (show 0 ≤ yc by omega)
      have hq : q < n2 := by omega
      obtain ⟨b2, off2, rfl, hgb2, hcc⟩ := (R2.out.below BS.out (Nat.le_refl _)).recAt Col.enc_len (by omega) q hq
      have HTY := Box.mk (show chkTypeB ⟨q, yo, ⟨yk, yn, ys⟩⟩ cols = (validB ⟨yk, yn, ys⟩ && decide (yk = (cols.getD q default).kind)) from rfl)
      have HTF := Box.mk (fun (h : chkTypeB ⟨q, yo, ⟨yk, yn, ys⟩⟩ cols = false) => HHIT.out _ (chkErr_type HY.out HPL.out h) (by decide))
      have HTT := Box.mk (fun (h : chkTypeB ⟨q, yo, ⟨yk, yn, ys⟩⟩ cols = true) => all_succ HZ.out (chkErr_ok HY.out HPL.out h))
      have HCK := Box.mk (hcc 1 _ rfl)
      have HKQ := Box.mk (HKD.out _ (getD_mem (show q < cols.length by omega)))
      generalize (cols.getD q default).kind = ck at *
      have HGB2 := Box.mk hgb2
      clear hcc hch HHIT HZ HY HPL p0 p1 p1d hgb2
      go_wp2_with fail
      generalize (wr.alloc (.cells #[.int .i64 q, .int .i64 yo, .int .i64 yk, .int .i64 yn, .string ⟨ys.toArray⟩] 42)) = wa at *
      generalize wr.heap.size = gy at *
      clear c0 c1 c2 c3 c4 BW B2
      cases hv : (validB ⟨yk, yn, ys⟩ || nullB ⟨yk, yn, ys⟩) with
      | false =>
        have hX := HTF.out (by rw [HTY.out]; simp only [Bool.or_eq_false_iff] at hv; rw [hv.1]; rfl)
        subst hX
        refine (rvalid_is hv _).mono ?_
        rintro e w5 ⟨rfl, hb⟩
        have B5 := Box.mk (BS.out.trans (hb.mono BS.out.size))
        clear hv
        go_wp2_with fail
        go_quiet (fail)
        go_wp2_with fail
        go_ret
        exact ⟨rfl, below_drewN B5.out _⟩
      | true =>
        refine (rvalid_is hv _).mono ?_
        rintro e w5 ⟨rfl, hb⟩
        have B5 := Box.mk (BS.out.trans (hb.mono BS.out.size))
        replace ba := ba.call0 hb
        have y0 := ba.cellOf (i := 0) rfl
        have y2 := ba.cellOf (i := 2) rfl
        have k1 := (hb.cell (p := ⟨b2, off2 + q * 3 + 1, none⟩) HGB2.out).trans HCK.out
        clear ba
        by_cases hck : yk = ck
        · have HT2 := Box.mk (HTT.out (by
            rw [HTY.out, decide_eq_true hck, Bool.and_true]
            simp only [Bool.or_eq_true] at hv
            rcases hv with hv | hv
            · exact hv
            · exfalso
              have h1 := HKQ.out
              unfold nullB at hv
              unfold kindB at h1
              simp at hv h1
              omega))
          have hkk : (yk != ck) = false := by simp [hck]
          clear hck hv
          go_wp2_with fail
          go_quiet (fail)
          go_wp2_with fail
          go_roundw
          case rel => exact ⟨k + 1, by omega, by go_num, HT2, ⟨below_drewN B5.out _⟩⟩
          case measure => simp [intOf]; omega
        · have hX := HTF.out (by rw [HTY.out, decide_eq_false hck, Bool.and_false])
          subst hX
          have hkk : (yk != ck) = true := by simp [hck]
          clear hck hv
          go_wp2_with fail
          go_quiet (fail)
          go_wp2_with fail
          go_ret
          exact ⟨rfl, below_drewN B5.out _⟩
    · have hX : E = 0 := by rw [← HE.out]; exact firstE_zero (fun j hj => HZ.out j (by omega))
      subst hX
      go_wp2_with fail
      go_ret
      exact ⟨rfl, BW.out⟩
end Go.Proofs.Ytgimkipekoabbaa
