/-
  Chapter 20: the walks of the reference's Check. No condition.
-/
import Derived.Test.YtpgdfhncigmmbaaB20
/-
  The walk of the reference's columns. No condition.
-/
namespace Go.Proofs.Ytpgdfhncigmmbaa
open Go.RowKit

set_option maxRecDepth 20000 in
set_option maxHeartbeats 4000000 in
theorem rcolumns_any (zs : List Col) (a : Option Addr) (n cap : Nat) (w : World) (hr : Rd w a n cap 3 (recC Col.enc zs)) :
    Calls Try.prog 61 #[.slice a n cap] w (RetV (.int .i64 (colsE zs)) w) := by
  have hln := hr.rlen Col.enc_len (by omega)
  have hmax := hr.lenMax
  have R := Box.mk hr
  clear hr
  generalize hE : colsE zs = E
  have HE := Box.mk hE
  clear hE
  go_enter Try.func61, Try.ntmps61
  go_wp2_with fail
  go_loopw [3] (fun i wr => ∃ k : Nat, k ≤ n ∧ i = .int .i64 k ∧ Box (∀ j, j < k → colErr zs j = 0) ∧ Box (Below w.heap.size w wr)) (fun i _ => n - (intOf i).toNat)
  case atStart => exact ⟨0, Nat.zero_le _, rfl, ⟨fun j h => by omega⟩, ⟨Below.refl _ _⟩⟩
  case round =>
    obtain ⟨k, hk, rfl, HZ, BW⟩ := hrel
    by_cases hlt : k < n
    · obtain ⟨b, off, rfl, hgb, hc⟩ := (R.out.below BW.out (Nat.le_refl _)).recAt Col.enc_len (by omega) k hlt
      have HHIT := Box.mk (fun (v : Int) (hv : colErr zs k = v) (h0 : v ≠ 0) => show E = v from by
        rw [← HE.out, ← hv]; exact firstE_hit HZ.out (by omega) (by rw [hv]; exact h0))
      generalize hy : zs.getD k default = y at *
      have HY := Box.mk hy
      clear hy
      obtain ⟨yn, yk, yu⟩ := y
      have c0 := hc 0 _ rfl
      simp only [Nat.add_zero] at c0
      clear hc
      go_wp2_with fail
      cases hn : nameB yn with
      | false =>
        have hX := HHIT.out _ (colErr_name HY.out hn) (by decide)
        subst hX
        refine (rname_is hn _).mono ?_
        rintro e w3 ⟨rfl, hb⟩
        have B3 := Box.mk (BW.out.trans (hb.mono BW.out.size))
        go_wp2_with fail
        go_ret
        exact ⟨rfl, B3.out⟩
      | true =>
        refine (rname_is hn _).mono ?_
        rintro e w3 ⟨rfl, hb⟩
        have B3 := Box.mk (BW.out.trans (hb.mono BW.out.size))
        have HN2 := Box.mk hn
        clear hb hn c0 BW
        go_wp2_with fail
        have HSZ := Box.mk HZ
        clear HZ
        go_loopw [5] (fun i wr => ∃ m : Nat, m ≤ k ∧ i = .int .i64 m ∧ Box (∀ j, j < m → (zs.getD j default).name ≠ yn) ∧ ∃ q, wr = w3.drewN q) (fun i _ => k - (intOf i).toNat)
        case atStart => exact ⟨0, Nat.zero_le _, rfl, ⟨fun j h => by omega⟩, 0, rfl⟩
        case round =>
          obtain ⟨m, hm, rfl, HM, q, rfl⟩ := hrel
          obtain ⟨b1, off1, hab, _, hc⟩ := (R.out.below B3.out (Nat.le_refl _)).recAt Col.enc_len (by omega) k hlt
          cases hab
          rw [HY.out] at hc
          have d0 := hc 0 _ rfl
          have d1 := hc 1 _ rfl
          clear hc
          by_cases hlm : m < k
          · obtain ⟨b1, off1, hab, _, hc⟩ := (R.out.below B3.out (Nat.le_refl _)).recAt Col.enc_len (by omega) m (by omega)
            cases hab
            generalize hz : zs.getD m default = z at *
            have HZM := Box.mk hz
            clear hz
            obtain ⟨zn, zk, zu⟩ := z
            have c0 := hc 0 _ rfl
            simp only [Nat.add_zero] at c0 d0 d1
            clear hc
            have hmn : m < n := by omega
            by_cases hx : zn = yn
            · have hX := HHIT.out _ (colErr_twice HY.out HN2.out (colTwice_hit hlm (by omega) (by rw [HZM.out, HY.out]; exact hx))) (by decide)
              subst hX
              have hxx : (zn == yn) = true := by rw [name_beq]; exact decide_eq_true hx
              clear hx
              go_wp2_with fail
              go_quiet (fail)
              go_wp2_with fail
              go_ret
              exact ⟨rfl, below_drewN (below_drewN B3.out _) _⟩
            · have hxx : (zn == yn) = false := by rw [name_beq]; exact decide_eq_false hx
              have HX := Box.mk (show ∀ j, j < m + 1 → (zs.getD j default).name ≠ yn from fun j hj => by
                by_cases e : j = m
                · subst e; rw [HZM.out]; exact hx
                · exact HM.out j (by omega))
              clear hx
              go_wp2_with fail
              go_quiet (fail)
              go_wp2_with fail
              go_roundw
              case rel => exact ⟨m + 1, by omega, by go_num, HX, _, rfl⟩
              case measure => simp [intOf]; omega
          · have HT := Box.mk (colTwice_none (l := zs) (i := k) (fun j hj => by rw [HY.out]; exact HM.out j (by omega)))
            clear d0
            cases hk3 : kindB yk with
            | false =>
              have hX := HHIT.out _ (colErr_kind HY.out HN2.out HT.out hk3) (by decide)
              subst hX
              have hk4 : yk < 1 ∨ 3 < yk := by unfold kindB at hk3; simp at hk3; omega
              clear hk3
              rcases hk4 with hk4 | hk4
              · go_wp2_with fail
                go_ret
                exact ⟨rfl, below_drewN B3.out _⟩
              · have hk5 : ¬ yk < 1 := by omega
                go_wp2_with fail
                go_ret
                exact ⟨rfl, below_drewN B3.out _⟩
            | true =>
              have HZ2 := Box.mk (all_succ HSZ.out.out (colErr_ok HY.out HN2.out HT.out hk3))
              have hk4 : 1 ≤ yk ∧ yk ≤ 3 := by unfold kindB at hk3; simpa using hk3
              clear hk3
              obtain ⟨hk4, hk5⟩ := hk4
              go_wp2_with fail
              go_roundw
              case rel => exact ⟨k + 1, by omega, by go_num, HZ2, ⟨below_drewN B3.out _⟩⟩
              case measure => simp [intOf]; omega
    · have hX : E = 0 := by rw [← HE.out]; exact firstE_zero (fun j hj => HZ.out j (by omega))
      subst hX
      go_wp2_with fail
      go_ret
      exact ⟨rfl, BW.out⟩
end Go.Proofs.Ytpgdfhncigmmbaa

/-
  The walks of the reference's places and indexes. No condition.
-/
namespace Go.Proofs.Ytpgdfhncigmmbaa
open Go.RowKit

theorem placeErr_hit {l : List Int} {n i m : Nat} {y : Int} (hy : l.getD i 0 = y) (hm : m < i) (hi : i < l.length) (h : l.getD m 0 = y) : placeErr l n i = 1 := by
  refine placeErr_mem hy (decide_eq_true ?_)
  rw [← h, List.getD_eq_getElem?_getD, List.getElem?_eq_getElem (show m < l.length by omega)]
  exact List.mem_take_iff_getElem.2 ⟨m, by omega, rfl⟩
theorem placeErr_none {l : List Int} {n i : Nat} {y : Int} (hy : l.getD i 0 = y) (h0 : 0 ≤ y) (h1 : y < (n : Int)) (h : ∀ j, j < i → l.getD j 0 ≠ y) : placeErr l n i = 0 := by
  refine placeErr_ok hy h0 h1 (decide_eq_false fun hm => ?_)
  obtain ⟨m, hm, he⟩ := List.mem_take_iff_getElem.1 hm
  refine h m (by omega) ?_
  rw [List.getD_eq_getElem?_getD, List.getElem?_eq_getElem (show m < l.length by omega)]; exact he

set_option maxRecDepth 20000 in
set_option maxHeartbeats 4000000 in
theorem rplaces_any (l : List Int) (N : Nat) (a : Option Addr) (n cap : Nat) (w : World) (hr : Rd w a n cap 1 (intVals l)) :
    Calls Try.prog 84 #[.slice a n cap, .int .i64 N] w (RetQ (.bool (placesB l N)) w) := by
  have hln := hr.ilen
  have hmax := hr.lenMax
  have R := Box.mk hr
  clear hr
  generalize hE : placesB l N = E
  have HE := Box.mk hE
  clear hE
  go_enter Try.func84, Try.ntmps84
  go_wp2_with fail
  go_loopw [5] (fun i wr => ∃ k : Nat, k ≤ n ∧ i = .int .i64 k ∧ Box (∀ j, j < k → placeErr l N j = 0) ∧ ∃ q, wr = w.drewN q) (fun i _ => n - (intOf i).toNat)
  case atStart => exact ⟨0, Nat.zero_le _, rfl, ⟨fun j h => by omega⟩, 0, rfl⟩
  case round =>
    obtain ⟨k, hk, rfl, HZ, q, rfl⟩ := hrel
    by_cases hlt : k < n
    · obtain ⟨b, off, rfl, c0⟩ := R.out.intAtD k hlt
      have HHIT := Box.mk (fun (hv : placeErr l N k = 1) => show E = false from by rw [← HE.out]; exact placesB_hit HZ.out (by omega) (by rw [hv]; decide))
      generalize hy : l.getD k 0 = y at *
      have HY := Box.mk hy
      clear hy
      by_cases y0 : y < 0
      · have hX := HHIT.out (placeErr_neg HY.out y0)
        subst hX
        go_wp2_with fail
        go_ret
        exact ⟨rfl, _, rfl⟩
      by_cases y1 : (N : Int) ≤ y
      · have hX := HHIT.out (placeErr_far HY.out y1)
        subst hX
        go_wp2_with fail
        go_ret
        exact ⟨rfl, _, rfl⟩
      have y2 : y < (N : Int) := by omega
      have y3 : 0 ≤ y := by omega
      have y4 : ¬ (N : Int) ≤ y := y1
      have hy4 : decide ((N : Int) ≤ y) = false := decide_eq_false y1
      clear y1
      go_wp2_with fail
      have HSZ := Box.mk HZ
      clear HZ
      go_loopw [6] (fun i wr => ∃ m : Nat, m ≤ k ∧ i = .int .i64 m ∧ Box (∀ j, j < m → l.getD j 0 ≠ y) ∧ ∃ q, wr = w.drewN q) (fun i _ => k - (intOf i).toNat)
      case atStart => exact ⟨0, Nat.zero_le _, rfl, ⟨fun j h => by omega⟩, _, rfl⟩
      case round =>
        clear c0
        obtain ⟨m, hm, rfl, HM, q, rfl⟩ := hrel
        by_cases hlm : m < k
        · obtain ⟨b1, off1, hab, c0⟩ := R.out.intAtD k hlt
          cases hab
          rw [HY.out] at c0
          obtain ⟨b1, off1, hab, c1⟩ := R.out.intAtD m (by omega)
          cases hab
          generalize hz : l.getD m 0 = z at *
          have HZM := Box.mk hz
          clear hz
          have hmn : m < n := by omega
          by_cases hx : z = y
          · have hX := HHIT.out (placeErr_hit HY.out hlm (by omega) (HZM.out.trans hx))
            subst hX
            have hxx : (z == y) = true := by simp [hx]
            clear hx
            go_wp2_with fail
            go_quiet (fail)
            go_wp2_with fail
            go_ret
            exact ⟨rfl, _, World.drewN_drewN _ _ _⟩
          · have hxx : (z == y) = false := by simp [hx]
            have HX := Box.mk (show ∀ j, j < m + 1 → l.getD j 0 ≠ y from fun j hj => by
              by_cases e : j = m
              · subst e; rw [HZM.out]; exact hx
              · exact HM.out j (by omega))
            clear hx
            go_wp2_with fail
            go_quiet (fail)
            go_wp2_with fail
            go_roundw
            case rel => exact ⟨m + 1, by omega, by go_num, HX, _, rfl⟩
            case measure => simp [intOf]; omega
        · have HZ2 := Box.mk (all_succ HSZ.out.out (placeErr_none HY.out y3 y2 (fun j hj => HM.out j (by omega))))
          go_wp2_with fail
          go_roundw
          case rel => exact ⟨k + 1, by omega, by go_num, HZ2, _, rfl⟩
          case measure => simp [intOf]; omega
    · by_cases h0 : n = 0
      · have hX : E = false := by rw [← HE.out]; exact placesB_nil (by omega)
        subst hX
        have h1 : decide ((0 : Nat) < n) = false := decide_eq_false (by omega)
        have h2 : decide ((0 : Int) < (n : Int)) = false := decide_eq_false (by omega)
        clear h0
        go_wp2_with fail
        go_ret
        exact ⟨by first | rfl | (simp [*]; done) | (rw [h1]; rfl) | (rw [h2]; rfl), _, rfl⟩
      · have hX : E = true := by rw [← HE.out]; exact placesB_all (by omega) (fun j hj => HZ.out j (by omega))
        subst hX
        have h1 : decide ((0 : Nat) < n) = true := decide_eq_true (by omega)
        have h2 : decide ((0 : Int) < (n : Int)) = true := decide_eq_true (by omega)
        clear h0
        go_wp2_with fail
        go_ret
        exact ⟨by first | rfl | (simp [*]; done) | (rw [h1]; rfl) | (rw [h2]; rfl), _, rfl⟩

set_option maxRecDepth 20000 in
set_option maxHeartbeats 4000000 in
theorem rindexes_any (zs : List IxP) (N : Nat) (a : Option Addr) (n cap : Nat) (w : World) (hr : Rd w a n cap 3 (recC IxP.enc zs)) (hns : ∀ p ∈ zs, Rd w p.a p.x.cols.length p.cap 1 (intVals p.x.cols)) :
    Calls Try.prog 62 #[.slice a n cap, .int .i64 N] w (RetV (.int .i64 (ixsE (zs.map IxP.x) N)) w) := by
  have hln := hr.rlen IxP.enc_len (by omega)
  have hmax := hr.lenMax
  have R := Box.mk hr
  have RN := Box.mk hns
  clear hr hns
  generalize hE : ixsE (zs.map IxP.x) N = E
  have HE := Box.mk hE
  clear hE
  go_enter Try.func62, Try.ntmps62
  go_wp2_with fail
  go_loopw [5] (fun i wr => ∃ k : Nat, k ≤ n ∧ i = .int .i64 k ∧ Box (∀ j, j < k → ixErr (zs.map IxP.x) N j = 0) ∧ Box (Below w.heap.size w wr)) (fun i _ => n - (intOf i).toNat)
  case atStart => exact ⟨0, Nat.zero_le _, rfl, ⟨fun j h => by omega⟩, ⟨Below.refl _ _⟩⟩
  case round =>
    obtain ⟨k, hk, rfl, HZ, BW⟩ := hrel
    by_cases hlt : k < n
    · obtain ⟨b, off, rfl, hgb, hc⟩ := (R.out.below BW.out (Nat.le_refl _)).recAt IxP.enc_len (by omega) k hlt
      have HHIT := Box.mk (fun (v : Int) (hv : ixErr (zs.map IxP.x) N k = v) (h0 : v ≠ 0) => show E = v from by
        rw [← HE.out, ← hv]; exact firstE_hit HZ.out (by rw [List.length_map]; omega) (by rw [hv]; exact h0))
      have hxx := getD_map_x zs k
      have RK := Box.mk (RN.out _ (getD_mem (show k < zs.length by omega)))
      generalize hy : zs.getD k default = y at *
      have HYY := Box.mk hy
      clear hy
      obtain ⟨⟨yn, yc, yu⟩, ya, yp⟩ := y
      have HY := Box.mk hxx
      clear hxx
      simp only at HY RK
      have c0 := hc 0 _ rfl
      simp only [Nat.add_zero] at c0
      clear hc
      go_wp2_with fail
      cases hn : nameB yn with
      | false =>
        have hX := HHIT.out _ (ixErr_name HY.out hn) (by decide)
        subst hX
        refine (rname_is hn _).mono ?_
        rintro e w3 ⟨rfl, hb⟩
        have B3 := Box.mk (BW.out.trans (hb.mono BW.out.size))
        go_wp2_with fail
        go_ret
        exact ⟨rfl, B3.out⟩
      | true =>
        refine (rname_is hn _).mono ?_
        rintro e w3 ⟨rfl, hb⟩
        have B3 := Box.mk (BW.out.trans (hb.mono BW.out.size))
        have HN2 := Box.mk hn
        clear hb hn c0 BW
        go_wp2_with fail
        have HSZ := Box.mk HZ
        clear HZ
        go_loopw [7] (fun i wr => ∃ m : Nat, m ≤ k ∧ i = .int .i64 m ∧ Box (∀ j, j < m → ((zs.map IxP.x).getD j default).name ≠ yn) ∧ ∃ q, wr = w3.drewN q) (fun i _ => k - (intOf i).toNat)
        case atStart => exact ⟨0, Nat.zero_le _, rfl, ⟨fun j h => by omega⟩, 0, rfl⟩
        case round =>
          obtain ⟨m, hm, rfl, HM, q, rfl⟩ := hrel
          obtain ⟨b1, off1, hab, _, hc⟩ := (R.out.below B3.out (Nat.le_refl _)).recAt IxP.enc_len (by omega) k hlt
          cases hab
          rw [HYY.out] at hc
          have d0 := hc 0 _ rfl
          have d1 := hc 1 _ rfl
          simp only [Nat.add_zero] at d0 d1
          clear hc
          by_cases hlm : m < k
          · obtain ⟨b1, off1, hab, _, hc⟩ := (R.out.below B3.out (Nat.le_refl _)).recAt IxP.enc_len (by omega) m (by omega)
            cases hab
            have hzz := getD_map_x zs m
            generalize hz : zs.getD m default = z at *
            clear hz
            obtain ⟨⟨zn, zc, zu⟩, za, zp⟩ := z
            have HZM := Box.mk hzz
            clear hzz
            simp only at HZM
            have c0 := hc 0 _ rfl
            simp only [Nat.add_zero] at c0
            clear hc
            have hmn : m < n := by omega
            by_cases hx : zn = yn
            · have hX := HHIT.out _ (ixErr_twice HY.out HN2.out (ixTwice_hit hlm (by rw [List.length_map]; omega) (by rw [HZM.out, HY.out]; exact hx))) (by decide)
              subst hX
              have hxx : (zn == yn) = true := by rw [name_beq]; exact decide_eq_true hx
              clear hx
              go_wp2_with fail
              go_quiet (fail)
              go_wp2_with fail
              go_ret
              exact ⟨rfl, below_drewN (below_drewN B3.out _) _⟩
            · have hxx : (zn == yn) = false := by rw [name_beq]; exact decide_eq_false hx
              have HX := Box.mk (show ∀ j, j < m + 1 → ((zs.map IxP.x).getD j default).name ≠ yn from fun j hj => by
                by_cases e : j = m
                · subst e; rw [HZM.out]; exact hx
                · exact HM.out j (by omega))
              clear hx
              go_wp2_with fail
              go_quiet (fail)
              go_wp2_with fail
              go_roundw
              case rel => exact ⟨m + 1, by omega, by go_num, HX, _, rfl⟩
              case measure => simp [intOf]; omega
          · have HT := Box.mk (ixTwice_none (l := zs.map IxP.x) (i := k) (fun j hj => by rw [HY.out]; exact HM.out j (by omega)))
            clear d0
            have B4 := Box.mk (below_drewN B3.out q)
            have hpl := rplaces_any yc N ya yc.length yp (w3.drewN q) (RK.out.below B4.out (Nat.le_refl _))
            have HPK := Box.mk hpl
            clear hpl
            cases hp : placesB yc N with
            | false =>
              have hX := HHIT.out _ (ixErr_place HY.out HN2.out HT.out hp) (by decide)
              subst hX
              rw [hp] at HPK
              clear hp
              go_wp2_with fail
              refine HPK.out.mono ?_
              rintro e w5 ⟨rfl, q2, rfl⟩
              go_wp2_with fail
              go_ret
              exact ⟨rfl, below_drewN B3.out _⟩
            | true =>
              have HZ2 := Box.mk (all_succ HSZ.out.out (ixErr_ok HY.out HN2.out HT.out hp))
              rw [hp] at HPK
              clear hp
              go_wp2_with fail
              refine HPK.out.mono ?_
              rintro e w5 ⟨rfl, q2, rfl⟩
              go_wp2_with fail
              go_roundw
              case rel => exact ⟨k + 1, by omega, by go_num, HZ2, ⟨below_drewN B3.out _⟩⟩
              case measure => simp [intOf]; omega
    · have hX : E = 0 := by rw [← HE.out]; exact firstE_zero (fun j hj => HZ.out j (by rw [List.length_map] at hj; omega))
      subst hX
      go_wp2_with fail
      go_ret
      exact ⟨rfl, BW.out⟩
end Go.Proofs.Ytpgdfhncigmmbaa

/-
  The walks of the reference's checks and Check. No condition.
-/
namespace Go.Proofs.Ytpgdfhncigmmbaa
open Go.RowKit

theorem rvalid_is {k n : Int} {s : List UInt8} {b : Bool} (h : (validB ⟨k, n, s⟩ || nullB ⟨k, n, s⟩) = b) (w : World) : Calls Try.prog 64 #[.agg #[.int .i64 k, .int .i64 n, .string ⟨s.toArray⟩]] w fun e w' => e = .returned (.bool b) ∧ Below w.heap.size w w' := by
  subst h; exact rvalid_any k n s w

set_option maxRecDepth 20000 in
set_option maxHeartbeats 4000000 in
theorem rchecks_any (zs : List Chk) (cols : List Col) (a a2 : Option Addr) (n cap n2 cap2 : Nat) (w : World) (hr : Rd w a n cap 5 (recC Chk.enc zs)) (hr2 : Rd w a2 n2 cap2 3 (recC Col.enc cols)) (hkd : ∀ c ∈ cols, kindB c.kind = true) :
    Calls Try.prog 63 #[.slice a n cap, .slice a2 n2 cap2] w (RetV (.int .i64 (chksE zs cols)) w) := by
  have hln := hr.rlen Chk.enc_len (by omega)
  have hmax := hr.lenMax
  have hln2 := hr2.rlen Col.enc_len (by omega)
  have hmax2 := hr2.lenMax
  have R := Box.mk hr
  have R2 := Box.mk hr2
  have HKD := Box.mk hkd
  clear hr hr2 hkd
  generalize hE : chksE zs cols = E
  have HE := Box.mk hE
  clear hE
  go_enter Try.func63, Try.ntmps63
  go_wp2_with fail
  go_loopw [5] (fun i wr => ∃ k : Nat, k ≤ n ∧ i = .int .i64 k ∧ Box (∀ j, j < k → chkErr zs cols j = 0) ∧ Box (Below w.heap.size w wr)) (fun i _ => n - (intOf i).toNat)
  case atStart => exact ⟨0, Nat.zero_le _, rfl, ⟨fun j h => by omega⟩, ⟨Below.refl _ _⟩⟩
  case round =>
    obtain ⟨k, hk, rfl, HZ, BW⟩ := hrel
    by_cases hlt : k < n
    · obtain ⟨b, off, rfl, hgb, hc⟩ := (R.out.below BW.out (Nat.le_refl _)).recAt Chk.enc_len (by omega) k hlt
      have HHIT := Box.mk (fun (v : Int) (hv : chkErr zs cols k = v) (h0 : v ≠ 0) => show E = v from by
        rw [← HE.out, ← hv]; exact firstE_hit HZ.out (by omega) (by rw [hv]; exact h0))
      generalize hy : zs.getD k default = y at *
      have HY := Box.mk hy
      clear hy
      obtain ⟨yc, yo, yk, yn, ys⟩ := y
      have c0 := hc 0 _ rfl
      have c1 := hc 1 _ rfl
      have c2 := hc 2 _ rfl
      have c3 := hc 3 _ rfl
      have c4 := hc 4 _ rfl
      simp only [Nat.add_zero] at c0 c1 c2 c3 c4
      have B2 := Box.mk (BW.out.alloc BW.out.size (.cells #[.int .i64 yc, .int .i64 yo, .int .i64 yk, .int .i64 yn, .string ⟨ys.toArray⟩] 86))
      have ba := Blk.new (w := wr) (k := wr.heap.size) (ty := 86) (cs := [.int .i64 yc, .int .i64 yo, .int .i64 yk, .int .i64 yn, .string ⟨ys.toArray⟩]) rfl rfl
      have BS := Box.mk (show Below w.heap.size w (wr.alloc (.cells #[.int .i64 yc, .int .i64 yo, .int .i64 yk, .int .i64 yn, .string ⟨ys.toArray⟩] 86)) from B2.out)
      clear hc hgb
      have hch : Box (chkPlaceB ⟨yc, yo, ⟨yk, yn, ys⟩⟩ cols.length = false → E = 1) := ⟨fun h => HHIT.out _ (chkErr_place HY.out h) (by decide)⟩
      by_cases p0 : yc < 0
      · have hX := hch.out (by unfold chkPlaceB; exact decide_eq_false (fun h => by simp only at h; omega))
        subst hX
        clear ba
        go_wp2_with fail
        go_ret
        exact ⟨rfl, BS.out⟩
      by_cases p1 : (n2 : Int) ≤ yc
      · have hX := hch.out (by unfold chkPlaceB; exact decide_eq_false (fun h => by simp only at h; omega))
        subst hX
        clear ba
        go_wp2_with fail
        go_ret
        exact ⟨rfl, BS.out⟩
      have p1' : yc < (n2 : Int) := by omega
      have p1d : decide ((n2 : Int) ≤ yc) = false := decide_eq_false p1
      by_cases p2 : yo < 6
      · have hX := hch.out (by unfold chkPlaceB; exact decide_eq_false (fun h => by simp only at h; omega))
        subst hX
        clear ba
        go_wp2_with fail
        go_ret
        exact ⟨rfl, BS.out⟩
      by_cases p3 : 11 < yo
      · have hX := hch.out (by unfold chkPlaceB; exact decide_eq_false (fun h => by simp only at h; omega))
        subst hX
        clear ba
        go_wp2_with fail
        go_ret
        exact ⟨rfl, BS.out⟩
      have HPL := Box.mk (show chkPlaceB ⟨yc, yo, ⟨yk, yn, ys⟩⟩ cols.length = true from by unfold chkPlaceB; exact decide_eq_true ⟨by simp only; omega, by simp only; omega, by simp only; omega, by simp only; omega⟩)
      obtain ⟨q, rfl⟩ := Int.eq_ofNat_of_zero_le (show 0 ≤ yc by omega)
      have hq : q < n2 := by omega
      obtain ⟨b2, off2, rfl, hgb2, hcc⟩ := (R2.out.below BS.out (Nat.le_refl _)).recAt Col.enc_len (by omega) q hq
      have HTY := Box.mk (show chkTypeB ⟨q, yo, ⟨yk, yn, ys⟩⟩ cols = (validB ⟨yk, yn, ys⟩ && decide (yk = (cols.getD q default).kind)) from rfl)
      have HTF := Box.mk (fun (h : chkTypeB ⟨q, yo, ⟨yk, yn, ys⟩⟩ cols = false) => HHIT.out _ (chkErr_type HY.out HPL.out h) (by decide))
      have HTT := Box.mk (fun (h : chkTypeB ⟨q, yo, ⟨yk, yn, ys⟩⟩ cols = true) => all_succ HZ.out (chkErr_ok HY.out HPL.out h))
      have HCK := Box.mk (hcc 1 _ rfl)
      have HKQ := Box.mk (HKD.out _ (getD_mem (show q < cols.length by omega)))
      generalize (cols.getD q default).kind = ck at *
      have HGB2 := Box.mk hgb2
      clear hcc hch HHIT HZ HY HPL p0 p1 p1d hgb2
      go_wp2_with fail
      generalize (wr.alloc (.cells #[.int .i64 q, .int .i64 yo, .int .i64 yk, .int .i64 yn, .string ⟨ys.toArray⟩] 86)) = wa at *
      generalize wr.heap.size = gy at *
      clear c0 c1 c2 c3 c4 BW B2
      cases hv : (validB ⟨yk, yn, ys⟩ || nullB ⟨yk, yn, ys⟩) with
      | false =>
        have hX := HTF.out (by rw [HTY.out]; simp only [Bool.or_eq_false_iff] at hv; rw [hv.1]; rfl)
        subst hX
        refine (rvalid_is hv _).mono ?_
        rintro e w5 ⟨rfl, hb⟩
        have B5 := Box.mk (BS.out.trans (hb.mono BS.out.size))
        clear hv
        go_wp2_with fail
        go_quiet (fail)
        go_wp2_with fail
        go_ret
        exact ⟨rfl, below_drewN B5.out _⟩
      | true =>
        refine (rvalid_is hv _).mono ?_
        rintro e w5 ⟨rfl, hb⟩
        have B5 := Box.mk (BS.out.trans (hb.mono BS.out.size))
        replace ba := ba.call0 hb
        have y0 := ba.cellOf (i := 0) rfl
        have y2 := ba.cellOf (i := 2) rfl
        have k1 := (hb.cell (p := ⟨b2, off2 + q * 3 + 1, none⟩) HGB2.out).trans HCK.out
        clear ba
        by_cases hck : yk = ck
        · have HT2 := Box.mk (HTT.out (by
            rw [HTY.out, decide_eq_true hck, Bool.and_true]
            simp only [Bool.or_eq_true] at hv
            rcases hv with hv | hv
            · exact hv
            · exfalso
              have h1 := HKQ.out
              unfold nullB at hv
              unfold kindB at h1
              simp at hv h1
              omega))
          have hkk : (yk != ck) = false := by simp [hck]
          clear hck hv
          go_wp2_with fail
          go_quiet (fail)
          go_wp2_with fail
          go_roundw
          case rel => exact ⟨k + 1, by omega, by go_num, HT2, ⟨below_drewN B5.out _⟩⟩
          case measure => simp [intOf]; omega
        · have hX := HTF.out (by rw [HTY.out, decide_eq_false hck, Bool.and_false])
          subst hX
          have hkk : (yk != ck) = true := by simp [hck]
          clear hck hv
          go_wp2_with fail
          go_quiet (fail)
          go_wp2_with fail
          go_ret
          exact ⟨rfl, below_drewN B5.out _⟩
    · have hX : E = 0 := by rw [← HE.out]; exact firstE_zero (fun j hj => HZ.out j (by omega))
      subst hX
      go_wp2_with fail
      go_ret
      exact ⟨rfl, BW.out⟩
end Go.Proofs.Ytpgdfhncigmmbaa

/-
  The walk of the reference's Check. No condition.
-/
namespace Go.Proofs.Ytpgdfhncigmmbaa
open Go.RowKit

theorem cols_kinds {l : List Col} (h : colsE l = 0) : ∀ c ∈ l, kindB c.kind = true := by
  intro c hc
  obtain ⟨i, hi, rfl⟩ := List.getElem_of_mem hc
  have := firstE_eq_zero h i hi
  unfold colErr at this
  rw [getD_eq hi] at this
  cases hk : kindB l[i].kind with
  | true => rfl
  | false => rw [hk] at this; split at this <;> (try cases this); split at this <;> (try cases this)

theorem rcols_is {zs : List Col} {v : Int} (h : colsE zs = v) {a : Option Addr} {n cap : Nat} {w : World} (hr : Rd w a n cap 3 (recC Col.enc zs)) :
    Calls Try.prog 61 #[.slice a n cap] w (RetV (.int .i64 v) w) := by
  subst h; exact rcolumns_any zs a n cap w hr
theorem rixs_is {zs : List IxP} {N : Nat} {v : Int} (h : ixsE (zs.map IxP.x) N = v) {a : Option Addr} {n cap : Nat} {w : World} (hr : Rd w a n cap 3 (recC IxP.enc zs)) (hns : ∀ p ∈ zs, Rd w p.a p.x.cols.length p.cap 1 (intVals p.x.cols)) :
    Calls Try.prog 62 #[.slice a n cap, .int .i64 N] w (RetV (.int .i64 v) w) := by
  subst h; exact rindexes_any zs N a n cap w hr hns

set_option maxRecDepth 20000 in
set_option maxHeartbeats 4000000 in
theorem rcheck_any (X : TabP) (w : World) (hr : TabRd w X) : Calls Try.prog 33 #[X.v] w (RetV (.int .i64 (checkT X.t)) w) := by
  generalize hE : checkT X.t = E
  have HE := Box.mk hE
  clear hE
  have T1 := Box.mk (TabIn.start hr)
  have mc := hr.cols.lenMax
  have mi := hr.ixs.lenMax
  have mh := hr.chks.lenMax
  clear hr
  unfold TabP.cs at T1
  unfold TabP.v
  go_enter Try.func33, Try.ntmps33
  go_wp2_with fail
  generalize (w.alloc (.cells #[.string ⟨X.name.toArray⟩, .slice X.ca X.cols.length X.cc, .slice X.ia X.ixs.length X.ic, .slice X.ha X.chks.length X.hc] 26)) = W at *
  generalize hg : w.heap.size = g at *
  cases hn : nameB X.name with
  | false =>
    have hX := HE.out.symm.trans (checkT_name hn)
    subst hX
    refine (rname_is hn _).mono ?_
    rintro e w2 ⟨rfl, hb⟩
    have T2 := Box.mk (T1.out.step hb)
    go_wp2_with fail
    go_ret
    exact ⟨rfl, T2.out.below⟩
  | true =>
    refine (rname_is hn _).mono ?_
    rintro e w2 ⟨rfl, hb⟩
    have T2 := Box.mk (T1.out.step hb)
    have x1 := T2.out.c1
    have HN := Box.mk hn
    clear hb hn T1
    by_cases h0 : X.cols.length = 0 ∨ 8 < X.cols.length
    · have hX := HE.out.symm.trans (checkT_cols HN.out h0)
      subst hX
      rcases h0 with h0 | h0
      · have h00 : ((X.cols.length : Int) == 0) = true := by simp [h0]
        clear h0
        go_wp2_with fail
        go_ret
        exact ⟨rfl, T2.out.below⟩
      · have h00 : ((X.cols.length : Int) == 0) = false := by rw [beq_eq_false_iff_ne]; omega
        go_wp2_with fail
        go_ret
        exact ⟨rfl, T2.out.below⟩
    · have h00 : ((X.cols.length : Int) == 0) = false := by rw [beq_eq_false_iff_ne]; omega
      have h08 : X.cols.length ≤ 8 := by omega
      have H0 := Box.mk h0
      clear h0
      go_wp2_with fail
      generalize hc : colsE X.cols = v
      have HC := Box.mk hc
      clear hc
      refine (rcols_is HC.out T2.out.rd.cols).mono ?_
      rintro e w3 ⟨rfl, hb⟩
      have T3 := Box.mk (T2.out.step hb)
      have x1 := T3.out.c1
      have x2 := T3.out.c2
      clear hb T2
      by_cases hv : v = 0
      · have HV := Box.mk (HC.out.trans hv)
        subst hv
        by_cases hi4 : 4 < X.ixs.length
        · have hX := HE.out.symm.trans (checkT_ixs HN.out H0.out HV.out (by show 4 < (X.ixs.map (·.x)).length; rw [List.length_map]; exact hi4))
          subst hX
          go_wp2_with fail
          go_ret
          exact ⟨rfl, T3.out.below⟩
        have HI4 := Box.mk (show ¬ 4 < (X.ixs.map (·.x)).length by rw [List.length_map]; exact hi4)
        have hi5 : X.ixs.length ≤ 4 := by omega
        clear hi4
        go_wp2_with fail
        generalize hc : ixsE (X.ixs.map IxP.x) X.cols.length = v
        have HI := Box.mk hc
        clear hc
        refine (rixs_is HI.out T3.out.rd.ixs T3.out.rd.nums).mono ?_
        rintro e w4 ⟨rfl, hb⟩
        have T4 := Box.mk (T3.out.step hb)
        have x1 := T4.out.c1
        have x3 := T4.out.c3
        clear hb T3
        by_cases hv : v = 0
        · have HV1 := Box.mk (HI.out.trans hv)
          subst hv
          by_cases hh4 : 4 < X.chks.length
          · have hX := HE.out.symm.trans (checkT_chks HN.out H0.out HV.out HI4.out HV1.out hh4)
            subst hX
            go_wp2_with fail
            go_ret
            exact ⟨rfl, T4.out.below⟩
          have hX := HE.out.symm.trans (checkT_chksE HN.out H0.out HV.out HI4.out HV1.out hh4)
          have HX := Box.mk hX
          have hh5 : X.chks.length ≤ 4 := by omega
          clear hh4 hX
          go_wp2_with fail
          refine (rchecks_any X.chks X.cols _ _ _ _ _ _ _ T4.out.rd.chks T4.out.rd.cols (cols_kinds HV.out)).mono ?_
          rintro e w5 ⟨rfl, hb⟩
          have T5 := Box.mk (T4.out.step hb)
          have hX := HX.out
          change E = chksE X.chks X.cols at hX
          generalize chksE X.chks X.cols = v at *
          subst hX
          go_wp2_with fail
          go_ret
          exact ⟨rfl, T5.out.below⟩
        · have hX := HE.out.symm.trans (checkT_ixsE HN.out H0.out HV.out HI4.out (by show ixsE (X.ixs.map IxP.x) X.cols.length ≠ 0; rw [HI.out]; exact hv))
          have hX2 : E = v := hX.trans HI.out
          subst hX2
          have hvv : (E != 0) = true := by simp [hv]
          clear hX
          go_wp2_with fail
          go_ret
          exact ⟨rfl, T4.out.below⟩
      · have hX := HE.out.symm.trans (checkT_colsE HN.out H0.out (by show colsE X.cols ≠ 0; rw [HC.out]; exact hv))
        have hX2 : E = v := hX.trans HC.out
        subst hX2
        have hvv : (E != 0) = true := by simp [hv]
        clear hX
        go_wp2_with fail
        go_ret
        exact ⟨rfl, T3.out.below⟩
end Go.Proofs.Ytpgdfhncigmmbaa
