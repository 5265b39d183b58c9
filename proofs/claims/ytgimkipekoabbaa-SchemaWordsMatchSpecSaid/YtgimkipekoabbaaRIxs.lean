/-
  The walks of the reference's places and indexes. No condition.
-/
import Derived.Test.YtgimkipekoabbaaWCheck0
namespace Go.Proofs.Ytgimkipekoabbaa
open Go.RowKit

theorem placeErr_hit {l : List Int} {n i m : Nat} {y : Int} (hy : l.getD i 0 = y) (hm : m < i) (hi : i < l.length) (h : l.getD m 0 = y) : placeErr l n i = 1 := by
  refine placeErr_mem hy (decide_eq_true ?_)
  rw [← h, List.getD_eq_getElem?_getD, List.getElem?_eq_getElem (show m < l.length by omega)]
  exact List.mem_take_iff_getElem.2 ⟨m, by omega, rfl⟩
theorem placeErr_none {l : List Int} {n i : Nat} {y : Int} (hy : l.getD i 0 = y) (h0 : 0 ≤ y) (h1 : y < (n : Int)) (h : ∀ j, j < i → l.getD j 0 ≠ y) : placeErr l n i = 0 := by
  refine placeErr_ok hy h0 h1 (decide_eq_false fun hm => ?_)
  obtain ⟨m, hm, he⟩ := List.mem_take_iff_getElem.1 hm
  refine h m (by omega) ?_
  rw [List.getD_eq_getElem?_getD, List.getElem?_eq_getElem (show m < l.length by omega)]; exact he

set_option maxRecDepth 20000 in
set_option maxHeartbeats 4000000 in
theorem rplaces_any (l : List Int) (N : Nat) (a : Option Addr) (n cap : Nat) (w : World) (hr : Rd w a n cap 1 (intVals l)) :
    Calls Try.prog 83 #[.slice a n cap, .int .i64 N] w (RetQ (.bool (placesB l N)) w) := by
  have hln := hr.ilen
  have hmax := hr.lenMax
  have R := Box.mk hr
  clear hr
  generalize hE : placesB l N = E
  have HE := Box.mk hE
  clear hE
  go_enter Try.func83, Try.ntmps83
  go_wp2_with fail
  go_loopw [5] (fun i wr => ∃ k : Nat, k ≤ n ∧ i = .int .i64 k ∧ Box (∀ j, j < k → placeErr l N j = 0) ∧ ∃ q, wr = w.drewN q) (fun i _ => n - (intOf i).toNat)
  case atStart => exact ⟨0, Nat.zero_le _, rfl, ⟨fun j h => by omega⟩, 0, rfl⟩
  case round =>
    obtain ⟨k, hk, rfl, HZ, q, rfl⟩ := hrel
    by_cases hlt : k < n
    · obtain ⟨b, off, rfl, c0⟩ := R.out.intAtD k hlt
      have HHIT := Box.mk (fun (hv : placeErr l N k = 1) => show E = false from by rw [← HE.out]; exact placesB_hit HZ.out (by omega) (by rw [hv]; decide))
      generalize hy : l.getD k 0 = y at *
      have HY := Box.mk hy
      clear hy
      by_cases y0 : y < 0
      · have hX := HHIT.out (placeErr_neg HY.out y0)
        subst hX
        go_wp2_with fail
        go_ret
        exact ⟨rfl, _, rfl⟩
      by_cases y1 : (N : Int) ≤ y
      · have hX := HHIT.out (placeErr_far HY.out y1)
        subst hX
        go_wp2_with fail
        go_ret
        exact ⟨rfl, _, rfl⟩
      have y2 : y < (N : Int) := by omega
      have y3 : 0 ≤ y := by omega
      have y4 : ¬ (N : Int) ≤ y := y1
      have hy4 : decide ((N : Int) ≤ y) = false := decide_eq_false y1
      clear y1
      go_wp2_with fail
      have HSZ := Box.mk HZ
      clear HZ
      go_loopw [6] (fun i wr => ∃ m : Nat, m ≤ k ∧ i = .int .i64 m ∧ Box (∀ j, j < m → l.getD j 0 ≠ y) ∧ ∃ q, wr = w.drewN q) (fun i _ => k - (intOf i).toNat)
      case atStart => exact ⟨0, Nat.zero_le _, rfl, ⟨fun j h => by omega⟩, _, rfl⟩
      case round =>
        clear c0
        obtain ⟨m, hm, rfl, HM, q, rfl⟩ := hrel
        by_cases hlm : m < k
        · obtain ⟨b1, off1, hab, c0⟩ := R.out.intAtD k hlt
          cases hab
          rw [HY.out] at c0
          obtain ⟨b1, off1, hab, c1⟩ := R.out.intAtD m (by omega)
          cases hab
          generalize hz : l.getD m 0 = z at *
          have HZM := Box.mk hz
          clear hz
          have hmn : m < n := by omega
          by_cases hx : z = y
          · have hX := HHIT.out (placeErr_hit HY.out hlm (by omega) (HZM.out.trans hx))
            subst hX
            have hxx : (z == y) = true := by simp [hx]
            clear hx
            go_wp2_with fail
            go_quiet (fail)
            go_wp2_with fail
            go_ret
            exact ⟨rfl, _, World.drewN_drewN _ _ _⟩
          · have hxx : (z == y) = false := by simp [hx]
            have HX := Box.mk (show ∀ j, j < m + 1 → l.getD j 0 ≠ y from fun j hj => by
              by_cases e : j = m
              · subst e; rw [HZM.out]; exact hx
              · exact HM.out j (by omega))
            clear hx
            go_wp2_with fail
            go_quiet (fail)
            go_wp2_with fail
            go_roundw
            case rel => exact ⟨m + 1, by omega, by go_num, HX, _, rfl⟩
            case measure => simp [intOf]; omega
        · have HZ2 := Box.mk (all_succ HSZ.out.out (placeErr_none HY.out y3 y2 (fun j hj => HM.out j (by omega))))
          go_wp2_with fail
          go_roundw
          case rel => exact ⟨k + 1, by omega, by go_num, HZ2, _, rfl⟩
          case measure => simp [intOf]; omega
    · by_cases h0 : n = 0
      · have hX : E = false := by rw [← HE.out]; exact placesB_nil (by omega)
        subst hX
        have h1 : decide ((0 : Nat) < n) = false := decide_eq_false (by omega)
        have h2 : decide ((0 : Int) < (n : Int)) = false := decide_eq_false (by omega)
        clear h0
        go_wp2_with fail
        go_ret
        exact ⟨by first | rfl | (simp [*]; done) | (rw [h1]; rfl) | (rw [h2]; rfl), _, rfl⟩
      · have hX : E = true := by rw [← HE.out]; exact placesB_all (by omega) (fun j hj => HZ.out j (by omega))
        subst hX
        have h1 : decide ((0 : Nat) < n) = true := decide_eq_true (by omega)
        have h2 : decide ((0 : Int) < (n : Int)) = true := decide_eq_true (by omega)
        clear h0
        go_wp2_with fail
        go_ret
        exact ⟨by first | rfl | (simp [*]; done) | (rw [h1]; rfl) | (rw [h2]; rfl), _, rfl⟩

set_option maxRecDepth 20000 in
set_option maxHeartbeats 4000000 in
theorem rindexes_any (zs : List IxP) (N : Nat) (a : Option Addr) (n cap : Nat) (w : World) (hr : Rd w a n cap 3 (recC IxP.enc zs)) (hns : ∀ p ∈ zs, Rd w p.a p.x.cols.length p.cap 1 (intVals p.x.cols)) :
    Calls Try.prog 51 #[.slice a n cap, .int .i64 N] w (RetV (.int .i64 (ixsE (zs.map IxP.x) N)) w) := by
  have hln := hr.rlen IxP.enc_len (by omega)
  have hmax := hr.lenMax
  have R := Box.mk hr
  have RN := Box.mk hns
  clear hr hns
  generalize hE : ixsE (zs.map IxP.x) N = E
  have HE := Box.mk hE
  clear hE
  go_enter Try.func51, Try.ntmps51
  go_wp2_with fail
  go_loopw [5] (fun i wr => ∃ k : Nat, k ≤ n ∧ i = .int .i64 k ∧ Box (∀ j, j < k → ixErr (zs.map IxP.x) N j = 0) ∧ Box (Below w.heap.size w wr)) (fun i _ => n - (intOf i).toNat)
  case atStart => exact ⟨0, Nat.zero_le _, rfl, ⟨fun j h => by omega⟩, ⟨Below.refl _ _⟩⟩
  case round =>
    obtain ⟨k, hk, rfl, HZ, BW⟩ := hrel
    by_cases hlt : k < n
    · obtain ⟨b, off, rfl, hgb, hc⟩ := (R.out.below BW.out (Nat.le_refl _)).recAt IxP.enc_len (by omega) k hlt
      have HHIT := Box.mk (fun (v : Int) (hv : ixErr (zs.map IxP.x) N k = v) (h0 : v ≠ 0) => show E = v from by
        rw [← HE.out, ← hv]; exact firstE_hit HZ.out (by rw [List.length_map]; omega) (by rw [hv]; exact h0))
      have hxx := getD_map_x zs k
      have RK := Box.mk (RN.out _ (getD_mem (show k < zs.length by omega)))
      generalize hy : zs.getD k default = y at *
      have HYY := Box.mk hy
      clear hy
      obtain ⟨⟨yn, yc, yu⟩, ya, yp⟩ := y
      have HY := Box.mk hxx
      clear hxx
      simp only at HY RK
      have c0 := hc 0 _ rfl
      simp only [Nat.add_zero] at c0
      clear hc
      go_wp2_with fail
      cases hn : nameB yn with
      | false =>
        have hX := HHIT.out _ (ixErr_name HY.out hn) (by decide)
        subst hX
        refine (rname_is hn _).mono ?_
        rintro e w3 ⟨rfl, hb⟩
        have B3 := Box.mk (BW.out.trans (hb.mono BW.out.size))
        go_wp2_with fail
        go_ret
        exact ⟨rfl, B3.out⟩
      | true =>
        refine (rname_is hn _).mono ?_
        rintro e w3 ⟨rfl, hb⟩
        have B3 := Box.mk (BW.out.trans (hb.mono BW.out.size))
        have HN2 := Box.mk hn
        clear hb hn c0 BW
        go_wp2_with fail
        have HSZ := Box.mk HZ
        clear HZ
        go_loopw [7] (fun i wr => ∃ m : Nat, m ≤ k ∧ i = .int .i64 m ∧ Box (∀ j, j < m → ((zs.map IxP.x).getD j default).name ≠ yn) ∧ ∃ q, wr = w3.drewN q) (fun i _ => k - (intOf i).toNat)
        case atStart => exact ⟨0, Nat.zero_le _, rfl, ⟨fun j h => by omega⟩, 0, rfl⟩
        case round =>
          obtain ⟨m, hm, rfl, HM, q, rfl⟩ := hrel
          obtain ⟨b1, off1, hab, _, hc⟩ := (R.out.below B3.out (Nat.le_refl _)).recAt IxP.enc_len (by omega) k hlt
          cases hab
          rw [HYY.out] at hc
          have d0 := hc 0 _ rfl
          have d1 := hc 1 _ rfl
          simp only [Nat.add_zero] at d0 d1
          clear hc
          by_cases hlm : m < k
          · obtain ⟨b1, off1, hab, _, hc⟩ := (R.out.below B3.out (Nat.le_refl _)).recAt IxP.enc_len (by omega) m (by omega)
            cases hab
            have hzz := getD_map_x zs m
            generalize hz : zs.getD m default = z at *
            clear hz
            obtain ⟨⟨zn, zc, zu⟩, za, zp⟩ := z
            have HZM := Box.mk hzz
            clear hzz
            simp only at HZM
            have c0 := hc 0 _ rfl
            simp only [Nat.add_zero] at c0
            clear hc
            have hmn : m < n := by omega
            by_cases hx : zn = yn
            · have hX := HHIT.out _ (ixErr_twice HY.out HN2.out (ixTwice_hit hlm (by rw [List.length_map]; omega) (by rw [HZM.out, HY.out]; exact hx))) (by decide)
              subst hX
              have hxx : (zn == yn) = true := by rw [name_beq]; exact decide_eq_true hx
              clear hx
              go_wp2_with fail
              go_quiet (fail)
              go_wp2_with fail
              go_ret
              exact ⟨rfl, below_drewN (below_drewN B3.out _) _⟩
            · have hxx : (zn == yn) = false := by rw [name_beq]; exact decide_eq_false hx
              have HX := Box.mk (show ∀ j, j < m + 1 → ((zs.map IxP.x).getD j default).name ≠ yn from fun j hj => by
                by_cases e : j = m
                · subst e; rw [HZM.out]; exact hx
                · exact HM.out j (by omega))
              clear hx
              go_wp2_with fail
              go_quiet (fail)
              go_wp2_with fail
              go_roundw
              case rel => exact ⟨m + 1, by omega, by go_num, HX, _, rfl⟩
              case measure => simp [intOf]; omega
          · have HT := Box.mk (ixTwice_none (l := zs.map IxP.x) (i := k) (fun j hj => by rw [HY.out]; exact HM.out j (by omega)))
            clear d0
            have B4 := Box.mk (below_drewN B3.out q)
            have hpl := rplaces_any yc N ya yc.length yp (w3.drewN q) (RK.out.below B4.out (Nat.le_refl _))
            have HPK := Box.mk hpl
            clear hpl
            cases hp : placesB yc N with
            | false =>
              have hX := HHIT.out _ (ixErr_place HY.out HN2.out HT.out hp) (by decide)
              subst hX
              rw [hp] at HPK
              clear hp
              go_wp2_with fail
              refine HPK.out.mono ?_
              rintro e w5 ⟨rfl, q2, rfl⟩
              go_wp2_with fail
              go_ret
              exact ⟨rfl, below_drewN B3.out _⟩
            | true =>
              have HZ2 := Box.mk (all_succ HSZ.out.out (ixErr_ok HY.out HN2.out HT.out hp))
              rw [hp] at HPK
              clear hp
              go_wp2_with fail
              refine HPK.out.mono ?_
              rintro e w5 ⟨rfl, q2, rfl⟩
              go_wp2_with fail
              go_roundw
              case rel => exact ⟨k + 1, by omega, by go_num, HZ2, ⟨below_drewN B3.out _⟩⟩
              case measure => simp [intOf]; omega
    · have hX : E = 0 := by rw [← HE.out]; exact firstE_zero (fun j hj => HZ.out j (by rw [List.length_map] at hj; omega))
      subst hX
      go_wp2_with fail
      go_ret
      exact ⟨rfl, BW.out⟩
end Go.Proofs.Ytgimkipekoabbaa
