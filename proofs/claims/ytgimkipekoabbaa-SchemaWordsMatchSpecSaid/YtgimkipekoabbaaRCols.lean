/-
  The walk of the reference's columns. No condition.
-/
import Derived.Test.YtgimkipekoabbaaWCheck0
namespace Go.Proofs.Ytgimkipekoabbaa
open Go.RowKit

set_option maxRecDepth 20000 in
set_option maxHeartbeats 4000000 in
theorem rcolumns_any (zs : List Col) (a : Option Addr) (n cap : Nat) (w : World) (hr : Rd w a n cap 3 (recC Col.enc zs)) :
    Calls Try.prog 50 #[.slice a n cap] w (RetV (.int .i64 (colsE zs)) w) := by
  have hln := hr.rlen Col.enc_len (by omega)
  have hmax := hr.lenMax
  have R := Box.mk hr
  clear hr
  generalize hE : colsE zs = E
  have HE := Box.mk hE
  clear hE
  go_enter Try.func50, Try.ntmps50
  go_wp2_with fail
  go_loopw [3] (fun i wr => ∃ k : Nat, k ≤ n ∧ i = .int .i64 k ∧ Box (∀ j, j < k → colErr zs j = 0) ∧ Box (Below w.heap.size w wr)) (fun i _ => n - (intOf i).toNat)
  case atStart => exact ⟨0, Nat.zero_le _, rfl, ⟨fun j h => by omega⟩, ⟨Below.refl _ _⟩⟩
  case round =>
    obtain ⟨k, hk, rfl, HZ, BW⟩ := hrel
    by_cases hlt : k < n
    · obtain ⟨b, off, rfl, hgb, hc⟩ := (R.out.below BW.out (Nat.le_refl _)).recAt Col.enc_len (by omega) k hlt
      have HHIT := Box.mk (fun (v : Int) (hv : colErr zs k = v) (h0 : v ≠ 0) => show E = v from by
        rw [← HE.out, ← hv]; exact firstE_hit HZ.out (by omega) (by rw [hv]; exact h0))
      generalize hy : zs.getD k default = y at *
      have HY := Box.mk hy
      clear hy
      obtain ⟨yn, yk, yu⟩ := y
      have c0 := hc 0 _ rfl
      simp only [Nat.add_zero] at c0
      clear hc
      go_wp2_with fail
      cases hn : nameB yn with
      | false =>
        have hX := HHIT.out _ (colErr_name HY.out hn) (by decide)
        subst hX
        refine (rname_is hn _).mono ?_
        rintro e w3 ⟨rfl, hb⟩
        have B3 := Box.mk (BW.out.trans (hb.mono BW.out.size))
        go_wp2_with fail
        go_ret
        exact ⟨rfl, B3.out⟩
      | true =>
        refine (rname_is hn _).mono ?_
        rintro e w3 ⟨rfl, hb⟩
        have B3 := Box.mk (BW.out.trans (hb.mono BW.out.size))
        have HN2 := Box.mk hn
        clear hb hn c0 BW
        go_wp2_with fail
        have HSZ := Box.mk HZ
        clear HZ
        go_loopw [5] (fun i wr => ∃ m : Nat, m ≤ k ∧ i = .int .i64 m ∧ Box (∀ j, j < m → (zs.getD j default).name ≠ yn) ∧ ∃ q, wr = w3.drewN q) (fun i _ => k - (intOf i).toNat)
        case atStart => exact ⟨0, Nat.zero_le _, rfl, ⟨fun j h => by omega⟩, 0, rfl⟩
        case round =>
          obtain ⟨m, hm, rfl, HM, q, rfl⟩ := hrel
          obtain ⟨b1, off1, hab, _, hc⟩ := (R.out.below B3.out (Nat.le_refl _)).recAt Col.enc_len (by omega) k hlt
          cases hab
          rw [HY.out] at hc
          have d0 := hc 0 _ rfl
          have d1 := hc 1 _ rfl
          clear hc
          by_cases hlm : m < k
          · obtain ⟨b1, off1, hab, _, hc⟩ := (R.out.below B3.out (Nat.le_refl _)).recAt Col.enc_len (by omega) m (by omega)
            cases hab
            generalize hz : zs.getD m default = z at *
            have HZM := Box.mk hz
            clear hz
            obtain ⟨zn, zk, zu⟩ := z
            have c0 := hc 0 _ rfl
            simp only [Nat.add_zero] at c0 d0 d1
            clear hc
            have hmn : m < n := by omega
            by_cases hx : zn = yn
            · have hX := HHIT.out _ (colErr_twice HY.out HN2.out (colTwice_hit hlm (by omega) (by rw [HZM.out, HY.out]; exact hx))) (by decide)
              subst hX
              have hxx : (zn == yn) = true := by rw [name_beq]; exact decide_eq_true hx
              clear hx
              go_wp2_with fail
              go_quiet (fail)
              go_wp2_with fail
              go_ret
              exact ⟨rfl, below_drewN (below_drewN B3.out _) _⟩
            · have hxx : (zn == yn) = false := by rw [name_beq]; exact decide_eq_false hx
              have HX := Box.mk (show ∀ j, j < m + 1 → (zs.getD j default).name ≠ yn from fun j hj => by
                by_cases e : j = m
                · subst e; rw [HZM.out]; exact hx
                · exact HM.out j (by omega))
              clear hx
              go_wp2_with fail
              go_quiet (fail)
              go_wp2_with fail
              go_roundw
              case rel => exact ⟨m + 1, by omega, by go_num, HX, _, rfl⟩
              case measure => simp [intOf]; omega
          · have HT := Box.mk (colTwice_none (l := zs) (i := k) (fun j hj => by rw [HY.out]; exact HM.out j (by omega)))
            clear d0
            cases hk3 : kindB yk with
            | false =>
              have hX := HHIT.out _ (colErr_kind HY.out HN2.out HT.out hk3) (by decide)
              subst hX
              have hk4 : yk < 1 ∨ 3 < yk := by unfold kindB at hk3; simp at hk3; omega
              clear hk3
              rcases hk4 with hk4 | hk4
              · go_wp2_with fail
                go_ret
                exact ⟨rfl, below_drewN B3.out _⟩
              · have hk5 : ¬ yk < 1 := by omega
                go_wp2_with fail
                go_ret
                exact ⟨rfl, below_drewN B3.out _⟩
            | true =>
              have HZ2 := Box.mk (all_succ HSZ.out.out (colErr_ok HY.out HN2.out HT.out hk3))
              have hk4 : 1 ≤ yk ∧ yk ≤ 3 := by unfold kindB at hk3; simpa using hk3
              clear hk3
              obtain ⟨hk4, hk5⟩ := hk4
              go_wp2_with fail
              go_roundw
              case rel => exact ⟨k + 1, by omega, by go_num, HZ2, ⟨below_drewN B3.out _⟩⟩
              case measure => simp [intOf]; omega
    · have hX : E = 0 := by rw [← HE.out]; exact firstE_zero (fun j hj => HZ.out j (by omega))
      subst hX
      go_wp2_with fail
      go_ret
      exact ⟨rfl, BW.out⟩
end Go.Proofs.Ytgimkipekoabbaa
