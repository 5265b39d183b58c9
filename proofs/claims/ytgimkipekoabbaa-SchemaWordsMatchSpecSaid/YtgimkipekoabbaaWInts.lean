/-
  The walk of SameInts. No condition.
-/
import Derived.Test.YtgimkipekoabbaaWTiny
namespace Go.Proofs.Ytgimkipekoabbaa
open Go.RowKit

def RetQ (v : Value) (w : World) (e : Ending) (w' : World) : Prop := e = .returned v ∧ ∃ q, w' = w.drewN q

theorem intVals_one (l : List Int) : ∀ u ∈ intVals l, u.oneCell' = true := by
  intro u hu; obtain ⟨_, _, rfl⟩ := List.mem_map.1 hu; rfl
theorem Rd.ilen {w : World} {a : Option Addr} {n cap : Nat} {l : List Int} (h : Rd w a n cap 1 (intVals l)) : l.length = n := by
  have := h.hlen; rw [intVals_length] at this; omega
theorem Rd.intAtD {w : World} {a : Option Addr} {n cap : Nat} {l : List Int} (h : Rd w a n cap 1 (intVals l)) (k : Nat) (hk : k < n) :
    ∃ g off, a = some ⟨g, off, none⟩ ∧ w.cell? ⟨g, off + k, none⟩ = some (.int .i64 (l.getD k 0)) := by
  have hl := h.ilen
  obtain ⟨b, off, ha, hc⟩ := h.at k hk
  refine ⟨b, off, ha, ?_⟩
  rw [hc k (by rw [intVals_length]; omega)]
  simp [intVals, List.getD_eq_getElem?_getD, List.getElem?_eq_getElem (show k < l.length by omega)]

theorem take_eq_of {l m : List Int} {k : Nat} (h : ∀ j, j < k → l.getD j 0 = m.getD j 0) (h1 : l.length = m.length) (h2 : k = l.length) : l = m := by
  subst h2
  refine List.ext_getElem h1 (fun i hi hj => ?_)
  have := h i hi
  simpa [List.getD_eq_getElem?_getD, List.getElem?_eq_getElem hi, List.getElem?_eq_getElem hj] using this

set_option maxRecDepth 20000 in
set_option maxHeartbeats 1000000 in
theorem sameInts_any (l m : List Int) (a b : Option Addr) (n n2 cap cap2 : Nat) (w : World) (h1 : Rd w a n cap 1 (intVals l)) (h2 : Rd w b n2 cap2 1 (intVals m)) :
    Calls Try.prog 23 #[.slice a n cap, .slice b n2 cap2] w (RetQ (.bool (decide (l = m))) w) := by
  have l1 := h1.ilen
  have l2 := h2.ilen
  have mx := h1.lenMax
  have R1 := Box.mk h1; have R2 := Box.mk h2
  clear h1 h2
  by_cases hn : n = n2
  · subst hn
    go_enter Try.func23, Try.ntmps23
    go_wp2_with fail
    go_loopw [5] (fun i wr => ∃ k : Nat, k ≤ n ∧ i = .int .i64 k ∧ (∀ j, j < k → l.getD j 0 = m.getD j 0) ∧ ∃ q, wr = w.drewN q) (fun i _ => n - (intOf i).toNat)
    case atStart => exact ⟨0, Nat.zero_le _, rfl, fun j h => by omega, 0, rfl⟩
    case round =>
      obtain ⟨k, hk, rfl, hsame, q, rfl⟩ := hrel
      have HS := Box.mk hsame; clear hsame
      by_cases hl : k < n
      · obtain ⟨g, off, rfl, hc⟩ := R1.out.intAtD k hl
        obtain ⟨g2, off2, rfl, hc2⟩ := R2.out.intAtD k hl
        by_cases hx : l.getD k 0 = m.getD k 0
        · have hxx : (l.getD k 0 != m.getD k 0) = false := by simp only [bne_eq_false_iff_eq]; exact hx
          have HX := Box.mk (show ∀ j, j < k + 1 → l.getD j 0 = m.getD j 0 from fun j hj => by
            by_cases e : j = k
            · subst e; exact hx
            · exact HS.out j (by omega))
          clear hx
          generalize l.getD k 0 = x at *
          generalize m.getD k 0 = y at *
          go_wp2_with fail
          go_quiet (fail)
          go_wp2_with fail
          go_roundw
          case rel => exact ⟨k + 1, by omega, by go_num, HX.out, _, rfl⟩
          case measure => simp [intOf]; omega
        · have hxx : (l.getD k 0 != m.getD k 0) = true := by simp only [bne_iff_ne]; exact hx
          have HX := Box.mk (show decide (l = m) = false from decide_eq_false (fun e => hx (by rw [e]))); clear hx
          generalize l.getD k 0 = x at *
          generalize m.getD k 0 = y at *
          go_wp2_with fail
          go_quiet (fail)
          go_wp2_with fail
          go_ret
          exact ⟨by rw [HX.out]; rfl, _, World.drewN_drewN _ _ _⟩
      · have HX := Box.mk (show decide (l = m) = true from decide_eq_true (take_eq_of (k := k) HS.out (by omega) (by omega)))
        go_wp2_with fail
        go_ret
        exact ⟨by rw [HX.out]; rfl, _, rfl⟩
  · have HX := Box.mk (show decide (l = m) = false from decide_eq_false (fun e => hn (by rw [← l1, ← l2, e])))
    have hnn : ((n : Int) != (n2 : Int)) = true := by simp only [bne_iff_ne]; omega
    go_enter Try.func23, Try.ntmps23
    go_wp2_with fail
    go_ret
    exact ⟨by rw [HX.out]; rfl, 0, rfl⟩
end Go.Proofs.Ytgimkipekoabbaa
