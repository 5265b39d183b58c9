/-
  The walk of Few. No condition.
-/
import Derived.Test.YtgimkipekoabbaaSan
namespace Go.Proofs.Ytgimkipekoabbaa
open Go.RowKit

/-- Small enough to be checked. -/
def fewB (T : Tab) : Bool := decide (T.cols.length ≤ 20) && decide (T.ixs.length ≤ 20) && decide (T.chks.length ≤ 20) && T.ixs.all fun x => decide (x.cols.length ≤ 20)
theorem fewB_true {T : Tab} (h : fewB T = true) : T.cols.length ≤ 20 ∧ T.ixs.length ≤ 20 ∧ T.chks.length ≤ 20 ∧ ∀ x ∈ T.ixs, x.cols.length ≤ 20 := by
  unfold fewB at h
  simp only [Bool.and_eq_true, decide_eq_true_eq, List.all_eq_true] at h
  exact ⟨h.1.1.1, h.1.1.2, h.1.2, h.2⟩
theorem fewB_big {T : Tab} (h : 20 < T.cols.length ∨ 20 < T.ixs.length ∨ 20 < T.chks.length) : fewB T = false := by
  cases hf : fewB T
  · rfl
  · have := fewB_true hf; omega
theorem fewB_hit {T : Tab} {k : Nat} (hk : k < T.ixs.length) (h : 20 < (T.ixs.getD k default).cols.length) : fewB T = false := by
  cases hf : fewB T
  · rfl
  · have := (fewB_true hf).2.2.2 _ (getD_mem hk); omega
theorem fewB_all {T : Tab} (h1 : T.cols.length ≤ 20) (h2 : T.ixs.length ≤ 20) (h3 : T.chks.length ≤ 20) (h : ∀ k, k < T.ixs.length → (T.ixs.getD k default).cols.length ≤ 20) : fewB T = true := by
  unfold fewB
  simp only [Bool.and_eq_true, decide_eq_true_eq, List.all_eq_true]
  refine ⟨⟨⟨h1, h2⟩, h3⟩, fun x hx => ?_⟩
  obtain ⟨i, hi, rfl⟩ := List.getElem_of_mem hx
  have := h i hi
  rwa [getD_eq hi] at this

set_option maxRecDepth 20000 in
set_option maxHeartbeats 4000000 in
theorem few_any (X : TabP) (w : World) (hr : TabRd w X) : Calls Try.prog 18 #[X.v] w (RetV (.bool (fewB X.t)) w) := by
  generalize hE : fewB X.t = E
  have HE := Box.mk hE
  clear hE
  have T1 := Box.mk (TabIn.start hr)
  have mc := hr.cols.lenMax
  have mi := hr.ixs.lenMax
  have mh := hr.chks.lenMax
  clear hr
  unfold TabP.cs at T1
  unfold TabP.v
  have u1 := T1.out.c1
  have u2 := T1.out.c2
  have u3 := T1.out.c3
  by_cases h1 : 20 < X.cols.length
  · have hX := HE.out.symm.trans (fewB_big (T := X.t) (.inl h1))
    subst hX
    go_enter Try.func18, Try.ntmps18
    go_wp2_with fail
    go_ret
    exact ⟨rfl, T1.out.below⟩
  by_cases h2 : 20 < X.ixs.length
  · have hX := HE.out.symm.trans (fewB_big (T := X.t) (.inr (.inl (by show 20 < (X.ixs.map fun (p : IxP) => p.x).length; rw [List.length_map]; exact h2))))
    subst hX
    go_enter Try.func18, Try.ntmps18
    go_wp2_with fail
    go_ret
    exact ⟨rfl, T1.out.below⟩
  by_cases h3 : 20 < X.chks.length
  · have hX := HE.out.symm.trans (fewB_big (T := X.t) (.inr (.inr h3)))
    subst hX
    go_enter Try.func18, Try.ntmps18
    go_wp2_with fail
    go_ret
    exact ⟨rfl, T1.out.below⟩
  have n1 : X.cols.length ≤ 20 := by omega
  have n2 : X.ixs.length ≤ 20 := by omega
  have n3 : X.chks.length ≤ 20 := by omega
  clear h1 h2 h3
  go_enter Try.func18, Try.ntmps18
  go_wp2_with fail
  generalize (w.alloc (.cells #[.string ⟨X.name.toArray⟩, .slice X.ca X.cols.length X.cc, .slice X.ia X.ixs.length X.ic, .slice X.ha X.chks.length X.hc] 28)) = W at *
  generalize hg : w.heap.size = g at *
  clear u1 u3
  go_loopw [3] (fun i wr => ∃ k : Nat, k ≤ X.ixs.length ∧ i = .int .i64 k ∧ Box (∀ j, j < k → (X.t.ixs.getD j default).cols.length ≤ 20) ∧ wr = W) (fun i _ => X.ixs.length - (intOf i).toNat)
  case atStart => exact ⟨0, Nat.zero_le _, rfl, ⟨fun j h => by omega⟩, rfl⟩
  case round =>
    obtain ⟨k, hk, rfl, HZ, rfl⟩ := hrel
    by_cases hlt : k < X.ixs.length
    · obtain ⟨b, off, hca, hgb, hc⟩ := T1.out.rd.ixs.recAt IxP.enc_len (by omega) k hlt
      rw [hca] at u2
      have hlt2 : k < X.t.ixs.length := by show k < (X.ixs.map fun (p : IxP) => p.x).length; rw [List.length_map]; exact hlt
      have hgx : (X.t.ixs.getD k default) = (X.ixs.getD k default).x := getD_map_x X.ixs k
      have mn := (T1.out.rd.nums _ (getD_mem hlt)).lenMax
      have HHIT := Box.mk (fun (h : 20 < (X.ixs.getD k default).x.cols.length) => show E = false from by
        rw [← HE.out]; exact fewB_hit hlt2 (by rw [hgx]; exact h))
      have HST := Box.mk (fun (h : (X.ixs.getD k default).x.cols.length ≤ 20) => show ∀ j, j < k + 1 → (X.t.ixs.getD j default).cols.length ≤ 20 from fun j hj => by
        by_cases e : j = k
        · subst e; rw [hgx]; exact h
        · exact HZ.out j (by omega))
      have c1 := hc 1 _ rfl
      clear hc hca hgb hgx
      generalize X.ixs.getD k default = y at *
      obtain ⟨⟨yn, yc, yu⟩, ya, yp⟩ := y
      simp only at c1 mn HHIT HST
      generalize yc.length = yl at *
      by_cases hy : 20 < yl
      · have hX := HHIT.out hy
        subst hX
        go_wp2_with fail
        go_ret
        exact ⟨rfl, hg ▸ T1.out.below⟩
      · have hy2 : yl ≤ 20 := by omega
        have HS2 := Box.mk (HST.out hy2)
        clear hy HST HHIT
        go_wp2_with fail
        go_roundw
        case rel => exact ⟨k + 1, by omega, by go_num, HS2, trivial⟩
        case measure => simp [intOf]; omega
    · have hX := HE.out.symm.trans (fewB_all (T := X.t) n1 (by show (X.ixs.map fun (p : IxP) => p.x).length ≤ 20; rw [List.length_map]; exact n2) n3 (fun j hj => HZ.out j (by change j < (X.ixs.map fun (p : IxP) => p.x).length at hj; rw [List.length_map] at hj; omega)))
      subst hX
      go_wp2_with fail
      go_ret
      exact ⟨rfl, hg ▸ T1.out.below⟩
theorem few_is {X : TabP} {b : Bool} (h : fewB X.t = b) {w : World} (hr : TabRd w X) : Calls Try.prog 18 #[.agg #[.string ⟨X.name.toArray⟩, .slice X.ca X.cols.length X.cc, .slice X.ia X.ixs.length X.ic, .slice X.ha X.chks.length X.hc]] w (RetV (.bool b) w) := by
  subst h; exact few_any X w hr
end Go.Proofs.Ytgimkipekoabbaa
