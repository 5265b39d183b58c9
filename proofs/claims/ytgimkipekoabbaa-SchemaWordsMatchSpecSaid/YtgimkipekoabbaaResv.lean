/-
  The walk of schema's reserved. No condition.
-/
import Derived.Test.YtgimkipekoabbaaRows
import Derived.Test.YtgimkipekoabbaaTB
import Derived.Test.YtgimkipekoabbaaStar2
import Derived.Deep.CutRange
namespace Go.Proofs.Ytgimkipekoabbaa
open Go.RowKit

theorem beq_or (s w : List UInt8) : Box ((s == w) = true ∧ s = w) ∨ Box ((s == w) = false ∧ s ≠ w) := by
  cases h : s == w
  · exact .inr ⟨rfl, fun e => by subst e; simp at h⟩
  · exact .inl ⟨rfl, eq_of_beq h⟩

set_option maxRecDepth 20000 in
set_option maxHeartbeats 8000000 in
theorem reserved_any (s : List UInt8) (w : World) : Calls Try.prog 42 #[.string ⟨s.toArray⟩] w fun e w' => e = .returned (.bool (reservedB s)) ∧ w' = w := by
  generalize hR : reservedB s = R
  have HR := Box.mk hR
  clear hR
  go_enter Try.func42, Try.ntmps42
  go_upto_region 2 with fail
  rcases beq_or s [97, 100, 100] with h | N0
  · have hr : R = true := by rw [← HR.out, h.out.2]; decide
    subst hr
    have h1 := h.out.1
    clear h
    go_wp2_with fail
    go_ret
    exact ⟨rfl, rfl⟩
  have h1 := N0.out.1
  go_upto_region 3 with fail
  clear h1
  rcases beq_or s [97, 110, 100] with h | N1
  · have hr : R = true := by rw [← HR.out, h.out.2]; decide
    subst hr
    have h1 := h.out.1
    clear h
    go_wp2_with fail
    go_ret
    exact ⟨rfl, rfl⟩
  have h1 := N1.out.1
  go_upto_region 4 with fail
  clear h1
  rcases beq_or s [97, 115] with h | N2
  · have hr : R = true := by rw [← HR.out, h.out.2]; decide
    subst hr
    have h1 := h.out.1
    clear h
    go_wp2_with fail
    go_ret
    exact ⟨rfl, rfl⟩
  have h1 := N2.out.1
  go_upto_region 5 with fail
  clear h1
  rcases beq_or s [97, 115, 99] with h | N3
  · have hr : R = true := by rw [← HR.out, h.out.2]; decide
    subst hr
    have h1 := h.out.1
    clear h
    go_wp2_with fail
    go_ret
    exact ⟨rfl, rfl⟩
  have h1 := N3.out.1
  go_upto_region 6 with fail
  clear h1
  rcases beq_or s [98, 101, 103, 105, 110] with h | N4
  · have hr : R = true := by rw [← HR.out, h.out.2]; decide
    subst hr
    have h1 := h.out.1
    clear h
    go_wp2_with fail
    go_ret
    exact ⟨rfl, rfl⟩
  have h1 := N4.out.1
  go_upto_region 7 with fail
  clear h1
  rcases beq_or s [98, 111, 111, 108] with h | N5
  · have hr : R = true := by rw [← HR.out, h.out.2]; decide
    subst hr
    have h1 := h.out.1
    clear h
    go_wp2_with fail
    go_ret
    exact ⟨rfl, rfl⟩
  have h1 := N5.out.1
  go_upto_region 8 with fail
  clear h1
  rcases beq_or s [98, 121] with h | N6
  · have hr : R = true := by rw [← HR.out, h.out.2]; decide
    subst hr
    have h1 := h.out.1
    clear h
    go_wp2_with fail
    go_ret
    exact ⟨rfl, rfl⟩
  have h1 := N6.out.1
  go_upto_region 9 with fail
  clear h1
  rcases beq_or s [99, 104, 101, 99, 107] with h | N7
  · have hr : R = true := by rw [← HR.out, h.out.2]; decide
    subst hr
    have h1 := h.out.1
    clear h
    go_wp2_with fail
    go_ret
    exact ⟨rfl, rfl⟩
  have h1 := N7.out.1
  go_upto_region 10 with fail
  clear h1
  rcases beq_or s [99, 111, 108, 117, 109, 110] with h | N8
  · have hr : R = true := by rw [← HR.out, h.out.2]; decide
    subst hr
    have h1 := h.out.1
    clear h
    go_wp2_with fail
    go_ret
    exact ⟨rfl, rfl⟩
  have h1 := N8.out.1
  go_upto_region 11 with fail
  clear h1
  rcases beq_or s [99, 111, 109, 109, 105, 116] with h | N9
  · have hr : R = true := by rw [← HR.out, h.out.2]; decide
    subst hr
    have h1 := h.out.1
    clear h
    go_wp2_with fail
    go_ret
    exact ⟨rfl, rfl⟩
  have h1 := N9.out.1
  go_upto_region 12 with fail
  clear h1
  rcases beq_or s [99, 111, 117, 110, 116] with h | N10
  · have hr : R = true := by rw [← HR.out, h.out.2]; decide
    subst hr
    have h1 := h.out.1
    clear h
    go_wp2_with fail
    go_ret
    exact ⟨rfl, rfl⟩
  have h1 := N10.out.1
  go_upto_region 13 with fail
  clear h1
  rcases beq_or s [99, 114, 101, 97, 116, 101] with h | N11
  · have hr : R = true := by rw [← HR.out, h.out.2]; decide
    subst hr
    have h1 := h.out.1
    clear h
    go_wp2_with fail
    go_ret
    exact ⟨rfl, rfl⟩
  have h1 := N11.out.1
  go_upto_region 14 with fail
  clear h1
  rcases beq_or s [100, 101, 108, 101, 116, 101] with h | N12
  · have hr : R = true := by rw [← HR.out, h.out.2]; decide
    subst hr
    have h1 := h.out.1
    clear h
    go_wp2_with fail
    go_ret
    exact ⟨rfl, rfl⟩
  have h1 := N12.out.1
  go_upto_region 15 with fail
  clear h1
  rcases beq_or s [100, 101, 115, 99] with h | N13
  · have hr : R = true := by rw [← HR.out, h.out.2]; decide
    subst hr
    have h1 := h.out.1
    clear h
    go_wp2_with fail
    go_ret
    exact ⟨rfl, rfl⟩
  have h1 := N13.out.1
  go_upto_region 16 with fail
  clear h1
  rcases beq_or s [100, 105, 115, 116, 105, 110, 99, 116] with h | N14
  · have hr : R = true := by rw [← HR.out, h.out.2]; decide
    subst hr
    have h1 := h.out.1
    clear h
    go_wp2_with fail
    go_ret
    exact ⟨rfl, rfl⟩
  have h1 := N14.out.1
  go_upto_region 17 with fail
  clear h1
  rcases beq_or s [100, 114, 111, 112] with h | N15
  · have hr : R = true := by rw [← HR.out, h.out.2]; decide
    subst hr
    have h1 := h.out.1
    clear h
    go_wp2_with fail
    go_ret
    exact ⟨rfl, rfl⟩
  have h1 := N15.out.1
  go_upto_region 18 with fail
  clear h1
  rcases beq_or s [102, 97, 108, 115, 101] with h | N16
  · have hr : R = true := by rw [← HR.out, h.out.2]; decide
    subst hr
    have h1 := h.out.1
    clear h
    go_wp2_with fail
    go_ret
    exact ⟨rfl, rfl⟩
  have h1 := N16.out.1
  go_upto_region 19 with fail
  clear h1
  rcases beq_or s [102, 114, 111, 109] with h | N17
  · have hr : R = true := by rw [← HR.out, h.out.2]; decide
    subst hr
    have h1 := h.out.1
    clear h
    go_wp2_with fail
    go_ret
    exact ⟨rfl, rfl⟩
  have h1 := N17.out.1
  go_upto_region 20 with fail
  clear h1
  rcases beq_or s [103, 114, 111, 117, 112] with h | N18
  · have hr : R = true := by rw [← HR.out, h.out.2]; decide
    subst hr
    have h1 := h.out.1
    clear h
    go_wp2_with fail
    go_ret
    exact ⟨rfl, rfl⟩
  have h1 := N18.out.1
  go_upto_region 21 with fail
  clear h1
  rcases beq_or s [105, 110, 100, 101, 120] with h | N19
  · have hr : R = true := by rw [← HR.out, h.out.2]; decide
    subst hr
    have h1 := h.out.1
    clear h
    go_wp2_with fail
    go_ret
    exact ⟨rfl, rfl⟩
  have h1 := N19.out.1
  go_upto_region 22 with fail
  clear h1
  rcases beq_or s [105, 110, 115, 101, 114, 116] with h | N20
  · have hr : R = true := by rw [← HR.out, h.out.2]; decide
    subst hr
    have h1 := h.out.1
    clear h
    go_wp2_with fail
    go_ret
    exact ⟨rfl, rfl⟩
  have h1 := N20.out.1
  go_upto_region 23 with fail
  clear h1
  rcases beq_or s [105, 110, 116] with h | N21
  · have hr : R = true := by rw [← HR.out, h.out.2]; decide
    subst hr
    have h1 := h.out.1
    clear h
    go_wp2_with fail
    go_ret
    exact ⟨rfl, rfl⟩
  have h1 := N21.out.1
  go_upto_region 24 with fail
  clear h1
  rcases beq_or s [105, 110, 116, 111] with h | N22
  · have hr : R = true := by rw [← HR.out, h.out.2]; decide
    subst hr
    have h1 := h.out.1
    clear h
    go_wp2_with fail
    go_ret
    exact ⟨rfl, rfl⟩
  have h1 := N22.out.1
  go_upto_region 25 with fail
  clear h1
  rcases beq_or s [105, 115] with h | N23
  · have hr : R = true := by rw [← HR.out, h.out.2]; decide
    subst hr
    have h1 := h.out.1
    clear h
    go_wp2_with fail
    go_ret
    exact ⟨rfl, rfl⟩
  have h1 := N23.out.1
  go_upto_region 26 with fail
  clear h1
  rcases beq_or s [106, 111, 105, 110] with h | N24
  · have hr : R = true := by rw [← HR.out, h.out.2]; decide
    subst hr
    have h1 := h.out.1
    clear h
    go_wp2_with fail
    go_ret
    exact ⟨rfl, rfl⟩
  have h1 := N24.out.1
  go_upto_region 27 with fail
  clear h1
  rcases beq_or s [107, 101, 121] with h | N25
  · have hr : R = true := by rw [← HR.out, h.out.2]; decide
    subst hr
    have h1 := h.out.1
    clear h
    go_wp2_with fail
    go_ret
    exact ⟨rfl, rfl⟩
  have h1 := N25.out.1
  go_upto_region 28 with fail
  clear h1
  rcases beq_or s [108, 105, 109, 105, 116] with h | N26
  · have hr : R = true := by rw [← HR.out, h.out.2]; decide
    subst hr
    have h1 := h.out.1
    clear h
    go_wp2_with fail
    go_ret
    exact ⟨rfl, rfl⟩
  have h1 := N26.out.1
  go_upto_region 29 with fail
  clear h1
  rcases beq_or s [109, 97, 120] with h | N27
  · have hr : R = true := by rw [← HR.out, h.out.2]; decide
    subst hr
    have h1 := h.out.1
    clear h
    go_wp2_with fail
    go_ret
    exact ⟨rfl, rfl⟩
  have h1 := N27.out.1
  go_upto_region 30 with fail
  clear h1
  rcases beq_or s [109, 105, 110] with h | N28
  · have hr : R = true := by rw [← HR.out, h.out.2]; decide
    subst hr
    have h1 := h.out.1
    clear h
    go_wp2_with fail
    go_ret
    exact ⟨rfl, rfl⟩
  have h1 := N28.out.1
  go_upto_region 31 with fail
  clear h1
  rcases beq_or s [110, 111, 116] with h | N29
  · have hr : R = true := by rw [← HR.out, h.out.2]; decide
    subst hr
    have h1 := h.out.1
    clear h
    go_wp2_with fail
    go_ret
    exact ⟨rfl, rfl⟩
  have h1 := N29.out.1
  go_upto_region 32 with fail
  clear h1
  rcases beq_or s [110, 117, 108, 108] with h | N30
  · have hr : R = true := by rw [← HR.out, h.out.2]; decide
    subst hr
    have h1 := h.out.1
    clear h
    go_wp2_with fail
    go_ret
    exact ⟨rfl, rfl⟩
  have h1 := N30.out.1
  go_upto_region 33 with fail
  clear h1
  rcases beq_or s [111, 110] with h | N31
  · have hr : R = true := by rw [← HR.out, h.out.2]; decide
    subst hr
    have h1 := h.out.1
    clear h
    go_wp2_with fail
    go_ret
    exact ⟨rfl, rfl⟩
  have h1 := N31.out.1
  go_upto_region 34 with fail
  clear h1
  rcases beq_or s [111, 110, 108, 121] with h | N32
  · have hr : R = true := by rw [← HR.out, h.out.2]; decide
    subst hr
    have h1 := h.out.1
    clear h
    go_wp2_with fail
    go_ret
    exact ⟨rfl, rfl⟩
  have h1 := N32.out.1
  go_upto_region 35 with fail
  clear h1
  rcases beq_or s [111, 114] with h | N33
  · have hr : R = true := by rw [← HR.out, h.out.2]; decide
    subst hr
    have h1 := h.out.1
    clear h
    go_wp2_with fail
    go_ret
    exact ⟨rfl, rfl⟩
  have h1 := N33.out.1
  go_upto_region 36 with fail
  clear h1
  rcases beq_or s [111, 114, 100, 101, 114] with h | N34
  · have hr : R = true := by rw [← HR.out, h.out.2]; decide
    subst hr
    have h1 := h.out.1
    clear h
    go_wp2_with fail
    go_ret
    exact ⟨rfl, rfl⟩
  have h1 := N34.out.1
  go_upto_region 37 with fail
  clear h1
  rcases beq_or s [114, 101, 97, 100] with h | N35
  · have hr : R = true := by rw [← HR.out, h.out.2]; decide
    subst hr
    have h1 := h.out.1
    clear h
    go_wp2_with fail
    go_ret
    exact ⟨rfl, rfl⟩
  have h1 := N35.out.1
  go_upto_region 38 with fail
  clear h1
  rcases beq_or s [114, 101, 108, 101, 97, 115, 101] with h | N36
  · have hr : R = true := by rw [← HR.out, h.out.2]; decide
    subst hr
    have h1 := h.out.1
    clear h
    go_wp2_with fail
    go_ret
    exact ⟨rfl, rfl⟩
  have h1 := N36.out.1
  go_upto_region 39 with fail
  clear h1
  rcases beq_or s [114, 111, 108, 108, 98, 97, 99, 107] with h | N37
  · have hr : R = true := by rw [← HR.out, h.out.2]; decide
    subst hr
    have h1 := h.out.1
    clear h
    go_wp2_with fail
    go_ret
    exact ⟨rfl, rfl⟩
  have h1 := N37.out.1
  go_upto_region 40 with fail
  clear h1
  rcases beq_or s [115, 97, 118, 101, 112, 111, 105, 110, 116] with h | N38
  · have hr : R = true := by rw [← HR.out, h.out.2]; decide
    subst hr
    have h1 := h.out.1
    clear h
    go_wp2_with fail
    go_ret
    exact ⟨rfl, rfl⟩
  have h1 := N38.out.1
  go_upto_region 41 with fail
  clear h1
  rcases beq_or s [115, 101, 108, 101, 99, 116] with h | N39
  · have hr : R = true := by rw [← HR.out, h.out.2]; decide
    subst hr
    have h1 := h.out.1
    clear h
    go_wp2_with fail
    go_ret
    exact ⟨rfl, rfl⟩
  have h1 := N39.out.1
  go_upto_region 42 with fail
  clear h1
  rcases beq_or s [115, 101, 114, 105, 97, 108, 105, 122, 97, 98, 108, 101] with h | N40
  · have hr : R = true := by rw [← HR.out, h.out.2]; decide
    subst hr
    have h1 := h.out.1
    clear h
    go_wp2_with fail
    go_ret
    exact ⟨rfl, rfl⟩
  have h1 := N40.out.1
  go_upto_region 43 with fail
  clear h1
  rcases beq_or s [115, 101, 116] with h | N41
  · have hr : R = true := by rw [← HR.out, h.out.2]; decide
    subst hr
    have h1 := h.out.1
    clear h
    go_wp2_with fail
    go_ret
    exact ⟨rfl, rfl⟩
  have h1 := N41.out.1
  go_upto_region 44 with fail
  clear h1
  rcases beq_or s [115, 117, 109] with h | N42
  · have hr : R = true := by rw [← HR.out, h.out.2]; decide
    subst hr
    have h1 := h.out.1
    clear h
    go_wp2_with fail
    go_ret
    exact ⟨rfl, rfl⟩
  have h1 := N42.out.1
  go_upto_region 45 with fail
  clear h1
  rcases beq_or s [116, 97, 98, 108, 101] with h | N43
  · have hr : R = true := by rw [← HR.out, h.out.2]; decide
    subst hr
    have h1 := h.out.1
    clear h
    go_wp2_with fail
    go_ret
    exact ⟨rfl, rfl⟩
  have h1 := N43.out.1
  go_upto_region 46 with fail
  clear h1
  rcases beq_or s [116, 101, 120, 116] with h | N44
  · have hr : R = true := by rw [← HR.out, h.out.2]; decide
    subst hr
    have h1 := h.out.1
    clear h
    go_wp2_with fail
    go_ret
    exact ⟨rfl, rfl⟩
  have h1 := N44.out.1
  go_upto_region 47 with fail
  clear h1
  rcases beq_or s [116, 111] with h | N45
  · have hr : R = true := by rw [← HR.out, h.out.2]; decide
    subst hr
    have h1 := h.out.1
    clear h
    go_wp2_with fail
    go_ret
    exact ⟨rfl, rfl⟩
  have h1 := N45.out.1
  go_upto_region 48 with fail
  clear h1
  rcases beq_or s [116, 114, 117, 101] with h | N46
  · have hr : R = true := by rw [← HR.out, h.out.2]; decide
    subst hr
    have h1 := h.out.1
    clear h
    go_wp2_with fail
    go_ret
    exact ⟨rfl, rfl⟩
  have h1 := N46.out.1
  go_upto_region 49 with fail
  clear h1
  rcases beq_or s [117, 110, 105, 113, 117, 101] with h | N47
  · have hr : R = true := by rw [← HR.out, h.out.2]; decide
    subst hr
    have h1 := h.out.1
    clear h
    go_wp2_with fail
    go_ret
    exact ⟨rfl, rfl⟩
  have h1 := N47.out.1
  go_upto_region 50 with fail
  clear h1
  rcases beq_or s [117, 112, 100, 97, 116, 101] with h | N48
  · have hr : R = true := by rw [← HR.out, h.out.2]; decide
    subst hr
    have h1 := h.out.1
    clear h
    go_wp2_with fail
    go_ret
    exact ⟨rfl, rfl⟩
  have h1 := N48.out.1
  go_upto_region 51 with fail
  clear h1
  rcases beq_or s [118, 97, 108, 117, 101, 115] with h | N49
  · have hr : R = true := by rw [← HR.out, h.out.2]; decide
    subst hr
    have h1 := h.out.1
    clear h
    go_wp2_with fail
    go_ret
    exact ⟨rfl, rfl⟩
  have h1 := N49.out.1
  go_upto_region 52 with fail
  clear h1
  rcases beq_or s [119, 104, 101, 114, 101] with h | N50
  · have hr : R = true := by rw [← HR.out, h.out.2]; decide
    subst hr
    have h1 := h.out.1
    clear h
    go_wp2_with fail
    go_ret
    exact ⟨rfl, rfl⟩
  have h1 := N50.out.1
  have hr : R = false := by
    rw [← HR.out]; unfold reservedB reservedWords
    simp only [List.mem_cons, List.not_mem_nil, or_false, decide_eq_false_iff_not, not_or]
    exact ⟨N0.out.2, N1.out.2, N2.out.2, N3.out.2, N4.out.2, N5.out.2, N6.out.2, N7.out.2, N8.out.2, N9.out.2, N10.out.2, N11.out.2, N12.out.2, N13.out.2, N14.out.2, N15.out.2, N16.out.2, N17.out.2, N18.out.2, N19.out.2, N20.out.2, N21.out.2, N22.out.2, N23.out.2, N24.out.2, N25.out.2, N26.out.2, N27.out.2, N28.out.2, N29.out.2, N30.out.2, N31.out.2, N32.out.2, N33.out.2, N34.out.2, N35.out.2, N36.out.2, N37.out.2, N38.out.2, N39.out.2, N40.out.2, N41.out.2, N42.out.2, N43.out.2, N44.out.2, N45.out.2, N46.out.2, N47.out.2, N48.out.2, N49.out.2, N50.out.2⟩
  subst hr
  go_wp2_with fail
  go_ret
  exact ⟨rfl, rfl⟩
end Go.Proofs.Ytgimkipekoabbaa
