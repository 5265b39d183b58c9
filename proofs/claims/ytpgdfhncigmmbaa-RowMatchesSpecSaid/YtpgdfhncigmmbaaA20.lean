/-
  Chapter 20: names, values, comparisons, records in memory. No condition.
-/
import Derived.WalkKit
import Derived.Test.YtpgdfhncigmmbaaRows
import Derived.Test.YtpgdfhncigmmbaaLibB
import Derived.Deep.CutRange
import Derived.Lib.ConvBytes
/-
  Plain mathematics of chapter 20: tables as values, and what is a name. No condition.
-/
namespace Go.Proofs.Ytpgdfhncigmmbaa

structure Col where
  name : List UInt8
  kind : Int
  null : Bool
deriving DecidableEq, Inhabited
structure Ix where
  name : List UInt8
  cols : List Int
  uniq : Bool
deriving DecidableEq, Inhabited
structure Val where
  kind : Int
  n : Int
  s : List UInt8
deriving DecidableEq, Inhabited
structure Chk where
  col : Int
  op : Int
  val : Val
deriving DecidableEq, Inhabited
structure Tab where
  name : List UInt8
  cols : List Col
  ixs : List Ix
  chks : List Chk
deriving DecidableEq, Inhabited

/-- The words that are no names. -/
def reservedWords : List (List UInt8) := [[97, 100, 100], [97, 110, 100], [97, 115], [97, 115, 99], [98, 101, 103, 105, 110], [98, 111, 111, 108], [98, 121], [99, 104, 101, 99, 107], [99, 111, 108, 117, 109, 110], [99, 111, 109, 109, 105, 116], [99, 111, 117, 110, 116], [99, 114, 101, 97, 116, 101], [100, 101, 108, 101, 116, 101], [100, 101, 115, 99], [100, 105, 115, 116, 105, 110, 99, 116], [100, 114, 111, 112], [102, 97, 108, 115, 101], [102, 114, 111, 109], [103, 114, 111, 117, 112], [105, 110, 100, 101, 120], [105, 110, 115, 101, 114, 116], [105, 110, 116], [105, 110, 116, 111], [105, 115], [106, 111, 105, 110], [107, 101, 121], [108, 105, 109, 105, 116], [109, 97, 120], [109, 105, 110], [110, 111, 116], [110, 117, 108, 108], [111, 110], [111, 110, 108, 121], [111, 114], [111, 114, 100, 101, 114], [114, 101, 97, 100], [114, 101, 108, 101, 97, 115, 101], [114, 111, 108, 108, 98, 97, 99, 107], [115, 97, 118, 101, 112, 111, 105, 110, 116], [115, 101, 108, 101, 99, 116], [115, 101, 114, 105, 97, 108, 105, 122, 97, 98, 108, 101], [115, 101, 116], [115, 117, 109], [116, 97, 98, 108, 101], [116, 101, 120, 116], [116, 111], [116, 114, 117, 101], [117, 110, 105, 113, 117, 101], [117, 112, 100, 97, 116, 101], [118, 97, 108, 117, 101, 115], [119, 104, 101, 114, 101]]
def reservedB (s : List UInt8) : Bool := decide (s ∈ reservedWords)
def letterB (c : UInt8) : Bool := decide (97 ≤ c.toNat ∧ c.toNat ≤ 122)
/-- A byte that names hold. -/
def charB (c : UInt8) : Bool := letterB c || decide (48 ≤ c.toNat ∧ c.toNat ≤ 57) || decide (c.toNat = 95)
/-- A name. -/
def nameB (s : List UInt8) : Bool := decide (0 < s.length) && decide (s.length ≤ 16) && !reservedB s && decide (97 ≤ (s.getD 0 0).toNat) && s.all charB
end Go.Proofs.Ytpgdfhncigmmbaa

/-
  The walk of schema's reserved. No condition.
-/
namespace Go.Proofs.Ytpgdfhncigmmbaa
open Go.RowKit

theorem beq_or (s w : List UInt8) : Box ((s == w) = true ∧ s = w) ∨ Box ((s == w) = false ∧ s ≠ w) := by
  cases h : s == w
  · exact .inr ⟨rfl, fun e => by subst e; simp at h⟩
  · exact .inl ⟨rfl, eq_of_beq h⟩

set_option maxRecDepth 20000 in
set_option maxHeartbeats 8000000 in
theorem reserved_any (s : List UInt8) (w : World) : Calls Try.prog 88 #[.string ⟨s.toArray⟩] w fun e w' => e = .returned (.bool (reservedB s)) ∧ w' = w := by
  generalize hR : reservedB s = R
  have HR := Box.mk hR
  clear hR
  go_enter Try.func88, Try.ntmps88
  go_upto_region 2 with fail
  rcases beq_or s [97, 100, 100] with h | N0
  · have hr : R = true := by rw [← HR.out, h.out.2]; decide
    subst hr
    have h1 := h.out.1
    clear h
    go_wp2_with fail
    go_ret
    exact ⟨rfl, rfl⟩
  have h1 := N0.out.1
  go_upto_region 3 with fail
  clear h1
  rcases beq_or s [97, 110, 100] with h | N1
  · have hr : R = true := by rw [← HR.out, h.out.2]; decide
    subst hr
    have h1 := h.out.1
    clear h
    go_wp2_with fail
    go_ret
    exact ⟨rfl, rfl⟩
  have h1 := N1.out.1
  go_upto_region 4 with fail
  clear h1
  rcases beq_or s [97, 115] with h | N2
  · have hr : R = true := by rw [← HR.out, h.out.2]; decide
    subst hr
    have h1 := h.out.1
    clear h
    go_wp2_with fail
    go_ret
    exact ⟨rfl, rfl⟩
  have h1 := N2.out.1
  go_upto_region 5 with fail
  clear h1
  rcases beq_or s [97, 115, 99] with h | N3
  · have hr : R = true := by rw [← HR.out, h.out.2]; decide
    subst hr
    have h1 := h.out.1
    clear h
    go_wp2_with fail
    go_ret
    exact ⟨rfl, rfl⟩
  have h1 := N3.out.1
  go_upto_region 6 with fail
  clear h1
  rcases beq_or s [98, 101, 103, 105, 110] with h | N4
  · have hr : R = true := by rw [← HR.out, h.out.2]; decide
    subst hr
    have h1 := h.out.1
    clear h
    go_wp2_with fail
    go_ret
    exact ⟨rfl, rfl⟩
  have h1 := N4.out.1
  go_upto_region 7 with fail
  clear h1
  rcases beq_or s [98, 111, 111, 108] with h | N5
  · have hr : R = true := by rw [← HR.out, h.out.2]; decide
    subst hr
    have h1 := h.out.1
    clear h
    go_wp2_with fail
    go_ret
    exact ⟨rfl, rfl⟩
  have h1 := N5.out.1
  go_upto_region 8 with fail
  clear h1
  rcases beq_or s [98, 121] with h | N6
  · have hr : R = true := by rw [← HR.out, h.out.2]; decide
    subst hr
    have h1 := h.out.1
    clear h
    go_wp2_with fail
    go_ret
    exact ⟨rfl, rfl⟩
  have h1 := N6.out.1
  go_upto_region 9 with fail
  clear h1
  rcases beq_or s [99, 104, 101, 99, 107] with h | N7
  · have hr : R = true := by rw [← HR.out, h.out.2]; decide
    subst hr
    have h1 := h.out.1
    clear h
    go_wp2_with fail
    go_ret
    exact ⟨rfl, rfl⟩
  have h1 := N7.out.1
  go_upto_region 10 with fail
  clear h1
  rcases beq_or s [99, 111, 108, 117, 109, 110] with h | N8
  · have hr : R = true := by rw [← HR.out, h.out.2]; decide
    subst hr
    have h1 := h.out.1
    clear h
    go_wp2_with fail
    go_ret
    exact ⟨rfl, rfl⟩
  have h1 := N8.out.1
  go_upto_region 11 with fail
  clear h1
  rcases beq_or s [99, 111, 109, 109, 105, 116] with h | N9
  · have hr : R = true := by rw [← HR.out, h.out.2]; decide
    subst hr
    have h1 := h.out.1
    clear h
    go_wp2_with fail
    go_ret
    exact ⟨rfl, rfl⟩
  have h1 := N9.out.1
  go_upto_region 12 with fail
  clear h1
  rcases beq_or s [99, 111, 117, 110, 116] with h | N10
  · have hr : R = true := by rw [← HR.out, h.out.2]; decide
    subst hr
    have h1 := h.out.1
    clear h
    go_wp2_with fail
    go_ret
    exact ⟨rfl, rfl⟩
  have h1 := N10.out.1
  go_upto_region 13 with fail
  clear h1
  rcases beq_or s [99, 114, 101, 97, 116, 101] with h | N11
  · have hr : R = true := by rw [← HR.out, h.out.2]; decide
    subst hr
    have h1 := h.out.1
    clear h
    go_wp2_with fail
    go_ret
    exact ⟨rfl, rfl⟩
  have h1 := N11.out.1
  go_upto_region 14 with fail
  clear h1
  rcases beq_or s [100, 101, 108, 101, 116, 101] with h | N12
  · have hr : R = true := by rw [← HR.out, h.out.2]; decide
    subst hr
    have h1 := h.out.1
    clear h
    go_wp2_with fail
    go_ret
    exact ⟨rfl, rfl⟩
  have h1 := N12.out.1
  go_upto_region 15 with fail
  clear h1
  rcases beq_or s [100, 101, 115, 99] with h | N13
  · have hr : R = true := by rw [← HR.out, h.out.2]; decide
    subst hr
    have h1 := h.out.1
    clear h
    go_wp2_with fail
    go_ret
    exact ⟨rfl, rfl⟩
  have h1 := N13.out.1
  go_upto_region 16 with fail
  clear h1
  rcases beq_or s [100, 105, 115, 116, 105, 110, 99, 116] with h | N14
  · have hr : R = true := by rw [← HR.out, h.out.2]; decide
    subst hr
    have h1 := h.out.1
    clear h
    go_wp2_with fail
    go_ret
    exact ⟨rfl, rfl⟩
  have h1 := N14.out.1
  go_upto_region 17 with fail
  clear h1
  rcases beq_or s [100, 114, 111, 112] with h | N15
  · have hr : R = true := by rw [← HR.out, h.out.2]; decide
    subst hr
    have h1 := h.out.1
    clear h
    go_wp2_with fail
    go_ret
    exact ⟨rfl, rfl⟩
  have h1 := N15.out.1
  go_upto_region 18 with fail
  clear h1
  rcases beq_or s [102, 97, 108, 115, 101] with h | N16
  · have hr : R = true := by rw [← HR.out, h.out.2]; decide
    subst hr
    have h1 := h.out.1
    clear h
    go_wp2_with fail
    go_ret
    exact ⟨rfl, rfl⟩
  have h1 := N16.out.1
  go_upto_region 19 with fail
  clear h1
  rcases beq_or s [102, 114, 111, 109] with h | N17
  · have hr : R = true := by rw [← HR.out, h.out.2]; decide
    subst hr
    have h1 := h.out.1
    clear h
    go_wp2_with fail
    go_ret
    exact ⟨rfl, rfl⟩
  have h1 := N17.out.1
  go_upto_region 20 with fail
  clear h1
  rcases beq_or s [103, 114, 111, 117, 112] with h | N18
  · have hr : R = true := by rw [← HR.out, h.out.2]; decide
    subst hr
    have h1 := h.out.1
    clear h
    go_wp2_with fail
    go_ret
    exact ⟨rfl, rfl⟩
  have h1 := N18.out.1
  go_upto_region 21 with fail
  clear h1
  rcases beq_or s [105, 110, 100, 101, 120] with h | N19
  · have hr : R = true := by rw [← HR.out, h.out.2]; decide
    subst hr
    have h1 := h.out.1
    clear h
    go_wp2_with fail
    go_ret
    exact ⟨rfl, rfl⟩
  have h1 := N19.out.1
  go_upto_region 22 with fail
  clear h1
  rcases beq_or s [105, 110, 115, 101, 114, 116] with h | N20
  · have hr : R = true := by rw [← HR.out, h.out.2]; decide
    subst hr
    have h1 := h.out.1
    clear h
    go_wp2_with fail
    go_ret
    exact ⟨rfl, rfl⟩
  have h1 := N20.out.1
  go_upto_region 23 with fail
  clear h1
  rcases beq_or s [105, 110, 116] with h | N21
  · have hr : R = true := by rw [← HR.out, h.out.2]; decide
    subst hr
    have h1 := h.out.1
    clear h
    go_wp2_with fail
    go_ret
    exact ⟨rfl, rfl⟩
  have h1 := N21.out.1
  go_upto_region 24 with fail
  clear h1
  rcases beq_or s [105, 110, 116, 111] with h | N22
  · have hr : R = true := by rw [← HR.out, h.out.2]; decide
    subst hr
    have h1 := h.out.1
    clear h
    go_wp2_with fail
    go_ret
    exact ⟨rfl, rfl⟩
  have h1 := N22.out.1
  go_upto_region 25 with fail
  clear h1
  rcases beq_or s [105, 115] with h | N23
  · have hr : R = true := by rw [← HR.out, h.out.2]; decide
    subst hr
    have h1 := h.out.1
    clear h
    go_wp2_with fail
    go_ret
    exact ⟨rfl, rfl⟩
  have h1 := N23.out.1
  go_upto_region 26 with fail
  clear h1
  rcases beq_or s [106, 111, 105, 110] with h | N24
  · have hr : R = true := by rw [← HR.out, h.out.2]; decide
    subst hr
    have h1 := h.out.1
    clear h
    go_wp2_with fail
    go_ret
    exact ⟨rfl, rfl⟩
  have h1 := N24.out.1
  go_upto_region 27 with fail
  clear h1
  rcases beq_or s [107, 101, 121] with h | N25
  · have hr : R = true := by rw [← HR.out, h.out.2]; decide
    subst hr
    have h1 := h.out.1
    clear h
    go_wp2_with fail
    go_ret
    exact ⟨rfl, rfl⟩
  have h1 := N25.out.1
  go_upto_region 28 with fail
  clear h1
  rcases beq_or s [108, 105, 109, 105, 116] with h | N26
  · have hr : R = true := by rw [← HR.out, h.out.2]; decide
    subst hr
    have h1 := h.out.1
    clear h
    go_wp2_with fail
    go_ret
    exact ⟨rfl, rfl⟩
  have h1 := N26.out.1
  go_upto_region 29 with fail
  clear h1
  rcases beq_or s [109, 97, 120] with h | N27
  · have hr : R = true := by rw [← HR.out, h.out.2]; decide
    subst hr
    have h1 := h.out.1
    clear h
    go_wp2_with fail
    go_ret
    exact ⟨rfl, rfl⟩
  have h1 := N27.out.1
  go_upto_region 30 with fail
  clear h1
  rcases beq_or s [109, 105, 110] with h | N28
  · have hr : R = true := by rw [← HR.out, h.out.2]; decide
    subst hr
    have h1 := h.out.1
    clear h
    go_wp2_with fail
    go_ret
    exact ⟨rfl, rfl⟩
  have h1 := N28.out.1
  go_upto_region 31 with fail
  clear h1
  rcases beq_or s [110, 111, 116] with h | N29
  · have hr : R = true := by rw [← HR.out, h.out.2]; decide
    subst hr
    have h1 := h.out.1
    clear h
    go_wp2_with fail
    go_ret
    exact ⟨rfl, rfl⟩
  have h1 := N29.out.1
  go_upto_region 32 with fail
  clear h1
  rcases beq_or s [110, 117, 108, 108] with h | N30
  · have hr : R = true := by rw [← HR.out, h.out.2]; decide
    subst hr
    have h1 := h.out.1
    clear h
    go_wp2_with fail
    go_ret
    exact ⟨rfl, rfl⟩
  have h1 := N30.out.1
  go_upto_region 33 with fail
  clear h1
  rcases beq_or s [111, 110] with h | N31
  · have hr : R = true := by rw [← HR.out, h.out.2]; decide
    subst hr
    have h1 := h.out.1
    clear h
    go_wp2_with fail
    go_ret
    exact ⟨rfl, rfl⟩
  have h1 := N31.out.1
  go_upto_region 34 with fail
  clear h1
  rcases beq_or s [111, 110, 108, 121] with h | N32
  · have hr : R = true := by rw [← HR.out, h.out.2]; decide
    subst hr
    have h1 := h.out.1
    clear h
    go_wp2_with fail
    go_ret
    exact ⟨rfl, rfl⟩
  have h1 := N32.out.1
  go_upto_region 35 with fail
  clear h1
  rcases beq_or s [111, 114] with h | N33
  · have hr : R = true := by rw [← HR.out, h.out.2]; decide
    subst hr
    have h1 := h.out.1
    clear h
    go_wp2_with fail
    go_ret
    exact ⟨rfl, rfl⟩
  have h1 := N33.out.1
  go_upto_region 36 with fail
  clear h1
  rcases beq_or s [111, 114, 100, 101, 114] with h | N34
  · have hr : R = true := by rw [← HR.out, h.out.2]; decide
    subst hr
    have h1 := h.out.1
    clear h
    go_wp2_with fail
    go_ret
    exact ⟨rfl, rfl⟩
  have h1 := N34.out.1
  go_upto_region 37 with fail
  clear h1
  rcases beq_or s [114, 101, 97, 100] with h | N35
  · have hr : R = true := by rw [← HR.out, h.out.2]; decide
    subst hr
    have h1 := h.out.1
    clear h
    go_wp2_with fail
    go_ret
    exact ⟨rfl, rfl⟩
  have h1 := N35.out.1
  go_upto_region 38 with fail
  clear h1
  rcases beq_or s [114, 101, 108, 101, 97, 115, 101] with h | N36
  · have hr : R = true := by rw [← HR.out, h.out.2]; decide
    subst hr
    have h1 := h.out.1
    clear h
    go_wp2_with fail
    go_ret
    exact ⟨rfl, rfl⟩
  have h1 := N36.out.1
  go_upto_region 39 with fail
  clear h1
  rcases beq_or s [114, 111, 108, 108, 98, 97, 99, 107] with h | N37
  · have hr : R = true := by rw [← HR.out, h.out.2]; decide
    subst hr
    have h1 := h.out.1
    clear h
    go_wp2_with fail
    go_ret
    exact ⟨rfl, rfl⟩
  have h1 := N37.out.1
  go_upto_region 40 with fail
  clear h1
  rcases beq_or s [115, 97, 118, 101, 112, 111, 105, 110, 116] with h | N38
  · have hr : R = true := by rw [← HR.out, h.out.2]; decide
    subst hr
    have h1 := h.out.1
    clear h
    go_wp2_with fail
    go_ret
    exact ⟨rfl, rfl⟩
  have h1 := N38.out.1
  go_upto_region 41 with fail
  clear h1
  rcases beq_or s [115, 101, 108, 101, 99, 116] with h | N39
  · have hr : R = true := by rw [← HR.out, h.out.2]; decide
    subst hr
    have h1 := h.out.1
    clear h
    go_wp2_with fail
    go_ret
    exact ⟨rfl, rfl⟩
  have h1 := N39.out.1
  go_upto_region 42 with fail
  clear h1
  rcases beq_or s [115, 101, 114, 105, 97, 108, 105, 122, 97, 98, 108, 101] with h | N40
  · have hr : R = true := by rw [← HR.out, h.out.2]; decide
    subst hr
    have h1 := h.out.1
    clear h
    go_wp2_with fail
    go_ret
    exact ⟨rfl, rfl⟩
  have h1 := N40.out.1
  go_upto_region 43 with fail
  clear h1
  rcases beq_or s [115, 101, 116] with h | N41
  · have hr : R = true := by rw [← HR.out, h.out.2]; decide
    subst hr
    have h1 := h.out.1
    clear h
    go_wp2_with fail
    go_ret
    exact ⟨rfl, rfl⟩
  have h1 := N41.out.1
  go_upto_region 44 with fail
  clear h1
  rcases beq_or s [115, 117, 109] with h | N42
  · have hr : R = true := by rw [← HR.out, h.out.2]; decide
    subst hr
    have h1 := h.out.1
    clear h
    go_wp2_with fail
    go_ret
    exact ⟨rfl, rfl⟩
  have h1 := N42.out.1
  go_upto_region 45 with fail
  clear h1
  rcases beq_or s [116, 97, 98, 108, 101] with h | N43
  · have hr : R = true := by rw [← HR.out, h.out.2]; decide
    subst hr
    have h1 := h.out.1
    clear h
    go_wp2_with fail
    go_ret
    exact ⟨rfl, rfl⟩
  have h1 := N43.out.1
  go_upto_region 46 with fail
  clear h1
  rcases beq_or s [116, 101, 120, 116] with h | N44
  · have hr : R = true := by rw [← HR.out, h.out.2]; decide
    subst hr
    have h1 := h.out.1
    clear h
    go_wp2_with fail
    go_ret
    exact ⟨rfl, rfl⟩
  have h1 := N44.out.1
  go_upto_region 47 with fail
  clear h1
  rcases beq_or s [116, 111] with h | N45
  · have hr : R = true := by rw [← HR.out, h.out.2]; decide
    subst hr
    have h1 := h.out.1
    clear h
    go_wp2_with fail
    go_ret
    exact ⟨rfl, rfl⟩
  have h1 := N45.out.1
  go_upto_region 48 with fail
  clear h1
  rcases beq_or s [116, 114, 117, 101] with h | N46
  · have hr : R = true := by rw [← HR.out, h.out.2]; decide
    subst hr
    have h1 := h.out.1
    clear h
    go_wp2_with fail
    go_ret
    exact ⟨rfl, rfl⟩
  have h1 := N46.out.1
  go_upto_region 49 with fail
  clear h1
  rcases beq_or s [117, 110, 105, 113, 117, 101] with h | N47
  · have hr : R = true := by rw [← HR.out, h.out.2]; decide
    subst hr
    have h1 := h.out.1
    clear h
    go_wp2_with fail
    go_ret
    exact ⟨rfl, rfl⟩
  have h1 := N47.out.1
  go_upto_region 50 with fail
  clear h1
  rcases beq_or s [117, 112, 100, 97, 116, 101] with h | N48
  · have hr : R = true := by rw [← HR.out, h.out.2]; decide
    subst hr
    have h1 := h.out.1
    clear h
    go_wp2_with fail
    go_ret
    exact ⟨rfl, rfl⟩
  have h1 := N48.out.1
  go_upto_region 51 with fail
  clear h1
  rcases beq_or s [118, 97, 108, 117, 101, 115] with h | N49
  · have hr : R = true := by rw [← HR.out, h.out.2]; decide
    subst hr
    have h1 := h.out.1
    clear h
    go_wp2_with fail
    go_ret
    exact ⟨rfl, rfl⟩
  have h1 := N49.out.1
  go_upto_region 52 with fail
  clear h1
  rcases beq_or s [119, 104, 101, 114, 101] with h | N50
  · have hr : R = true := by rw [← HR.out, h.out.2]; decide
    subst hr
    have h1 := h.out.1
    clear h
    go_wp2_with fail
    go_ret
    exact ⟨rfl, rfl⟩
  have h1 := N50.out.1
  have hr : R = false := by
    rw [← HR.out]; unfold reservedB reservedWords
    simp only [List.mem_cons, List.not_mem_nil, or_false, decide_eq_false_iff_not, not_or]
    exact ⟨N0.out.2, N1.out.2, N2.out.2, N3.out.2, N4.out.2, N5.out.2, N6.out.2, N7.out.2, N8.out.2, N9.out.2, N10.out.2, N11.out.2, N12.out.2, N13.out.2, N14.out.2, N15.out.2, N16.out.2, N17.out.2, N18.out.2, N19.out.2, N20.out.2, N21.out.2, N22.out.2, N23.out.2, N24.out.2, N25.out.2, N26.out.2, N27.out.2, N28.out.2, N29.out.2, N30.out.2, N31.out.2, N32.out.2, N33.out.2, N34.out.2, N35.out.2, N36.out.2, N37.out.2, N38.out.2, N39.out.2, N40.out.2, N41.out.2, N42.out.2, N43.out.2, N44.out.2, N45.out.2, N46.out.2, N47.out.2, N48.out.2, N49.out.2, N50.out.2⟩
  subst hr
  go_wp2_with fail
  go_ret
  exact ⟨rfl, rfl⟩
end Go.Proofs.Ytpgdfhncigmmbaa

/-
  The walk of schema.Name. No condition.
-/
namespace Go.Proofs.Ytpgdfhncigmmbaa
open Go.RowKit

theorem nameB_parts (s : List UInt8) (h0 : s ≠ []) (h16 : s.length ≤ 16) (hr : reservedB s = false) (h97 : 97 ≤ (s.getD 0 0).toNat) : nameB s = s.all charB := by
  unfold nameB
  have : 0 < s.length := List.length_pos_iff.2 h0
  rw [decide_eq_true this, decide_eq_true h16, hr, decide_eq_true h97]
  simp

theorem bytesWorld_below {w : World} (e : TypeId) (s : ByteArray) : Below w.heap.size w (Lib.bytesWorld w e s) := by
  exact ⟨rfl, rfl, rfl, by rw [Lib.bytesWorld_size]; omega, fun k hk => Lib.bytesWorld_at_old w e s k hk⟩

theorem charB_true (c : UInt8) : charB c = true ↔ (97 ≤ (c.toNat : Int) ∧ (c.toNat : Int) ≤ 122) ∨ (48 ≤ (c.toNat : Int) ∧ (c.toNat : Int) ≤ 57) ∨ (c.toNat : Int) = 95 := by
  unfold charB letterB
  simp only [Bool.or_eq_true, decide_eq_true_eq]
  omega
theorem charB_false (c : UInt8) : charB c = false ↔ ((c.toNat : Int) < 97 ∨ 122 < (c.toNat : Int)) ∧ ((c.toNat : Int) < 48 ∨ 57 < (c.toNat : Int)) ∧ (c.toNat : Int) ≠ 95 := by
  have := charB_true c
  cases h : charB c
  · rw [h] at this; simp only [Bool.false_eq_true, false_iff] at this; simp only [true_iff]; omega
  · rw [h] at this; simp only [true_iff] at this; simp only [Bool.true_eq_false, false_iff]; omega

set_option maxRecDepth 20000 in
set_option maxHeartbeats 2000000 in
theorem name_any (s : List UInt8) (w : World) : Calls Try.prog 73 #[.string ⟨s.toArray⟩] w fun e w' => e = .returned (.bool (nameB s)) ∧ Below w.heap.size w w' := by
  have hz : (⟨s.toArray⟩ : ByteArray).size = s.length := str_size s
  have HR := Box.mk (reserved_any s w)
  generalize hB : nameB s = B
  have HB := Box.mk hB
  clear hB
  go_enter Try.func73, Try.ntmps73
  by_cases h0 : s = []
  · subst h0
    have : B = false := by rw [← HB.out]; rfl
    subst this
    go_wp2_with fail
    go_ret
    exact ⟨rfl, Below.refl _ _⟩
  have he : s.isEmpty = false := by cases s with | nil => exact absurd rfl h0 | cons _ _ => rfl
  by_cases h16 : 16 < s.length
  · have : B = false := by rw [← HB.out]; unfold nameB; rw [decide_eq_false (p := s.length ≤ 16) (by omega)]; simp
    subst this
    go_wp2_with fail
    go_ret
    exact ⟨rfl, Below.refl _ _⟩
  have H0 := Box.mk h0
  clear h0
  cases hr : reservedB s with
  | true =>
    have : B = false := by rw [← HB.out]; unfold nameB; rw [hr]; simp
    subst this
    rw [hr] at HR
    clear hr
    go_wp2_with fail
    refine HR.out.mono ?_
    rintro e w1 ⟨rfl, rfl⟩
    go_wp2_with fail
    go_ret
    exact ⟨rfl, Below.refl _ _⟩
  | false =>
    have hpos : 0 < s.length := List.length_pos_iff.2 H0.out
    have d16 : decide ((16 : Int) < (s.length : Int)) = false := decide_eq_false (by omega)
    have e0 : (⟨s.toArray⟩ : ByteArray)[0]'(by rw [hz]; exact hpos) = s.getD 0 0 := by
      show s.toArray[0]'_ = _
      rw [List.getD_eq_getElem?_getD, List.getElem?_eq_getElem hpos]; simp
    by_cases h97 : (s.getD 0 0).toNat < 97
    · have : B = false := by rw [← HB.out]; unfold nameB; rw [decide_eq_false (p := 97 ≤ (s.getD 0 0).toNat) (by omega)]; simp
      subst this
      rw [hr] at HR
      clear hr
      generalize (s.getD 0 0) = c at *
      have d97 : decide (((((⟨s.toArray⟩ : ByteArray)[0]'(by rw [hz]; exact hpos)).toNat : Nat) : Int) < 97) = true := decide_eq_true (by rw [e0]; omega)
      clear e0
      go_wp2_with fail
      refine HR.out.mono ?_
      rintro e w1 ⟨rfl, rfl⟩
      go_wp2_with fail
      go_ret
      exact ⟨rfl, Below.refl _ _⟩
    have HB2 := Box.mk (HB.out.symm.trans (nameB_parts s H0.out (by omega) hr (by omega)))
    rw [hr] at HR
    clear hr HB
    have d97 : decide (((((⟨s.toArray⟩ : ByteArray)[0]'(by rw [hz]; exact hpos)).toNat : Nat) : Int) < 97) = false := decide_eq_false (by rw [e0]; omega)
    clear e0 h97
    have hcv := Lib.run_convert_string_bytes (P := Try.prog) w 9 75 5 ⟨s.toArray⟩ (u := .string) (by kernel_rfl) (by kernel_rfl) (by kernel_rfl)
    have hbel := bytesWorld_below (w := w) 5 ⟨s.toArray⟩
    have HC := Box.mk (fun j (hj : j < s.length) => Lib.bytesWorld_cell w 5 ⟨s.toArray⟩ j (by rw [hz]; exact hj))
    rw [hz] at hcv
    generalize Lib.bytesWorld w 5 ⟨s.toArray⟩ = W1 at *
    generalize grownCap w s.length 0 5 = cap at *
    go_wp2_with fail
    refine HR.out.mono ?_
    rintro e w1 ⟨rfl, rfl⟩
    go_wp2_with fail
    go_loopw [24] (fun i wr => ∃ k : Nat, k ≤ s.length ∧ i = .int .i64 k ∧ (∀ j, j < k → charB (s.getD j 0) = true) ∧ wr = W1) (fun i _ => s.length - (intOf i).toNat)
    case atStart => exact ⟨0, Nat.zero_le _, rfl, fun j h => by omega, rfl⟩
    case round =>
      obtain ⟨k, hk, rfl, hne, rfl⟩ := hrel
      have HNE := Box.mk hne; clear hne
      by_cases hlt : k < s.length
      · have hc := HC.out k hlt
        have hcd : ((⟨s.toArray⟩ : ByteArray).data.toList.getD k 0) = s.getD k 0 := by simp
        rw [hcd] at hc
        clear hcd
        generalize hx : s.getD k 0 = x at *
        have HX := Box.mk hx
        clear hx
        cases hb : charB x with
        | true =>
          have hp := (charB_true x).1 hb
          have HBX := Box.mk hb
          clear hb
          go_wp2_with fail
          all_goals first
            | (exfalso; simp only [bne_iff_ne, ne_eq, bne_eq_false_iff_eq] at *; omega)
            | (refine ⟨⟨k + 1, by omega, by go_num, fun j hj => ?_, trivial⟩, by simp [intOf]; omega⟩
               by_cases e : j = k
               · subst e; rw [HX.out]; exact HBX.out
               · exact HNE.out j (by omega))
        | false =>
          have hp := (charB_false x).1 hb
          have HBX := Box.mk hb
          clear hb
          have hF : B = false := by
            rw [HB2.out, List.all_eq_false]
            refine ⟨x, ?_, by rw [HBX.out]; decide⟩
            rw [← HX.out, List.getD_eq_getElem?_getD, List.getElem?_eq_getElem hlt]; exact List.getElem_mem hlt
          subst hF
          go_wp2_with fail
          all_goals first
            | (exfalso; simp only [bne_iff_ne, ne_eq, bne_eq_false_iff_eq] at *; omega)
            | (go_ret; exact ⟨rfl, hbel⟩)
      · have hk2 : k = s.length := by omega
        have hT : B = true := by
          rw [HB2.out, List.all_eq_true]
          intro x hx
          obtain ⟨j, hj, he⟩ := List.getElem_of_mem hx
          have := HNE.out j (by omega)
          rwa [List.getD_eq_getElem?_getD, List.getElem?_eq_getElem hj, he] at this
        subst hT
        go_wp2_with fail
        all_goals first
          | (exfalso; omega)
          | (go_ret; exact ⟨rfl, hbel⟩)
end Go.Proofs.Ytpgdfhncigmmbaa

/-
  The walks of ref's Reserved and Name. No condition.
-/
namespace Go.Proofs.Ytpgdfhncigmmbaa
open Go.RowKit

def strV (s : List UInt8) : Value := .string ⟨s.toArray⟩

set_option maxRecDepth 20000 in
set_option maxHeartbeats 2000000 in
theorem rresv_any (w : World) : Calls Try.prog 83 #[] w fun e w' => e = .returned (.slice (some ⟨w.heap.size, 0, none⟩) 51 51) ∧ Blk w' w.heap.size 9 (reservedWords.map strV) ∧ Below w.heap.size w w' := by
  go_enter Try.func83, Try.ntmps83
  go_wp2_with fail
  go_ret
  exact ⟨rfl, heap_alloc_new w _, (Below.refl _ _).alloc (Nat.le_refl _) _⟩

theorem own_new {w : World} {g base e size n : Nat} {cs : List Value} (hb : Blk w g e cs) (hbase : base ≤ g) (hl : cs.length = n * size) (hn : n ≤ maxLen) : w.ownsRow base e size (.slice (some ⟨g, 0, none⟩) n n) n cs :=
  ⟨hl, .inr ⟨g, n, cs.toArray, rfl, hbase, hb, Nat.le_refl _, hn, by simp [hl], by rw [← hl]; simp⟩⟩

theorem strV_cell {w : World} {g e : Nat} {l : List (List UInt8)} (hb : Blk w g e (l.map strV)) {k : Nat} (hk : k < l.length) : w.cell? ⟨g, k, none⟩ = some (.string ⟨(l.getD k []).toArray⟩) := by
  rw [hb.cell k (by simpa using hk)]
  simp [strV, List.getD_eq_getElem?_getD, List.getElem?_eq_getElem hk]

theorem nameB_bad {s : List UInt8} {k : Nat} (hk : k < s.length) (h : charB (s.getD k 0) = false) : nameB s = false := by
  have : s.all charB = false := by
    rw [List.all_eq_false]
    refine ⟨s.getD k 0, ?_, by rw [h]; decide⟩
    rw [List.getD_eq_getElem?_getD, List.getElem?_eq_getElem hk]; exact List.getElem_mem hk
  unfold nameB; rw [this]; simp
theorem nameB_bad0 {s : List UInt8} (hk : 0 < s.length) (h : letterB (s.getD 0 0) = false) : nameB s = false := by
  cases hc : charB (s.getD 0 0) with
  | false => exact nameB_bad hk hc
  | true =>
    have : ¬ 97 ≤ (s.getD 0 0).toNat := by
      unfold charB at hc; rw [h] at hc
      unfold letterB at h
      simp only [decide_eq_false_iff_not, Bool.or_eq_true, decide_eq_true_eq, Bool.false_or] at *
      omega
    unfold nameB; rw [decide_eq_false this]; simp
theorem letterB_true (c : UInt8) : letterB c = true ↔ 97 ≤ (c.toNat : Int) ∧ (c.toNat : Int) ≤ 122 := by
  unfold letterB; simp only [decide_eq_true_eq]; omega
theorem letterB_false (c : UInt8) : letterB c = false ↔ (c.toNat : Int) < 97 ∨ 122 < (c.toNat : Int) := by
  unfold letterB; simp only [decide_eq_false_iff_not]; omega
theorem nameB_ok {s : List UInt8} (h0 : 0 < s.length) (h16 : s.length ≤ 16) (hc : ∀ j, j < s.length → charB (s.getD j 0) = true) (hl : letterB (s.getD 0 0) = true) : nameB s = !reservedB s := by
  have ha : s.all charB = true := by
    rw [List.all_eq_true]
    intro x hx
    obtain ⟨j, hj, he⟩ := List.getElem_of_mem hx
    have := hc j hj
    rwa [List.getD_eq_getElem?_getD, List.getElem?_eq_getElem hj, he] at this
  have h97 : 97 ≤ (s.getD 0 0).toNat := by have := (letterB_true _).1 hl; omega
  unfold nameB
  rw [decide_eq_true h0, decide_eq_true h16, ha, decide_eq_true h97]; simp

theorem strV_one (s : List UInt8) : (strV s).oneCell' = true := rfl

set_option maxRecDepth 20000 in
set_option maxHeartbeats 4000000 in
theorem rname_any (s : List UInt8) (w : World) : Calls Try.prog 60 #[.string ⟨s.toArray⟩] w fun e w' => e = .returned (.bool (nameB s)) ∧ Below w.heap.size w w' := by
  have hz : (⟨s.toArray⟩ : ByteArray).size = s.length := str_size s
  have HR := Box.mk (rresv_any w)
  generalize hB : nameB s = B
  have HB := Box.mk hB
  clear hB
  go_enter Try.func60, Try.ntmps60
  by_cases h0 : s.length < 1
  · have : B = false := by rw [← HB.out]; unfold nameB; rw [decide_eq_false (p := 0 < s.length) (by omega)]; simp
    subst this
    go_wp2_with fail
    all_goals first
      | (exfalso; omega)
      | (go_ret; exact ⟨rfl, Below.refl _ _⟩)
  by_cases h16 : 16 < s.length
  · have : B = false := by rw [← HB.out]; unfold nameB; rw [decide_eq_false (p := s.length ≤ 16) (by omega)]; simp
    subst this
    go_wp2_with fail
    all_goals first
      | (exfalso; omega)
      | (go_ret; exact ⟨rfl, Below.refl _ _⟩)
  have d1 : decide ((s.length : Int) < 1) = false := decide_eq_false (by omega)
  have d16 : decide ((16 : Int) < (s.length : Int)) = false := decide_eq_false (by omega)
  go_wp2_with fail
  go_loopw [3] (fun i wr => ∃ k : Nat, k ≤ s.length ∧ i = .int .i64 k ∧ (∀ j, j < k → charB (s.getD j 0) = true) ∧ (0 < k → letterB (s.getD 0 0) = true) ∧ wr = w) (fun i _ => s.length - (intOf i).toNat)
  case atStart => exact ⟨0, Nat.zero_le _, rfl, fun j h => by omega, fun h => by omega, rfl⟩
  case round =>
    obtain ⟨k, hk, rfl, hne, hle, rfl⟩ := hrel
    have HNE := Box.mk hne; clear hne
    have HLE := Box.mk hle; clear hle
    by_cases hlt : k < s.length
    · have i1 := run_index_str (P := Try.prog) (t := 9) (by kernel_rfl) s .i64 k hlt
      have HBAD := Box.mk (nameB_bad hlt)
      obtain ⟨x, hx⟩ : ∃ x, s.getD k 0 = x := ⟨_, rfl⟩
      rw [hx] at i1 HBAD
      have HX := Box.mk hx
      clear hx
      cases hl : letterB x with
      | true =>
        have hp := (letterB_true x).1 hl
        have HL := Box.mk hl
        clear hl
        go_wp2_with fail
        all_goals first
          | (exfalso; clear i1 HR HBAD; (try simp at *) <;> omega)
          | (refine ⟨⟨k + 1, by omega, by go_num, fun j hj => ?_, fun _ => ?_, trivial⟩, by simp [intOf]; omega⟩
             · by_cases e : j = k
               · subst e; rw [HX.out]; unfold charB; rw [HL.out]; rfl
               · exact HNE.out j (by omega)
             · by_cases e : k = 0
               · subst e; rw [HX.out]; exact HL.out
               · exact HLE.out (by omega))
      | false =>
        cases hc : charB x with
        | false =>
          have hp := (charB_false x).1 hc
          have : B = false := by rw [← HB.out]; exact HBAD.out hc
          subst this
          clear hl hc
          go_wp2_with fail
          all_goals first
            | (exfalso; clear i1 HR HBAD; (try simp at *) <;> omega)
            | (go_ret; exact ⟨rfl, Below.refl _ _⟩)
        | true =>
          have hp := (charB_true x).1 hc
          have hp2 := (letterB_false x).1 hl
          have HL := Box.mk hl
          have HC := Box.mk hc
          clear hl hc
          by_cases e0 : k = 0
          · have hx0 := HX.out
            rw [e0] at hx0
            have : B = false := by rw [← HB.out]; exact nameB_bad0 (by omega) (by rw [hx0]; exact HL.out)
            subst this
            have k0 : ((k : Int) == 0) = true := by rw [e0]; rfl
            have E0 := Box.mk e0
            clear hx0 e0
            go_wp2_with fail
            all_goals first
              | (exfalso; clear i1 HR HBAD; (try simp at *) <;> omega)
              | (exfalso; have e0 := E0.out; clear i1 HR HBAD k0; (try simp at *) <;> omega)
              | (exfalso; clear i1 HR HBAD k0; (try simp at *) <;> omega)
              | (go_ret; exact ⟨rfl, Below.refl _ _⟩)
          · have k0 : ((k : Int) == 0) = false := by simp; omega
            go_wp2_with fail
            all_goals first
              | (exfalso; clear i1 HR HBAD; (try simp at *) <;> omega)
              | (refine ⟨⟨k + 1, by omega, by go_num, fun j hj => ?_, fun _ => HLE.out (by omega), trivial⟩, by simp [intOf]; omega⟩
                 by_cases e : j = k
                 · subst e; rw [HX.out]; exact HC.out
                 · exact HNE.out j (by omega))
    · have hB2 : B = !reservedB s := by
        rw [← HB.out]
        exact nameB_ok (by omega) (by omega) (fun j hj => HNE.out j (by omega)) (HLE.out (by omega))
      have HB2 := Box.mk hB2
      clear hB2 HB
      go_wp2_with fail
      refine HR.out.mono ?_
      rintro e w1 ⟨rfl, hbl, hbe⟩
      go_wp2_with fail
      have HC := Box.mk (fun k (hk : k < 51) => strV_cell hbl (k := k) hk)
      have HLEN : reservedWords.length = 51 := by decide
      clear hbl
      go_loopw [7] (fun i wr => ∃ k : Nat, k ≤ 51 ∧ i = .int .i64 k ∧ (∀ j, j < k → s ≠ reservedWords.getD j []) ∧ wr = w1) (fun i _ => 51 - (intOf i).toNat)
      case atStart => exact ⟨0, Nat.zero_le _, rfl, fun j h => by omega, rfl⟩
      case round =>
        obtain ⟨k, hk, rfl, hne, rfl⟩ := hrel
        have HNS := Box.mk hne; clear hne
        by_cases hlt2 : k < 51
        · have hc := HC.out k hlt2
          rcases beq_or s (reservedWords.getD k []) with h | h
          · have hin : reservedB s = true := by
              unfold reservedB
              rw [decide_eq_true_eq, h.out.2, List.getD_eq_getElem?_getD, List.getElem?_eq_getElem (by rw [HLEN]; exact hlt2)]
              exact List.getElem_mem _
            have hF : B = false := by rw [HB2.out, hin]; rfl
            subst hF
            have h1 := h.out.1
            have hy := h.out.2
            rw [← hy] at hc h1
            have h2 : (s == s) = true := h1
            clear h hin HC HB2 hy
            go_wp2_with fail
            all_goals first
              | (go_ret; exact ⟨rfl, hbe⟩)
              | (trace_state; sorry)
          · have h1 := h.out.1
            have HNE2 := Box.mk h.out.2
            have h2 : (reservedWords.getD k [] == s) = false := by rw [Bool.beq_comm]; exact h1
            clear h
            generalize hy : reservedWords.getD k [] = y at *
            have HY := Box.mk hy
            clear hy
            go_wp2_with fail
            all_goals first
              | (refine ⟨⟨k + 1, by omega, by go_num, fun j hj => ?_, trivial⟩, by simp [intOf]; omega⟩
                 by_cases e : j = k
                 · subst e; rw [HY.out]; exact HNE2.out
                 · exact HNS.out j (by omega))
              | (trace_state; sorry)
        · have hin : reservedB s = false := by
            unfold reservedB
            rw [decide_eq_false_iff_not]
            intro hm
            obtain ⟨j, hj, he⟩ := List.getElem_of_mem hm
            exact HNS.out j (by omega) (by rw [List.getD_eq_getElem?_getD, List.getElem?_eq_getElem hj]; exact he.symm)
          have hT : B = true := by rw [HB2.out, hin]; rfl
          subst hT
          go_wp2_with fail
          all_goals first
            | (exfalso; omega)
            | (go_ret; exact ⟨rfl, hbe⟩)
            | (trace_state; sorry)
end Go.Proofs.Ytpgdfhncigmmbaa

/-
  The walks of valid and ref.Valid. No condition.
-/
namespace Go.Proofs.Ytpgdfhncigmmbaa
open Go.RowKit

def Val.v (x : Val) : Value := .agg #[.int .i64 x.kind, .int .i64 x.n, .string ⟨x.s.toArray⟩]

/-- Valid and not null. -/
def validB (x : Val) : Bool :=
  if x.kind = 1 then x.s.isEmpty && decide (-549755813888 ≤ x.n) && decide (x.n ≤ 549755813887)
  else if x.kind = 3 then x.s.isEmpty && decide (x.n = 0 ∨ x.n = 1)
  else if x.kind = 2 then decide (x.n = 0) && decide (x.s.length ≤ 40)
  else false

def nullB (x : Val) : Bool := decide (x.kind = 0) && decide (x.n = 0) && x.s.isEmpty

theorem and_one (n : Int) : (bits BinOp.and IntKind.i64 n 1 == n) = decide (n = 0 ∨ n = 1) := by
  have h : bits BinOp.and IntKind.i64 n 1 = n % 2 := by
    show IntKind.i64.wrap ((BitVec.ofInt 64 n &&& BitVec.ofInt 64 1).toNat : Int) = _
    have h1 : (BitVec.ofInt 64 (1 : Int)).toNat = 1 := by decide
    rw [BitVec.toNat_and, h1, Nat.and_one_is_mod, BitVec.toNat_ofInt, IntKind.wrap_i64]
    omega
  rw [h]
  by_cases hn : n = 0 ∨ n = 1
  · rw [decide_eq_true hn, beq_iff_eq]; omega
  · rw [decide_eq_false hn, beq_eq_false_iff_ne]; omega

set_option maxRecDepth 20000 in
set_option maxHeartbeats 2000000 in
theorem valid_any (k n : Int) (s : List UInt8) (w : World) : Calls Try.prog 55 #[Val.v ⟨k, n, s⟩] w fun e w' => e = .returned (.bool (validB ⟨k, n, s⟩)) ∧ Below w.heap.size w w' := by
  have hz : (⟨s.toArray⟩ : ByteArray).size = s.length := str_size s
  have HA := Box.mk (and_one n)
  unfold Val.v
  go_enter Try.func55, Try.ntmps55
  go_wp2_with fail
  all_goals
    go_ret
    refine ⟨?_, (Below.refl _ _).alloc (Nat.le_refl _) _⟩
    have ha := HA.out
    clear HA hz
    simp_all [validB] <;> (try intros) <;> omega

set_option maxRecDepth 20000 in
set_option maxHeartbeats 2000000 in
theorem rvalid_any (k n : Int) (s : List UInt8) (w : World) : Calls Try.prog 64 #[Val.v ⟨k, n, s⟩] w fun e w' => e = .returned (.bool (validB ⟨k, n, s⟩ || nullB ⟨k, n, s⟩)) ∧ Below w.heap.size w w' := by
  have hz : (⟨s.toArray⟩ : ByteArray).size = s.length := str_size s
  unfold Val.v
  go_enter Try.func64, Try.ntmps64
  go_wp2_with fail
  all_goals
    go_ret
    refine ⟨?_, (Below.refl _ _).alloc (Nat.le_refl _) _⟩
    clear hz
    simp_all [validB, nullB] <;> (try intros) <;> omega
end Go.Proofs.Ytpgdfhncigmmbaa

/-
  The walks of holds, bit, truth. No condition.
-/
namespace Go.Proofs.Ytpgdfhncigmmbaa
open Go.RowKit

/-- Whether a comparison with the answer c holds. -/
def holdsB (op c : Int) : Bool :=
  if op = 6 then decide (c = 0) else if op = 7 then decide (c ≠ 0) else if op = 8 then decide (c < 0) else if op = 9 then decide (c ≤ 0) else if op = 10 then decide (0 < c) else decide (0 ≤ c)

set_option maxRecDepth 20000 in
set_option maxHeartbeats 2000000 in
theorem holds_any (op c : Int) (w : World) : Calls Try.prog 56 #[.int .i64 op, .int .i64 c] w fun e w' => e = .returned (.bool (holdsB op c)) ∧ w' = w := by
  go_enter Try.func56, Try.ntmps56
  go_wp2_with fail
  all_goals
    go_ret
    refine ⟨?_, rfl⟩
    simp_all [holdsB] <;> (try rw [Bool.eq_iff_iff]) <;> (try simp) <;> omega

end Go.Proofs.Ytpgdfhncigmmbaa

/-
  The walk of SameInts. No condition.
-/
namespace Go.Proofs.Ytpgdfhncigmmbaa
open Go.RowKit

def RetQ (v : Value) (w : World) (e : Ending) (w' : World) : Prop := e = .returned v ∧ ∃ q, w' = w.drewN q

theorem intVals_one (l : List Int) : ∀ u ∈ intVals l, u.oneCell' = true := by
  intro u hu; obtain ⟨_, _, rfl⟩ := List.mem_map.1 hu; rfl
theorem Rd.ilen {w : World} {a : Option Addr} {n cap : Nat} {l : List Int} (h : Rd w a n cap 1 (intVals l)) : l.length = n := by
  have := h.hlen; rw [intVals_length] at this; omega
theorem Rd.intAtD {w : World} {a : Option Addr} {n cap : Nat} {l : List Int} (h : Rd w a n cap 1 (intVals l)) (k : Nat) (hk : k < n) :
    ∃ g off, a = some ⟨g, off, none⟩ ∧ w.cell? ⟨g, off + k, none⟩ = some (.int .i64 (l.getD k 0)) := by
  have hl := h.ilen
  obtain ⟨b, off, ha, hc⟩ := h.at k hk
  refine ⟨b, off, ha, ?_⟩
  rw [hc k (by rw [intVals_length]; omega)]
  simp [intVals, List.getD_eq_getElem?_getD, List.getElem?_eq_getElem (show k < l.length by omega)]

theorem take_eq_of {l m : List Int} {k : Nat} (h : ∀ j, j < k → l.getD j 0 = m.getD j 0) (h1 : l.length = m.length) (h2 : k = l.length) : l = m := by
  subst h2
  refine List.ext_getElem h1 (fun i hi hj => ?_)
  have := h i hi
  simpa [List.getD_eq_getElem?_getD, List.getElem?_eq_getElem hi, List.getElem?_eq_getElem hj] using this

set_option maxRecDepth 20000 in
set_option maxHeartbeats 1000000 in
theorem sameInts_any (l m : List Int) (a b : Option Addr) (n n2 cap cap2 : Nat) (w : World) (h1 : Rd w a n cap 1 (intVals l)) (h2 : Rd w b n2 cap2 1 (intVals m)) :
    Calls Try.prog 18 #[.slice a n cap, .slice b n2 cap2] w (RetQ (.bool (decide (l = m))) w) := by
  have l1 := h1.ilen
  have l2 := h2.ilen
  have mx := h1.lenMax
  have R1 := Box.mk h1; have R2 := Box.mk h2
  clear h1 h2
  by_cases hn : n = n2
  · subst hn
    go_enter Try.func18, Try.ntmps18
    go_wp2_with fail
    go_loopw [5] (fun i wr => ∃ k : Nat, k ≤ n ∧ i = .int .i64 k ∧ (∀ j, j < k → l.getD j 0 = m.getD j 0) ∧ ∃ q, wr = w.drewN q) (fun i _ => n - (intOf i).toNat)
    case atStart => exact ⟨0, Nat.zero_le _, rfl, fun j h => by omega, 0, rfl⟩
    case round =>
      obtain ⟨k, hk, rfl, hsame, q, rfl⟩ := hrel
      have HS := Box.mk hsame; clear hsame
      by_cases hl : k < n
      · obtain ⟨g, off, rfl, hc⟩ := R1.out.intAtD k hl
        obtain ⟨g2, off2, rfl, hc2⟩ := R2.out.intAtD k hl
        by_cases hx : l.getD k 0 = m.getD k 0
        · have hxx : (l.getD k 0 != m.getD k 0) = false := by simp only [bne_eq_false_iff_eq]; exact hx
          have HX := Box.mk (show ∀ j, j < k + 1 → l.getD j 0 = m.getD j 0 from fun j hj => by
            by_cases e : j = k
            · subst e; exact hx
            · exact HS.out j (by omega))
          clear hx
          generalize l.getD k 0 = x at *
          generalize m.getD k 0 = y at *
          go_wp2_with fail
          go_quiet (fail)
          go_wp2_with fail
          go_roundw
          case rel => exact ⟨k + 1, by omega, by go_num, HX.out, _, rfl⟩
          case measure => simp [intOf]; omega
        · have hxx : (l.getD k 0 != m.getD k 0) = true := by simp only [bne_iff_ne]; exact hx
          have HX := Box.mk (show decide (l = m) = false from decide_eq_false (fun e => hx (by rw [e]))); clear hx
          generalize l.getD k 0 = x at *
          generalize m.getD k 0 = y at *
          go_wp2_with fail
          go_quiet (fail)
          go_wp2_with fail
          go_ret
          exact ⟨by rw [HX.out]; rfl, _, World.drewN_drewN _ _ _⟩
      · have HX := Box.mk (show decide (l = m) = true from decide_eq_true (take_eq_of (k := k) HS.out (by omega) (by omega)))
        go_wp2_with fail
        go_ret
        exact ⟨by rw [HX.out]; rfl, _, rfl⟩
  · have HX := Box.mk (show decide (l = m) = false from decide_eq_false (fun e => hn (by rw [← l1, ← l2, e])))
    have hnn : ((n : Int) != (n2 : Int)) = true := by simp only [bne_iff_ne]; omega
    go_enter Try.func18, Try.ntmps18
    go_wp2_with fail
    go_ret
    exact ⟨by rw [HX.out]; rfl, 0, rfl⟩
end Go.Proofs.Ytpgdfhncigmmbaa

/-
  The walks of cmp's functions, compare and ref.Compare. No condition.
-/
namespace Go.Proofs.Ytpgdfhncigmmbaa
open Go.RowKit

def cmpS (a b : List UInt8) : Int := if Op.bytesLess a b = true then -1 else if a = b then 0 else 1

def cmpI (a b : Int) : Int := if a < b then -1 else if b < a then 1 else 0

set_option maxRecDepth 20000 in
set_option maxHeartbeats 2000000 in
theorem nanI_any (a : Int) (w : World) : Calls Try.prog 86 #[.int .i64 a] w fun e w' => e = .returned (.bool false) ∧ w' = w := by
  go_enter Try.func86, Try.ntmps86
  go_wp2_with fail
  go_ret
  exact ⟨rfl, rfl⟩

set_option maxRecDepth 20000 in
set_option maxHeartbeats 2000000 in
theorem nanS_any (a : List UInt8) (w : World) : Calls Try.prog 93 #[.string ⟨a.toArray⟩] w fun e w' => e = .returned (.bool false) ∧ w' = w := by
  go_enter Try.func93, Try.ntmps93
  have h1 : (a == a) = true := by simp
  go_wp2_with fail
  go_ret
  exact ⟨rfl, rfl⟩

set_option maxRecDepth 20000 in
set_option maxHeartbeats 2000000 in
theorem cmpI_any (a b : Int) (w : World) : Calls Try.prog 71 #[.int .i64 a, .int .i64 b] w fun e w' => e = .returned (.int .i64 (cmpI a b)) ∧ w' = w := by
  have HA := Box.mk (nanI_any a w)
  have HB := Box.mk (nanI_any b w)
  go_enter Try.func71, Try.ntmps71
  go_wp2_with fail
  refine HA.out.mono ?_
  rintro e w1 ⟨rfl, rfl⟩
  go_wp2_with fail
  refine HB.out.mono ?_
  rintro e w2 ⟨rfl, rfl⟩
  clear HA HB
  go_wp2_with fail
  all_goals
    go_ret
    refine ⟨?_, rfl⟩
    simp_all [cmpI] <;> (try intros) <;> omega

set_option maxRecDepth 20000 in
set_option maxHeartbeats 2000000 in
theorem cmpS_any (a b : List UInt8) (w : World) : Calls Try.prog 78 #[.string ⟨a.toArray⟩, .string ⟨b.toArray⟩] w fun e w' => e = .returned (.int .i64 (cmpS a b)) ∧ w' = w := by
  have HA := Box.mk (nanS_any a w)
  have HB := Box.mk (nanS_any b w)
  go_enter Try.func78, Try.ntmps78
  go_wp2_with fail
  refine HA.out.mono ?_
  rintro e w1 ⟨rfl, rfl⟩
  go_wp2_with fail
  refine HB.out.mono ?_
  rintro e w2 ⟨rfl, rfl⟩
  clear HA HB
  go_wp2_with fail
  all_goals
    go_ret
    refine ⟨?_, rfl⟩
    simp_all [cmpS]

/-- The order of two values of one kind. -/
def cmpV (x y : Val) : Int := if x.n < y.n then -1 else if y.n < x.n then 1 else cmpS x.s y.s

set_option maxRecDepth 20000 in
set_option maxHeartbeats 2000000 in
theorem rcompare_any (x y : Val) (w : World) : Calls Try.prog 85 #[x.v, y.v] w fun e w' => e = .returned (.int .i64 (cmpV x y)) ∧ Below w.heap.size w w' := by
  obtain ⟨kx, nx, sx⟩ := x
  obtain ⟨ky, ny, sy⟩ := y
  unfold Val.v
  go_enter Try.func85, Try.ntmps85
  go_wp2_with fail
  all_goals
    go_ret
    refine ⟨?_, ((Below.refl _ _).alloc (Nat.le_refl _) _).alloc (by simp) _⟩
    simp_all [cmpV, cmpS] <;> (try intros) <;> omega
end Go.Proofs.Ytpgdfhncigmmbaa

/-
  The walks of ref.Holds, cmp.Or and compare. No condition.
-/
namespace Go.Proofs.Ytpgdfhncigmmbaa
open Go.RowKit

set_option maxRecDepth 20000 in
set_option maxHeartbeats 2000000 in
theorem rholds_any (op : Int) (x y : Val) (w : World) : Calls Try.prog 65 #[.int .i64 op, x.v, y.v] w fun e w' => e = .returned (.bool (holdsB op (cmpV x y))) ∧ Below w.heap.size w w' := by
  have HC := Box.mk (fun w => rcompare_any x y w)
  generalize cmpV x y = c at *
  obtain ⟨kx, nx, sx⟩ := x
  obtain ⟨ky, ny, sy⟩ := y
  unfold Val.v at *
  go_enter Try.func65, Try.ntmps65
  go_wp2_with fail
  refine (HC.out _).mono ?_
  rintro e w1 ⟨rfl, hb⟩
  clear HC
  have HB := Box.mk (show Below w.heap.size w w1 from (((Below.refl _ _).alloc (Nat.le_refl _) _).alloc (by simp) _).trans (hb.mono (by simp; omega)))
  clear hb
  go_wp2_with fail
  all_goals
    go_ret
    refine ⟨?_, HB.out⟩
    simp_all [holdsB] <;> (try rw [Bool.eq_iff_iff]) <;> (try simp) <;> omega

def orI (p q : Int) : Int := if p = 0 then q else p

set_option maxRecDepth 20000 in
set_option maxHeartbeats 2000000 in
theorem or_any (p q : Int) (w : World) (g : Nat) (hb : Blk w g 3 [.int .i64 p, .int .i64 q]) : Calls Try.prog 70 #[.slice (some ⟨g, 0, none⟩) 2 2] w fun e w' => e = .returned (.int .i64 (orI p q)) ∧ w' = w := by
  have c0 := hb.cell 0 (by simp)
  have c1 := hb.cell 1 (by simp)
  simp only [List.getElem_cons_zero, List.getElem_cons_succ] at c0 c1
  go_enter Try.func70, Try.ntmps70
  go_wp2_with fail
  clear hb
  go_loopw [8] (fun i wr => ∃ k : Nat, k ≤ 2 ∧ i = .int .i64 k ∧ (0 < k → p = 0) ∧ (1 < k → q = 0) ∧ wr = w) (fun i _ => 2 - (intOf i).toNat)
  case atStart => exact ⟨0, by omega, rfl, fun h => by omega, fun h => by omega, rfl⟩
  case round =>
    obtain ⟨k, hk, rfl, hp, hq, rfl⟩ := hrel
    have HP := Box.mk hp
    have HQ := Box.mk hq
    clear hp hq
    rcases (show k = 0 ∨ k = 1 ∨ k = 2 by omega) with rfl | rfl | rfl
    · by_cases e : p = 0
      · have b1 : (p != 0) = false := by simp [e]
        have E := Box.mk e
        clear e
        go_wp2_with fail
        all_goals (refine ⟨⟨1, by omega, by go_num, fun _ => E.out, fun h => by omega, trivial⟩, by simp [intOf]⟩)
      · have b1 : (p != 0) = true := by simp [e]
        have E := Box.mk e
        clear e
        go_wp2_with fail
        all_goals (go_ret; exact ⟨by rw [show orI p q = p from if_neg E.out]; rfl, rfl⟩)
    · have p0 := HP.out (by omega)
      by_cases e : q = 0
      · have b1 : (q != 0) = false := by simp [e]
        have E := Box.mk e
        have P0 := Box.mk p0
        clear e p0
        go_wp2_with fail
        all_goals (refine ⟨⟨2, by omega, by go_num, fun _ => P0.out, fun _ => E.out, trivial⟩, by simp [intOf]⟩)
      · have b1 : (q != 0) = true := by simp [e]
        have P0 := Box.mk p0
        clear e p0
        go_wp2_with fail
        all_goals (go_ret; exact ⟨by rw [show orI p q = q from if_pos P0.out]; rfl, rfl⟩)
    · have p0 := Box.mk (HP.out (by omega))
      have q0 := Box.mk (HQ.out (by omega))
      go_wp2_with fail
      all_goals (go_ret; exact ⟨by rw [show orI p q = 0 from (if_pos p0.out).trans q0.out]; rfl, rfl⟩)
end Go.Proofs.Ytpgdfhncigmmbaa

/-
  Lists of records as cells; tables in memory. No condition.
-/
namespace Go.Proofs.Ytpgdfhncigmmbaa
open Go.RowKit

/-- The cells of a list of records. -/
def recC {α : Type} (enc : α → List Value) (l : List α) : List Value := (l.map enc).flatten

section
variable {α : Type} {enc : α → List Value} {k : Nat}
theorem recC_nil : recC enc [] = [] := rfl
theorem recC_cons (x : α) (l : List α) : recC enc (x :: l) = enc x ++ recC enc l := by simp [recC]
theorem recC_append (l m : List α) : recC enc (l ++ m) = recC enc l ++ recC enc m := by simp [recC]
theorem recC_length (hk : ∀ x, (enc x).length = k) (l : List α) : (recC enc l).length = l.length * k := by
  induction l with
  | nil => simp [recC]
  | cons x l ih => rw [recC_cons, List.length_append, ih, hk, List.length_cons, Nat.succ_mul, Nat.add_comm]
theorem recC_one (h1 : ∀ x, ∀ u ∈ enc x, u.oneCell' = true) (l : List α) : ∀ u ∈ recC enc l, u.oneCell' = true := by
  intro u hu
  obtain ⟨m, hm, hu⟩ := List.mem_flatten.1 hu
  obtain ⟨x, _, rfl⟩ := List.mem_map.1 hm
  exact h1 x u hu
theorem recC_at [Inhabited α] (hk : ∀ x, (enc x).length = k) (l : List α) (i : Nat) (hi : i < l.length) (j : Nat) (hj : j < k) : (recC enc l)[i * k + j]? = (enc (l.getD i default))[j]? := by
  induction l generalizing i with
  | nil => simp at hi
  | cons x l ih =>
    rw [recC_cons]
    cases i with
    | zero => rw [Nat.zero_mul, Nat.zero_add, List.getElem?_append_left (by rw [hk]; exact hj)]; simp
    | succ i =>
      have := ih i (by simpa using hi)
      rw [List.getElem?_append_right (by rw [hk, Nat.succ_mul]; omega), hk, show (i + 1) * k + j - k = i * k + j from by rw [Nat.succ_mul]; omega, this]
      simp
theorem recC_take (hk : ∀ x, (enc x).length = k) (l : List α) (i : Nat) : (recC enc l).take (i * k) = recC enc (l.take i) := by
  induction l generalizing i with
  | nil => simp [recC]
  | cons x l ih =>
    cases i with
    | zero => simp [recC]
    | succ i =>
      rw [recC_cons, List.take_succ_cons, recC_cons, List.take_append, hk, List.take_of_length_le (by rw [hk, Nat.succ_mul]; omega), show (i + 1) * k - k = i * k from by rw [Nat.succ_mul]; omega, ih]
theorem recC_drop (hk : ∀ x, (enc x).length = k) (l : List α) (i : Nat) : (recC enc l).drop (i * k) = recC enc (l.drop i) := by
  induction l generalizing i with
  | nil => simp [recC]
  | cons x l ih =>
    cases i with
    | zero => simp [recC]
    | succ i =>
      rw [recC_cons, List.drop_succ_cons, List.drop_append, hk, List.drop_of_length_le (by rw [hk, Nat.succ_mul]; omega), List.nil_append, show (i + 1) * k - k = i * k from by rw [Nat.succ_mul]; omega, ih]

theorem Rd.rlen {w : World} {a : Option Addr} {n cap : Nat} {l : List α} (h : Rd w a n cap k (recC enc l)) (hk : ∀ x, (enc x).length = k) (hk0 : 0 < k) : l.length = n := by
  have := h.hlen; rw [recC_length hk] at this; exact Nat.eq_of_mul_eq_mul_right hk0 this
/-- Record i of a slice that can be read. -/
theorem Rd.recAt [Inhabited α] {w : World} {a : Option Addr} {n cap : Nat} {l : List α} (h : Rd w a n cap k (recC enc l)) (hk : ∀ x, (enc x).length = k) (hk0 : 0 < k) (i : Nat) (hi : i < n) :
    ∃ g off, a = some ⟨g, off, none⟩ ∧ g < w.heap.size ∧ ∀ j u, (enc (l.getD i default))[j]? = some u → w.cell? ⟨g, off + i * k + j, none⟩ = some u := by
  have hl := h.rlen hk hk0
  have hat : ∀ j u, (enc (l.getD i default))[j]? = some u → (recC enc l)[i * k + j]? = some u := fun j u hu => by
    have hj := (List.getElem?_eq_some_iff.1 hu).1
    rw [hk] at hj
    rw [recC_at hk l i (by omega) j hj, hu]
  have h0 : ∃ u, (recC enc l)[i * k + 0]? = some u := by
    rw [recC_at hk l i (by omega) 0 hk0]
    exact ⟨_, List.getElem?_eq_getElem (by rw [hk]; exact hk0)⟩
  obtain ⟨u0, hu0⟩ := h0
  cases a with
  | none => have := h.hnil rfl; rw [this] at hu0; simp at hu0
  | some ad =>
    have c0 := h.hcell ad rfl _ _ hu0
    have hlt := cell_block_lt c0
    rw [add_block] at hlt
    have hs : ad.spot = none := by
      have h1 := spot_none c0
      have h2 := (List.getElem?_eq_some_iff.1 hu0).1
      obtain ⟨b, off, sp⟩ := ad
      cases sp with
      | none => rfl
      | some s =>
        exfalso
        have h3 : ∃ v, (recC enc l)[0]? = some v := ⟨_, List.getElem?_eq_getElem (by omega)⟩
        obtain ⟨v, hv⟩ := h3
        have h4 := spot_none (h.hcell _ rfl 0 v hv)
        simp [Addr.add] at h4
    obtain ⟨b, off, sp⟩ := ad
    simp only at hs hlt
    subst hs
    have ha : ∀ j, (⟨b, off, none⟩ : Addr).add j = ⟨b, off + j, none⟩ := fun j => by unfold Addr.add; split <;> simp_all
    refine ⟨b, off, rfl, hlt, fun j u hu => ?_⟩
    have := h.hcell _ rfl _ _ (hat j u hu)
    rwa [ha, ← Nat.add_assoc] at this
end

/-- 's[:u]' of records. -/
theorem Rd.preK {α : Type} {enc : α → List Value} {k : Nat} {w : World} {a : Option Addr} {n cap : Nat} {l : List α} (h : Rd w a n cap k (recC enc l)) (hk : ∀ x, (enc x).length = k) (u : Nat) (hu : u ≤ n) : Rd w a u cap k (recC enc (l.take u)) := by
  rw [← recC_take hk]
  have hm : u * k ≤ n * k := Nat.mul_le_mul_right _ hu
  exact ⟨by rw [List.length_take]; have := h.hlen; omega, Nat.le_trans hu h.hcap, h.hmax, fun ha => by rw [h.hnil ha]; simp, fun ad ha j v hv => by
    rw [List.getElem?_take] at hv
    split at hv
    · exact h.hcell ad ha j v hv
    · cases hv⟩

def Col.enc (c : Col) : List Value := [.string ⟨c.name.toArray⟩, .int .i64 c.kind, .bool c.null]
theorem Col.enc_len (c : Col) : c.enc.length = 3 := rfl
theorem Col.enc_one (c : Col) : ∀ u ∈ c.enc, u.oneCell' = true := by intro u hu; simp [Col.enc] at hu; rcases hu with rfl | rfl | rfl <;> rfl
def Val.enc (x : Val) : List Value := [.int .i64 x.kind, .int .i64 x.n, .string ⟨x.s.toArray⟩]
theorem Val.enc_len (x : Val) : x.enc.length = 3 := rfl
theorem Val.enc_one (c : Val) : ∀ u ∈ c.enc, u.oneCell' = true := by intro u hu; simp [Val.enc] at hu; rcases hu with rfl | rfl | rfl <;> rfl
def Chk.enc (x : Chk) : List Value := [.int .i64 x.col, .int .i64 x.op, .int .i64 x.val.kind, .int .i64 x.val.n, .string ⟨x.val.s.toArray⟩]
theorem Chk.enc_len (x : Chk) : x.enc.length = 5 := rfl
theorem Chk.enc_one (c : Chk) : ∀ u ∈ c.enc, u.oneCell' = true := by intro u hu; simp [Chk.enc] at hu; rcases hu with rfl | rfl | rfl | rfl | rfl <;> rfl
/-- An index in memory: what it is and where its numbers lie. -/
structure IxP where
  x : Ix
  a : Option Addr
  cap : Nat
deriving Inhabited
def IxP.enc (p : IxP) : List Value := [.string ⟨p.x.name.toArray⟩, .slice p.a p.x.cols.length p.cap, .bool p.x.uniq]
theorem IxP.enc_len (x : IxP) : x.enc.length = 3 := rfl
theorem IxP.enc_one (c : IxP) : ∀ u ∈ c.enc, u.oneCell' = true := by intro u hu; simp [IxP.enc] at hu; rcases hu with rfl | rfl | rfl <;> rfl
def Col.v (c : Col) : Value := .agg #[.string ⟨c.name.toArray⟩, .int .i64 c.kind, .bool c.null]
def IxP.v (p : IxP) : Value := .agg #[.string ⟨p.x.name.toArray⟩, .slice p.a p.x.cols.length p.cap, .bool p.x.uniq]

/-- A table in memory. -/
structure TabP where
  name : List UInt8
  ca : Option Addr
  cc : Nat
  cols : List Col
  ia : Option Addr
  ic : Nat
  ixs : List IxP
  ha : Option Addr
  hc : Nat
  chks : List Chk
deriving Inhabited
def TabP.t (X : TabP) : Tab := ⟨X.name, X.cols, X.ixs.map (·.x), X.chks⟩
def TabP.cs (X : TabP) : List Value := [.string ⟨X.name.toArray⟩, .slice X.ca X.cols.length X.cc, .slice X.ia X.ixs.length X.ic, .slice X.ha X.chks.length X.hc]
def TabP.v (X : TabP) : Value := .agg #[.string ⟨X.name.toArray⟩, .slice X.ca X.cols.length X.cc, .slice X.ia X.ixs.length X.ic, .slice X.ha X.chks.length X.hc]
structure TabRd (w : World) (X : TabP) : Prop where
  cols : Rd w X.ca X.cols.length X.cc 3 (recC Col.enc X.cols)
  ixs : Rd w X.ia X.ixs.length X.ic 3 (recC IxP.enc X.ixs)
  nums : ∀ p ∈ X.ixs, Rd w p.a p.x.cols.length p.cap 1 (intVals p.x.cols)
  chks : Rd w X.ha X.chks.length X.hc 5 (recC Chk.enc X.chks)
theorem TabRd.below {w w' : World} {X : TabP} (h : TabRd w X) (hb : Below w.heap.size w w') : TabRd w' X :=
  ⟨h.cols.call0 hb, h.ixs.call0 hb, fun p hp => (h.nums p hp).call0 hb, h.chks.call0 hb⟩
theorem TabRd.alloc {w : World} {X : TabP} (h : TabRd w X) (o : Obj) : TabRd (w.alloc o) X := h.below ((Below.refl _ _).alloc (Nat.le_refl _) o)
theorem TabRd.drewN {w : World} {X : TabP} (h : TabRd w X) (n : Nat) : TabRd (w.drewN n) X := h.below (below_drewN (Below.refl _ _) n)

/-- A table that lies in block g too, behind a start. -/
structure TabIn (w0 w : World) (g : Nat) (X : TabP) : Prop where
  blk : Blk w g 26 X.cs
  rd : TabRd w X
  below : Below w0.heap.size w0 w
theorem TabIn.step {w0 w w' : World} {g : Nat} {X : TabP} (h : TabIn w0 w g X) (hb : Below w.heap.size w w') : TabIn w0 w' g X :=
  ⟨h.blk.call0 hb, h.rd.below hb, h.below.trans (hb.mono h.below.size)⟩
theorem TabIn.alloc {w0 w : World} {g : Nat} {X : TabP} (h : TabIn w0 w g X) (o : Obj) : TabIn w0 (w.alloc o) g X := h.step ((Below.refl _ _).alloc (Nat.le_refl _) o)
theorem TabIn.drewN {w0 w : World} {g : Nat} {X : TabP} (h : TabIn w0 w g X) (n : Nat) : TabIn w0 (w.drewN n) g X := h.step (below_drewN (Below.refl _ _) n)
theorem TabIn.start {w : World} {X : TabP} (h : TabRd w X) : TabIn w (w.alloc (.cells X.cs.toArray 26)) w.heap.size X :=
  ⟨Blk.new rfl rfl, h.alloc _, (Below.refl _ _).alloc (Nat.le_refl _) _⟩
theorem TabIn.c1 {w0 w : World} {g : Nat} {X : TabP} (h : TabIn w0 w g X) : w.cell? ⟨g, 1, none⟩ = some (.slice X.ca X.cols.length X.cc) := h.blk.cellOf rfl
theorem TabIn.c2 {w0 w : World} {g : Nat} {X : TabP} (h : TabIn w0 w g X) : w.cell? ⟨g, 2, none⟩ = some (.slice X.ia X.ixs.length X.ic) := h.blk.cellOf rfl
theorem TabIn.c3 {w0 w : World} {g : Nat} {X : TabP} (h : TabIn w0 w g X) : w.cell? ⟨g, 3, none⟩ = some (.slice X.ha X.chks.length X.hc) := h.blk.cellOf rfl
theorem TabIn.c0 {w0 w : World} {g : Nat} {X : TabP} (h : TabIn w0 w g X) : w.cell? ⟨g, 0, none⟩ = some (.string ⟨X.name.toArray⟩) := h.blk.cellOf rfl

theorem getD_map_x (l : List IxP) (i : Nat) : (l.map (·.x)).getD i default = (l.getD i default).x := by
  rw [List.getD_eq_getElem?_getD, List.getD_eq_getElem?_getD, List.getElem?_map]
  cases l[i]? <;> rfl
theorem getD_mem {α : Type} [Inhabited α] {l : List α} {i : Nat} (h : i < l.length) : l.getD i default ∈ l := by
  rw [List.getD_eq_getElem?_getD, List.getElem?_eq_getElem h]; exact List.getElem_mem h
end Go.Proofs.Ytpgdfhncigmmbaa
