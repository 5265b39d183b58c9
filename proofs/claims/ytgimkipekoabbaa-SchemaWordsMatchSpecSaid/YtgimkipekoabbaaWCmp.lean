/-
  The walks of cmp's functions, compare and ref.Compare. No condition.
-/
import Derived.Test.YtgimkipekoabbaaWInts
namespace Go.Proofs.Ytgimkipekoabbaa
open Go.RowKit

def cmpS (a b : List UInt8) : Int := if Op.bytesLess a b = true then -1 else if a = b then 0 else 1

def cmpI (a b : Int) : Int := if a < b then -1 else if b < a then 1 else 0

set_option maxRecDepth 20000 in
set_option maxHeartbeats 2000000 in
theorem nanI_any (a : Int) (w : World) : Calls Try.prog 96 #[.int .i64 a] w fun e w' => e = .returned (.bool false) ∧ w' = w := by
  go_enter Try.func96, Try.ntmps96
  go_wp2_with fail
  go_ret
  exact ⟨rfl, rfl⟩

set_option maxRecDepth 20000 in
set_option maxHeartbeats 2000000 in
theorem nanS_any (a : List UInt8) (w : World) : Calls Try.prog 97 #[.string ⟨a.toArray⟩] w fun e w' => e = .returned (.bool false) ∧ w' = w := by
  go_enter Try.func97, Try.ntmps97
  have h1 : (a == a) = true := by simp
  go_wp2_with fail
  go_ret
  exact ⟨rfl, rfl⟩

set_option maxRecDepth 20000 in
set_option maxHeartbeats 2000000 in
theorem cmpI_any (a b : Int) (w : World) : Calls Try.prog 86 #[.int .i64 a, .int .i64 b] w fun e w' => e = .returned (.int .i64 (cmpI a b)) ∧ w' = w := by
  have HA := Box.mk (nanI_any a w)
  have HB := Box.mk (nanI_any b w)
  go_enter Try.func86, Try.ntmps86
  go_wp2_with fail
  refine HA.out.mono ?_
  rintro e w1 ⟨rfl, rfl⟩
  go_wp2_with fail
  refine HB.out.mono ?_
  rintro e w2 ⟨rfl, rfl⟩
  clear HA HB
  go_wp2_with fail
  all_goals
    go_ret
    refine ⟨?_, rfl⟩
    simp_all [cmpI] <;> (try intros) <;> omega

set_option maxRecDepth 20000 in
set_option maxHeartbeats 2000000 in
theorem cmpS_any (a b : List UInt8) (w : World) : Calls Try.prog 87 #[.string ⟨a.toArray⟩, .string ⟨b.toArray⟩] w fun e w' => e = .returned (.int .i64 (cmpS a b)) ∧ w' = w := by
  have HA := Box.mk (nanS_any a w)
  have HB := Box.mk (nanS_any b w)
  go_enter Try.func87, Try.ntmps87
  go_wp2_with fail
  refine HA.out.mono ?_
  rintro e w1 ⟨rfl, rfl⟩
  go_wp2_with fail
  refine HB.out.mono ?_
  rintro e w2 ⟨rfl, rfl⟩
  clear HA HB
  go_wp2_with fail
  all_goals
    go_ret
    refine ⟨?_, rfl⟩
    simp_all [cmpS]

/-- The order of two values of one kind. -/
def cmpV (x y : Val) : Int := if x.n < y.n then -1 else if y.n < x.n then 1 else cmpS x.s y.s

set_option maxRecDepth 20000 in
set_option maxHeartbeats 2000000 in
theorem rcompare_any (x y : Val) (w : World) : Calls Try.prog 88 #[x.v, y.v] w fun e w' => e = .returned (.int .i64 (cmpV x y)) ∧ Below w.heap.size w w' := by
  obtain ⟨kx, nx, sx⟩ := x
  obtain ⟨ky, ny, sy⟩ := y
  unfold Val.v
  go_enter Try.func88, Try.ntmps88
  go_wp2_with fail
  all_goals
    go_ret
    refine ⟨?_, ((Below.refl _ _).alloc (Nat.le_refl _) _).alloc (by simp) _⟩
    simp_all [cmpV, cmpS] <;> (try intros) <;> omega
end Go.Proofs.Ytgimkipekoabbaa
