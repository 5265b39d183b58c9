/-
  The walks of valid and ref.Valid. No condition.
-/
import Derived.Test.YtgimkipekoabbaaRResv
namespace Go.Proofs.Ytgimkipekoabbaa
open Go.RowKit

def Val.v (x : Val) : Value := .agg #[.int .i64 x.kind, .int .i64 x.n, .string ⟨x.s.toArray⟩]

/-- Valid and not null. -/
def validB (x : Val) : Bool :=
  if x.kind = 1 then x.s.isEmpty && decide (-549755813888 ≤ x.n) && decide (x.n ≤ 549755813887)
  else if x.kind = 3 then x.s.isEmpty && decide (x.n = 0 ∨ x.n = 1)
  else if x.kind = 2 then decide (x.n = 0) && decide (x.s.length ≤ 40)
  else false

def nullB (x : Val) : Bool := decide (x.kind = 0) && decide (x.n = 0) && x.s.isEmpty

theorem and_one (n : Int) : (bits BinOp.and IntKind.i64 n 1 == n) = decide (n = 0 ∨ n = 1) := by
  have h : bits BinOp.and IntKind.i64 n 1 = n % 2 := by
    show IntKind.i64.wrap ((BitVec.ofInt 64 n &&& BitVec.ofInt 64 1).toNat : Int) = _
    have h1 : (BitVec.ofInt 64 (1 : Int)).toNat = 1 := by decide
    rw [BitVec.toNat_and, h1, Nat.and_one_is_mod, BitVec.toNat_ofInt, IntKind.wrap_i64]
    omega
  rw [h]
  by_cases hn : n = 0 ∨ n = 1
  · rw [decide_eq_true hn, beq_iff_eq]; omega
  · rw [decide_eq_false hn, beq_eq_false_iff_ne]; omega

set_option maxRecDepth 20000 in
set_option maxHeartbeats 2000000 in
theorem valid_any (k n : Int) (s : List UInt8) (w : World) : Calls Try.prog 49 #[Val.v ⟨k, n, s⟩] w fun e w' => e = .returned (.bool (validB ⟨k, n, s⟩)) ∧ Below w.heap.size w w' := by
  have hz : (⟨s.toArray⟩ : ByteArray).size = s.length := str_size s
  have HA := Box.mk (and_one n)
  unfold Val.v
  go_enter Try.func49, Try.ntmps49
  go_wp2_with fail
  all_goals
    go_ret
    refine ⟨?_, (Below.refl _ _).alloc (Nat.le_refl _) _⟩
    have ha := HA.out
    clear HA hz
    simp_all [validB] <;> (try intros) <;> omega

set_option maxRecDepth 20000 in
set_option maxHeartbeats 2000000 in
theorem rvalid_any (k n : Int) (s : List UInt8) (w : World) : Calls Try.prog 65 #[Val.v ⟨k, n, s⟩] w fun e w' => e = .returned (.bool (validB ⟨k, n, s⟩ || nullB ⟨k, n, s⟩)) ∧ Below w.heap.size w w' := by
  have hz : (⟨s.toArray⟩ : ByteArray).size = s.length := str_size s
  unfold Val.v
  go_enter Try.func65, Try.ntmps65
  go_wp2_with fail
  all_goals
    go_ret
    refine ⟨?_, (Below.refl _ _).alloc (Nat.le_refl _) _⟩
    clear hz
    simp_all [validB, nullB] <;> (try intros) <;> omega
end Go.Proofs.Ytgimkipekoabbaa
