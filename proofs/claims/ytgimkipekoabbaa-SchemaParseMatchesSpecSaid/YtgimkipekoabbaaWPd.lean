/-
  The walk of Parse's deferred closure. No condition.
-/
import Derived.Test.YtgimkipekoabbaaWRt
import Derived.Defers
import Derived.Recover
namespace Go.Proofs.Ytgimkipekoabbaa
open Go.RowKit

set_option maxRecDepth 20000 in
set_option maxHeartbeats 2000000 in
theorem catch_idle (p q : Addr) (w : World) : CallsD Try.prog 72 #[.pointer (some p), .pointer (some q)] .returning w fun e u' w' => e = .returned (.tuple #[]) ∧ u' = .returning ∧ w' = w := by
  refine callsD_of_wpS Try.func72 rfl fun c₀ cs hu => ?_
  apply wpS_seq
  apply wpS_region
  simp [wpOpsS, go_sem, recoverD, hu, Try.ntmps72, Exit.thenS]
  refine wpS_of_wp ?_
  cases c₀
  simp only at hu
  subst hu
  simp only [Array.replicate, List.replicate]
  go_wp2_with fail
  exact ⟨rfl, _, rfl, .tuple #[], by simp [results, go_sem, Try.results72], rfl, rfl, rfl⟩
set_option maxRecDepth 20000 in
set_option maxHeartbeats 2000000 in
theorem catch_panic (B p q : Nat) (w : World) (hB : B ≤ p) (hB2 : B ≤ q) (hpq : p ≠ q) (a b c d : Value) (v : Int) (bp : Blk w p 28 [a, b, c, d]) (bq : Blk w q 30 [.int .i64 v]) : CallsD Try.prog 72 #[.pointer (some ⟨p, 0, none⟩), .pointer (some ⟨q, 0, none⟩)] (.panicking [{ v := malV, recovered := false }]) w fun e u' w' =>
    e = .returned (.tuple #[]) ∧ u' = .panicking [{ v := malV, recovered := true }] ∧ Below B w w' ∧ Blk w' p 28 [.string ⟨#[]⟩, .slice none 0 0, .slice none 0 0, .slice none 0 0] ∧ Blk w' q 30 [.int .i64 3] := by
  have hta : ∀ w, (Instr.typeAssert (.iface 97 (.agg #[])) 20 97 true).run Try.prog w = .ok (.tuple #[.agg #[], .bool true]) w := fun w => rfl
  refine callsD_of_wpS Try.func72 rfl fun c₀ cs hu => ?_
  apply wpS_seq
  apply wpS_region
  simp [wpOpsS, go_sem, recoverD, hu, Try.ntmps72, Exit.thenS]
  refine wpS_of_wp ?_
  cases c₀
  simp only [Array.replicate, List.replicate, malV]
  have BP := Box.mk bp
  have BQ := Box.mk bq
  clear bp bq
  go_wp2_with ((with_reducible refine wpList_store_row rfl _ _ _ rfl rfl (by kernel_rfl) (BP.out.alloc _) rfl rfl (cs := [.string ⟨#[]⟩, .slice none 0 0, .slice none 0 0, .slice none 0 0]) rfl rfl (tab_one _ _ _ _ _ _ _ _ _ _) ?_); have BQ2 := Box.mk ((BQ.out.alloc (.cells #[] 97)).rowOther (Ne.symm hpq) #[.string ⟨#[]⟩, .slice none 0 0, .slice none 0 0, .slice none 0 0]); have c2 := BQ2.out.cellOf (i := 0) rfl; have f2 := BQ2.out.free 0)
  have BP3 := (BP.out.alloc (.cells #[] 97)).row [.string ⟨#[]⟩, .slice none 0 0, .slice none 0 0, .slice none 0 0]
  refine ⟨rfl, _, rfl, .tuple #[], by simp [results, go_sem, Try.results72], rfl, rfl, ?_, BP3.other hpq _, BQ2.out.set 0 _⟩
  exact (below_setRow ((Below.refl B w).alloc (by have := BP.out.lt; omega) _) hB _).setCell hB2 _
end Go.Proofs.Ytgimkipekoabbaa
