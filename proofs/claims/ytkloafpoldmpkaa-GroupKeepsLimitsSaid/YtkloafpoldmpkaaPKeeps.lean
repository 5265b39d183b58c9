/-
  GroupKeepsLimits: for every input the statement's function returns true and keeps its arguments: the row. No condition.
-/
import Derived.Test.YtkloafpoldmpkaaRows
import Derived.Test.YtkloafpoldmpkaaL4
import Derived.Test.YtkloafpoldmpkaaOpn
import Derived.WalkKit
import Derived.ProofKit
import Derived.OpenShut
import Derived.ShutString
import Derived.ChangeOld
import Derived.Below
import Derived.SizedLaws
namespace Go.Proofs.Ytkloafpoldmpkaa.groupKeepsLimits
open Go.ChangeShapes Go.WideShapes Go.ChangeAt Go.RowKit
open Go.ChangeMaps (open_string shut_string)
set_option linter.unusedVariables false

theorem own : ownKnob Try.prog.godebug = none := by kernel_rfl
theorem laidOut : laidOutB Try.prog = true := by kernel_rfl

set_option maxRecDepth 100000 in
set_option maxHeartbeats 1000000 in
theorem lifted (os : Os) (started : os.Started) (H : Type) (enc : TypeId × Value → H) :
    ReturnsInHanded {} Try.checked os 6 .any (Rows.groupKeepsLimitsSpec.pre6 enc Try.prog Try.f6 Rows.groupKeepsLimitsRow.domain false) (Rows.groupKeepsLimitsSpec.post enc Try.prog Try.f6 false true false false) := by
  refine returnsInHanded_of_change_sized (C := Try.checked) own started (by kernel_rfl) Try.func6
    (ChangeSpec.witness6 (enc := enc) (C := Try.checked) false ⟨#[], #[.int .i64 0, .int .i64 0, .int .i64 0, .slice none 0 0, .slice none 0 0], []⟩ 8 (by kernel_rfl) (by kernel_rfl) (by kernel_rfl) (by kernel_rfl)) ?_
  intro W base args ds gs before hval0 hW _ hsz0 _
  have hval : ∀ (j : Nat) t v, Try.f6.params[j]? = some t → args[j]? = some v → Value.okWide Try.prog W .any base t v := hval0
  have hsz : (DataW.weightsEach Try.prog (Try.f6.params.toList ++ Rows.groupKeepsLimitsSpec.plain.varTypes Try.prog) (ds ++ gs)).all (· ≤ reachBytes) = true := hsz0
  have hW' := hW
  obtain ⟨p, q, hA0, hV, rfl, hfz, hnd⟩ := hW
  have hA : DataW.TrodAll enc Try.prog W 0 (fun _ => true) true Try.f6.params.toList args.toList ds p := hA0
  rw [Try.params6] at hA hval hsz
  have hAll : DataW.TrodAll enc Try.prog W 0 (fun _ => true) true [3, 3, 3, 22, 56] args.toList ds p := hA
  obtain ⟨v0, vs0, d0, ds0, p0, q0, hargs, rfl, rfl, h0, r0⟩ := trodAll_cons hA
  obtain ⟨v1, vs1, d1, ds1, p1, q1, rfl, rfl, rfl, h1, r1⟩ := trodAll_cons r0
  obtain ⟨v2, vs2, d2, ds2, p2, q2, rfl, rfl, rfl, h2, r2⟩ := trodAll_cons r1
  obtain ⟨v3, vs3, d3, ds3, p3, q3, rfl, rfl, rfl, h3, r3⟩ := trodAll_cons r2
  obtain ⟨v4, vs4, d4, ds4, p4, q4, rfl, rfl, rfl, h4, r4⟩ := trodAll_cons r3
  obtain ⟨rfl, rfl, rfl⟩ := trodAll_nil r4
  obtain rfl : args = #[v0, v1, v2, v3, v4] := by cases args; simp_all
  obtain ⟨rfl, rfl⟩ := trodVars_none hV
  obtain ⟨a0, rfl, e0, _, w0⟩ := open_int Try.underlying3 (hval 0 3 v0 rfl rfl) h0
  obtain ⟨a1, rfl, e1, _, w1⟩ := open_int Try.underlying3 (hval 1 3 v1 rfl rfl) h1
  obtain ⟨a2, rfl, e2, _, w2⟩ := open_int Try.underlying3 (hval 2 3 v2 rfl rfl) h2
  obtain ⟨a3, len3, cap3, css3, els3, sp3, rfl, nn3, ne3, R3, hc3, cp3, hd3, hE3⟩ := open_rows Try.underlying22 (hval 3 22 v3 rfl rfl) h3
  have z3 := sized_rows hsz (j := 3) (t := 22) (e := 3) rfl rfl Try.underlying22 hd3
  rw [ne3, cp3, show Try.prog.bytesOf 3 = 8 from by kernel_rfl] at z3
  obtain ⟨xs3, rfl, rfl, x3⟩ := open_all (fun x : Int => [Value.int .i64 x]) (fun x => DataW.lit (.int .i64 x)) (fun x => (Lit.int .i64 x).wf = true) (fun cs d h => elem_int Try.underlying3 h) css3 els3 (by omega) hE3
  have R3 := R3.rows1 (by kernel_rfl)
  rw [List.length_map] at nn3
  obtain ⟨a4, len4, cap4, css4, els4, sp4, rfl, nn4, ne4, R4, hc4, cp4, hd4, hE4⟩ := open_rows Try.underlying56 (hval 4 56 v4 rfl rfl) h4
  have z4 := sized_rows hsz (j := 4) (t := 56) (e := 4) rfl rfl Try.underlying56 hd4
  rw [ne4, cp4, show Try.prog.bytesOf 4 = 1 from by kernel_rfl] at z4
  obtain ⟨xs4, rfl, rfl, x4⟩ := open_all (fun x : Bool => [Value.bool x]) (fun x => DataW.lit (.bool x)) (fun _ => True) (fun cs d h => elem_bool Try.underlying4 h) css4 els4 (by omega) hE4
  have R4 := R4.rows1 (by kernel_rfl)
  rw [List.length_map] at nn4
  refine (keeps_walk a0 a1 a2 a3 len3 cap3 xs3 a4 len4 cap4 xs4 W R3 R4).mono fun e W' ⟨he, bel⟩ => ?_
  subst he
  exact ⟨_, rfl, _, _, _, [], _, [], hW', trodAll_mk1 (shut_bool Try.underlying4 _), below_trodAll laidOut bel (by kernel_rfl) hAll, rfl, bel.frame _, fun h => by cases h⟩

theorem over : Rows.groupKeepsLimitsRow.holds Try.pinned (OpenSpec.ofChange Rows.groupKeepsLimitsSpec) :=
  OpenClaim.holds_of_wide 6 Try.f6 rfl rfl rfl rfl rfl rfl rfl ⟨rfl, rfl, rfl, rfl, rfl⟩ rfl rfl rfl rfl rfl (by kernel_rfl) Try.func6 (by kernel_rfl)
    (of_decide_eq_true (by kernel_rfl)) (by unfold Func.isWrapper; first | (rw [if_pos (by decide +kernel)]; kernel_rfl) | (rw [if_neg (by decide +kernel)]; exact ⟨rfl, rfl⟩))
    (fun os started H enc _ => lifted os started H enc)

theorem proved : Rows.GroupKeepsLimitsSaid := over
#print axioms proved
end Go.Proofs.Ytkloafpoldmpkaa.groupKeepsLimits
