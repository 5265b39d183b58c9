/-
  RowMatchesSpec: for every input the statement's function returns true and keeps its arguments: the row. No condition.
-/
import Derived.Test.YtpgdfhncigmmbaaRows
import Derived.Test.YtpgdfhncigmmbaaLMat
import Derived.Test.YtpgdfhncigmmbaaE20
import Derived.WalkKit
import Derived.ProofKit
import Derived.OpenShut
import Derived.ShutString
import Derived.ChangeOld
import Derived.Below
import Derived.SizedLaws
namespace Go.Proofs.Ytpgdfhncigmmbaa.rowMatchesSpec
open Go.ChangeShapes Go.WideShapes Go.ChangeAt Go.RowKit
open Go.ChangeMaps (open_string shut_string)
set_option linter.unusedVariables false

theorem own : ownKnob Try.prog.godebug = none := by kernel_rfl
theorem laidOut : laidOutB Try.prog = true := by kernel_rfl

set_option maxRecDepth 100000 in
set_option maxHeartbeats 1000000 in
theorem lifted (os : Os) (started : os.Started) (H : Type) (enc : TypeId × Value → H) :
    ReturnsInHanded {} Try.checked os 3 .any (Rows.rowMatchesSpecSpec.pre6 enc Try.prog Try.f3 Rows.rowMatchesSpecRow.domain false) (Rows.rowMatchesSpecSpec.post enc Try.prog Try.f3 false true false false) := by
  refine returnsInHanded_of_change_sized (C := Try.checked) own started (by kernel_rfl) Try.func3
    (ChangeSpec.witness6 (enc := enc) (C := Try.checked) false ⟨#[], #[.agg #[.string ByteArray.empty, .slice none 0 0, .slice none 0 0, .slice none 0 0], .slice none 0 0, .slice none 0 0], []⟩ 8 (by kernel_rfl) (by kernel_rfl) (by kernel_rfl) (by kernel_rfl)) ?_
  intro W base args ds gs before hval0 hW _ hsz0 _
  have hval : ∀ (j : Nat) t v, Try.f3.params[j]? = some t → args[j]? = some v → Value.okWide Try.prog W .any base t v := hval0
  have hsz : (DataW.weightsEach Try.prog (Try.f3.params.toList ++ Rows.rowMatchesSpecSpec.plain.varTypes Try.prog) (ds ++ gs)).all (· ≤ reachBytes) = true := hsz0
  have hW' := hW
  obtain ⟨p, q, hA0, hV, rfl, hfz, hnd⟩ := hW
  have hA : DataW.TrodAll enc Try.prog W 0 (fun _ => true) true Try.f3.params.toList args.toList ds p := hA0
  rw [Try.params3] at hA hval hsz
  have hAll : DataW.TrodAll enc Try.prog W 0 (fun _ => true) true [26, 28, 29] args.toList ds p := hA
  obtain ⟨v0, vs0, d0, ds0, p0, q0, hargs, rfl, rfl, h0, r0⟩ := trodAll_cons hA
  obtain ⟨v1, vs1, d1, ds1, p1, q1, rfl, rfl, rfl, h1, r1⟩ := trodAll_cons r0
  obtain ⟨v2, vs2, d2, ds2, p2, q2, rfl, rfl, rfl, h2, r2⟩ := trodAll_cons r1
  obtain ⟨rfl, rfl, rfl⟩ := trodAll_nil r2
  obtain rfl : args = #[v0, v1, v2] := by cases args; simp_all
  obtain ⟨rfl, rfl⟩ := trodVars_none hV
  obtain ⟨X0, rfl, R0⟩ := open_tab (hval 0 26 v0 rfl rfl) h0
  obtain ⟨a1, cap1, xs1, rfl, R1⟩ := open_row (hval 1 28 v1 rfl rfl) h1
  obtain ⟨a2, len2, cap2, css2, els2, sp2, rfl, nn2, ne2, R2, hc2, cp2, hd2, hE2⟩ := open_rows Try.underlying29 (hval 2 29 v2 rfl rfl) h2
  have z2 := sized_rows hsz (j := 2) (t := 29) (e := 3) rfl rfl Try.underlying29 hd2
  rw [ne2, cp2, show Try.prog.bytesOf 3 = 8 from by kernel_rfl] at z2
  obtain ⟨xs2, rfl, rfl, x2⟩ := open_all (fun x : Int => [Value.int .i64 x]) (fun x => DataW.lit (.int .i64 x)) (fun x => (Lit.int .i64 x).wf = true) (fun cs d h => elem_int Try.underlying3 h) css2 els2 (by omega) hE2
  have R2 := R2.rows1 (by kernel_rfl)
  rw [List.length_map] at nn2
  refine (match_walk R0 R1 R2).mono fun e W' ⟨he, bel⟩ => ?_
  subst he
  exact ⟨_, rfl, _, _, _, [], _, [], hW', trodAll_mk1 (shut_bool Try.underlying4 _), below_trodAll laidOut bel (by kernel_rfl) hAll, rfl, bel.frame _, fun h => by cases h⟩

theorem over : Rows.rowMatchesSpecRow.holds Try.pinned (OpenSpec.ofChange Rows.rowMatchesSpecSpec) :=
  OpenClaim.holds_of_wide 3 Try.f3 rfl rfl rfl rfl rfl rfl rfl ⟨rfl, rfl, rfl, rfl, rfl⟩ rfl rfl rfl rfl rfl (by kernel_rfl) Try.func3 (by kernel_rfl)
    (of_decide_eq_true (by kernel_rfl)) (by unfold Func.isWrapper; first | (rw [if_pos (by decide +kernel)]; kernel_rfl) | (rw [if_neg (by decide +kernel)]; exact ⟨rfl, rfl⟩))
    (fun os started H enc _ => lifted os started H enc)

theorem proved : Rows.RowMatchesSpecSaid := over
#print axioms proved
end Go.Proofs.Ytpgdfhncigmmbaa.rowMatchesSpec
