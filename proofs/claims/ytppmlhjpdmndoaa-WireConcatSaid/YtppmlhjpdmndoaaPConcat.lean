/-
  WireConcat: for every input the statement's function returns true and keeps its arguments: the row. No condition.
-/
import Derived.Test.YtppmlhjpdmndoaaRows
import Derived.Test.YtppmlhjpdmndoaaLConcat
import Derived.WalkKit
import Derived.ProofKit
import Derived.OpenShut
import Derived.ShutString
import Derived.ChangeOld
import Derived.Below
import Derived.SizedLaws
namespace Go.Proofs.Ytppmlhjpdmndoaa.wireConcat
open Go.ChangeShapes Go.WideShapes Go.ChangeAt Go.RowKit
open Go.ChangeMaps (open_string shut_string)
set_option linter.unusedVariables false

theorem own : ownKnob Try.prog.godebug = none := by kernel_rfl
theorem laidOut : laidOutB Try.prog = true := by kernel_rfl

set_option maxRecDepth 100000 in
set_option maxHeartbeats 1000000 in
theorem lifted (os : Os) (started : os.Started) (H : Type) (enc : TypeId × Value → H) :
    ReturnsInHanded {} Try.checked os 10 .any (Rows.wireConcatSpec.pre6 enc Try.prog Try.f10 Rows.wireConcatRow.domain false) (Rows.wireConcatSpec.post enc Try.prog Try.f10 false true false false) := by
  refine returnsInHanded_of_change_sized (C := Try.checked) own started (by kernel_rfl) Try.func10
    (ChangeSpec.witness6 (enc := enc) (C := Try.checked) false ⟨#[], #[.string ByteArray.empty, .slice none 0 0], []⟩ 8 (by kernel_rfl) (by kernel_rfl) (by kernel_rfl) (by kernel_rfl)) ?_
  intro W base args ds gs before hval0 hW _ hsz0 _
  have hval : ∀ (j : Nat) t v, Try.f10.params[j]? = some t → args[j]? = some v → Value.okWide Try.prog W .any base t v := hval0
  have hsz : (DataW.weightsEach Try.prog (Try.f10.params.toList ++ Rows.wireConcatSpec.plain.varTypes Try.prog) (ds ++ gs)).all (· ≤ reachBytes) = true := hsz0
  have hW' := hW
  obtain ⟨p, q, hA0, hV, rfl, hfz, hnd⟩ := hW
  have hA : DataW.TrodAll enc Try.prog W 0 (fun _ => true) true Try.f10.params.toList args.toList ds p := hA0
  rw [Try.params10] at hA hval hsz
  have hAll : DataW.TrodAll enc Try.prog W 0 (fun _ => true) true [9, 22] args.toList ds p := hA
  obtain ⟨v0, vs0, d0, ds0, p0, q0, hargs, rfl, rfl, h0, r0⟩ := trodAll_cons hA
  obtain ⟨v1, vs1, d1, ds1, p1, q1, rfl, rfl, rfl, h1, r1⟩ := trodAll_cons r0
  obtain ⟨rfl, rfl, rfl⟩ := trodAll_nil r1
  obtain rfl : args = #[v0, v1] := by cases args; simp_all
  obtain ⟨rfl, rfl⟩ := trodVars_none hV
  obtain ⟨s0, rfl, e0, w0⟩ := open_str Try.underlying9 (hval 0 9 v0 rfl rfl) h0
  have z0 : s0.data.toList.length ≤ reachBytes := sized_string hsz (j := 0) (t := 9) rfl (by rw [← e0]; rfl)
  obtain ⟨a1, len1, cap1, css1, els1, sp1, rfl, nn1, ne1, R1, hc1, cp1, hd1, hE1⟩ := open_rows Try.underlying22 (hval 1 22 v1 rfl rfl) h1
  have z1 := sized_rows hsz (j := 1) (t := 22) (e := 3) rfl rfl Try.underlying22 hd1
  rw [ne1, cp1, show Try.prog.bytesOf 3 = 8 from by kernel_rfl] at z1
  obtain ⟨xs1, rfl, rfl, x1⟩ := open_all (fun x : Int => [Value.int .i64 x]) (fun x => DataW.lit (.int .i64 x)) (fun x => (Lit.int .i64 x).wf = true) (fun cs d h => elem_int Try.underlying3 h) css1 els1 (by omega) hE1
  have R1 := R1.rows1 (by kernel_rfl)
  rw [List.length_map] at nn1
  refine (concat_walk s0 (by have h : s0.data.toList.length ≤ 140737488351232 := z0; simpa using h) a1 len1 cap1 xs1 W (by have := R1.hcap; omega) R1 (fun x hx => wf_i64_bd (x1 x hx))).mono fun e W' ⟨he, bel⟩ => ?_
  subst he
  exact ⟨_, rfl, _, _, _, [], _, [], hW', trodAll_mk1 (shut_bool Try.underlying4 _), below_trodAll laidOut bel (by kernel_rfl) hAll, rfl, bel.frame _, fun h => by cases h⟩

theorem over : Rows.wireConcatRow.holds Try.pinned (OpenSpec.ofChange Rows.wireConcatSpec) :=
  OpenClaim.holds_of_wide 10 Try.f10 rfl rfl rfl rfl rfl rfl rfl ⟨rfl, rfl, rfl, rfl, rfl⟩ rfl rfl rfl rfl rfl (by kernel_rfl) Try.func10 (by kernel_rfl)
    (of_decide_eq_true (by kernel_rfl)) (by unfold Func.isWrapper; first | (rw [if_pos (by decide +kernel)]; kernel_rfl) | (rw [if_neg (by decide +kernel)]; exact ⟨rfl, rfl⟩))
    (fun os started H enc _ => lifted os started H enc)

theorem proved : Rows.WireConcatSaid := over
#print axioms proved
end Go.Proofs.Ytppmlhjpdmndoaa.wireConcat
