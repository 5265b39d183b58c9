/-
  WireTruncated: for every input the statement's function returns true and keeps its arguments: the row. No condition.
-/
import Derived.Test.YtppmlhjpdmndoaaRows
import Derived.Test.YtppmlhjpdmndoaaLTrunc
import Derived.WalkKit
import Derived.ProofKit
import Derived.OpenShut
import Derived.ShutString
import Derived.ChangeOld
import Derived.Below
import Derived.SizedLaws
namespace Go.Proofs.Ytppmlhjpdmndoaa.wireTruncated
open Go.ChangeShapes Go.WideShapes Go.ChangeAt Go.RowKit
open Go.ChangeMaps (open_string shut_string)
set_option linter.unusedVariables false

theorem own : ownKnob Try.prog.godebug = none := by kernel_rfl
theorem laidOut : laidOutB Try.prog = true := by kernel_rfl

set_option maxRecDepth 100000 in
set_option maxHeartbeats 1000000 in
theorem lifted (os : Os) (started : os.Started) (H : Type) (enc : TypeId × Value → H) :
    ReturnsInHanded {} Try.checked os 9 .any (Rows.wireTruncatedSpec.pre6 enc Try.prog Try.f9 Rows.wireTruncatedRow.domain false) (Rows.wireTruncatedSpec.post enc Try.prog Try.f9 false true false false) := by
  refine returnsInHanded_of_change_sized (C := Try.checked) own started (by kernel_rfl) Try.func9
    (ChangeSpec.witness6 (enc := enc) (C := Try.checked) false ⟨#[], #[.int .i64 0, .string ByteArray.empty, .slice none 0 0, .slice none 0 0, .slice none 0 0], []⟩ 8 (by kernel_rfl) (by kernel_rfl) (by kernel_rfl) (by kernel_rfl)) ?_
  intro W base args ds gs before hval0 hW _ hsz0 _
  have hval : ∀ (j : Nat) t v, Try.f9.params[j]? = some t → args[j]? = some v → Value.okWide Try.prog W .any base t v := hval0
  have hsz : (DataW.weightsEach Try.prog (Try.f9.params.toList ++ Rows.wireTruncatedSpec.plain.varTypes Try.prog) (ds ++ gs)).all (· ≤ reachBytes) = true := hsz0
  have hW' := hW
  obtain ⟨p, q, hA0, hV, rfl, hfz, hnd⟩ := hW
  have hA : DataW.TrodAll enc Try.prog W 0 (fun _ => true) true Try.f9.params.toList args.toList ds p := hA0
  rw [Try.params9] at hA hval hsz
  have hAll : DataW.TrodAll enc Try.prog W 0 (fun _ => true) true [3, 9, 22, 23, 24] args.toList ds p := hA
  obtain ⟨v0, vs0, d0, ds0, p0, q0, hargs, rfl, rfl, h0, r0⟩ := trodAll_cons hA
  obtain ⟨v1, vs1, d1, ds1, p1, q1, rfl, rfl, rfl, h1, r1⟩ := trodAll_cons r0
  obtain ⟨v2, vs2, d2, ds2, p2, q2, rfl, rfl, rfl, h2, r2⟩ := trodAll_cons r1
  obtain ⟨v3, vs3, d3, ds3, p3, q3, rfl, rfl, rfl, h3, r3⟩ := trodAll_cons r2
  obtain ⟨v4, vs4, d4, ds4, p4, q4, rfl, rfl, rfl, h4, r4⟩ := trodAll_cons r3
  obtain ⟨rfl, rfl, rfl⟩ := trodAll_nil r4
  obtain rfl : args = #[v0, v1, v2, v3, v4] := by cases args; simp_all
  obtain ⟨rfl, rfl⟩ := trodVars_none hV
  obtain ⟨a0, rfl, e0, _, w0⟩ := open_int Try.underlying3 (hval 0 3 v0 rfl rfl) h0
  obtain ⟨s1, rfl, e1, w1⟩ := open_str Try.underlying9 (hval 1 9 v1 rfl rfl) h1
  have z1 : s1.data.toList.length ≤ reachBytes := sized_string hsz (j := 1) (t := 9) rfl (by rw [← e1]; rfl)
  obtain ⟨a2, len2, cap2, css2, els2, sp2, rfl, nn2, ne2, R2, hc2, cp2, hd2, hE2⟩ := open_rows Try.underlying22 (hval 2 22 v2 rfl rfl) h2
  have z2 := sized_rows hsz (j := 2) (t := 22) (e := 3) rfl rfl Try.underlying22 hd2
  rw [ne2, cp2, show Try.prog.bytesOf 3 = 8 from by kernel_rfl] at z2
  obtain ⟨xs2, rfl, rfl, x2⟩ := open_all (fun x : Int => [Value.int .i64 x]) (fun x => DataW.lit (.int .i64 x)) (fun x => (Lit.int .i64 x).wf = true) (fun cs d h => elem_int Try.underlying3 h) css2 els2 (by omega) hE2
  have R2 := R2.rows1 (by kernel_rfl)
  rw [List.length_map] at nn2
  obtain ⟨a3, len3, cap3, css3, els3, sp3, rfl, nn3, ne3, R3, hc3, cp3, hd3, hE3⟩ := open_rows Try.underlying23 (hval 3 23 v3 rfl rfl) h3
  have z3 := sized_rows hsz (j := 3) (t := 23) (e := 9) rfl rfl Try.underlying23 hd3
  rw [ne3, cp3, show Try.prog.bytesOf 9 = 16 from by kernel_rfl] at z3
  obtain ⟨xs3, rfl, rfl, x3⟩ := open_all (fun x : List UInt8 => [Value.string ⟨x.toArray⟩]) (fun x => DataW.lit (.string x)) (fun x => x.length ≤ maxLen) (fun cs d h => elem_string Try.underlying9 h) css3 els3 (by omega) hE3
  have R3 : Rd W a3 len3 cap3 1 (bstrVals xs3) := R3.rows1 (by kernel_rfl)
  rw [List.length_map] at nn3
  obtain ⟨a4, len4, cap4, css4, els4, sp4, rfl, nn4, ne4, R4, hc4, cp4, hd4, hE4⟩ := open_rows Try.underlying24 (hval 4 24 v4 rfl rfl) h4
  have z4 := sized_rows hsz (j := 4) (t := 24) (e := 57) rfl rfl Try.underlying24 hd4
  rw [ne4, cp4, show Try.prog.bytesOf 57 = 16 from by kernel_rfl] at z4
  obtain ⟨xs4, rfl, rfl, x4⟩ := open_all byteVals (fun x => DataW.agg (x.map fun b => .lit (.int .u8 b.toNat))) (fun x => x.length = 16) (fun cs d h => elem_dig Try.underlying57 Try.underlying5 (by kernel_rfl) (by kernel_rfl) h) css4 els4 (by omega) hE4
  have R4 : Rd W a4 len4 cap4 16 (digVals xs4) := by have h := R4; rw [dig_flat, show Try.prog.cellsOf 57 = 16 from by kernel_rfl] at h; exact h
  rw [List.length_map] at nn4
  have hs3 := sized_strs hsz (j := 3) (t := 23) (e := 9) rfl rfl Try.underlying23 hd3
  refine (trunc_walk a0 (wf_i64_bd w0).1 (wf_i64_bd w0).2 s1 (by have h : s1.data.toList.length ≤ 140737488351232 := z1; simpa using h) a2 len2 cap2 xs2 a3 len3 cap3 xs3 a4 len4 cap4 xs4 W (by have := R2.hcap; omega) R2 (fun x hx => wf_i64_bd (x2 x hx)) (by have := R3.hcap; omega) R3 hs3 (by have := R4.hcap; omega) R4 x4).mono fun e W' ⟨he, bel⟩ => ?_
  subst he
  exact ⟨_, rfl, _, _, _, [], _, [], hW', trodAll_mk1 (shut_bool Try.underlying4 _), below_trodAll laidOut bel (by kernel_rfl) hAll, rfl, bel.frame _, fun h => by cases h⟩

theorem over : Rows.wireTruncatedRow.holds Try.pinned (OpenSpec.ofChange Rows.wireTruncatedSpec) :=
  OpenClaim.holds_of_wide 9 Try.f9 rfl rfl rfl rfl rfl rfl rfl ⟨rfl, rfl, rfl, rfl, rfl⟩ rfl rfl rfl rfl rfl (by kernel_rfl) Try.func9 (by kernel_rfl)
    (of_decide_eq_true (by kernel_rfl)) (by unfold Func.isWrapper; first | (rw [if_pos (by decide +kernel)]; kernel_rfl) | (rw [if_neg (by decide +kernel)]; exact ⟨rfl, rfl⟩))
    (fun os started H enc _ => lifted os started H enc)

theorem proved : Rows.WireTruncatedSaid := over
#print axioms proved
end Go.Proofs.Ytppmlhjpdmndoaa.wireTruncated
