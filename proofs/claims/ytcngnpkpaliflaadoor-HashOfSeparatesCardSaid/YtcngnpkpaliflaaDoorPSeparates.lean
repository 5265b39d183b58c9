/-
  HashOfSeparates: for every input the statement's function returns true and keeps its arguments: the row, its tables tied to the program's text: the card. Condition: the package-level tables hold at the call's beginning what the program's text lays there (the card ties them).
-/
import Derived.Test.YtcngnpkpaliflaaDoorLaid
import Derived.Test.YtcngnpkpaliflaaDoorL8
import Derived.Test.YtcngnpkpaliflaaDoorPair
import Derived.WalkKit
import Derived.ProofKit
import Derived.OpenShut
import Derived.ShutString
import Derived.ChangeOld
import Derived.Below
import Derived.SizedLaws
namespace Go.Proofs.YtcngnpkpaliflaaDoor.hashOfSeparates
open Go.ChangeShapes Go.WideShapes Go.ChangeAt Go.RowKit
open Go.ChangeMaps (open_string shut_string)
set_option linter.unusedVariables false

theorem own : ownKnob Tryd.prog.godebug = none := by kernel_rfl
theorem laidOut : laidOutB Tryd.prog = true := by kernel_rfl

set_option maxRecDepth 100000 in
set_option maxHeartbeats 1000000 in
theorem contract (H : Type) (enc : TypeId × Value → H) (W : World) (base : Nat) (args : Array Value) (ds gs : List (DataW H)) (before : List MemPlace)
    (hval0 : ∀ (j : Nat) t v, Tryd.f14.params[j]? = some t → args[j]? = some v → Value.okWide Tryd.prog W .any base t v)
    (hW : DataW.Whole enc Tryd.prog Tryd.f14.params.toList Rows.hashOfSeparatesSpec.vars false W args.toList ds gs before) (hL : laidMetH Tryd.prog Rows.hashOfSeparatesRow.laid W)
    (hsz0 : (DataW.weightsEach Tryd.prog (Tryd.f14.params.toList ++ Rows.hashOfSeparatesSpec.plain.varTypes Tryd.prog) (ds ++ gs)).all (· ≤ reachBytes) = true) :
    Calls Tryd.prog 14 args W fun e W' => ∃ v, e = .returned v ∧ Rows.hashOfSeparatesSpec.post enc Tryd.prog Tryd.f14 false true false false W args v W' := by
  have hval : ∀ (j : Nat) t v, Tryd.f14.params[j]? = some t → args[j]? = some v → Value.okWide Tryd.prog W .any base t v := hval0
  have hsz : (DataW.weightsEach Tryd.prog (Tryd.f14.params.toList ++ Rows.hashOfSeparatesSpec.plain.varTypes Tryd.prog) (ds ++ gs)).all (· ≤ reachBytes) = true := hsz0
  have hW' := hW
  obtain ⟨p, q, hA0, hV, rfl, hfz, hnd⟩ := hW
  have hA : DataW.TrodAll enc Tryd.prog W 0 (fun _ => true) true Tryd.f14.params.toList args.toList ds p := hA0
  rw [Tryd.params14] at hA hval hsz
  have hAll : DataW.TrodAll enc Tryd.prog W 0 (fun _ => true) true [62, 26, 26] args.toList ds p := hA
  obtain ⟨v0, vs0, d0, ds0, p0, q0, hargs, rfl, rfl, h0, r0⟩ := trodAll_cons hA
  obtain ⟨v1, vs1, d1, ds1, p1, q1, rfl, rfl, rfl, h1, r1⟩ := trodAll_cons r0
  obtain ⟨v2, vs2, d2, ds2, p2, q2, rfl, rfl, rfl, h2, r2⟩ := trodAll_cons r1
  obtain ⟨rfl, rfl, rfl⟩ := trodAll_nil r2
  obtain rfl : args = #[v0, v1, v2] := by cases args; simp_all
  obtain ⟨rfl, rfl⟩ := trodVars_none hV
  obtain ⟨a0, b0, rfl, w0, u0⟩ := open_pair8 Tryd.underlying62 Tryd.underlying5 (by kernel_rfl) (by kernel_rfl) (hval 0 62 v0 rfl rfl) h0
  obtain ⟨a1, len1, cap1, css1, els1, sp1, rfl, nn1, ne1, R1, hc1, cp1, hd1, hE1⟩ := open_rows Tryd.underlying26 (hval 1 26 v1 rfl rfl) h1
  obtain ⟨xs1, rfl, rfl, x1⟩ := open_all (fun x : List UInt8 => [Value.string ⟨x.toArray⟩]) (fun x => DataW.lit (.string x)) (fun x => x.length ≤ maxLen) (fun cs d h => elem_string Tryd.underlying9 h) css1 els1 (by omega) hE1
  have R1 : Rd W a1 len1 cap1 1 (bstrVals xs1) := R1.rows1 (by kernel_rfl)
  rw [List.length_map] at nn1
  obtain ⟨a2, len2, cap2, css2, els2, sp2, rfl, nn2, ne2, R2, hc2, cp2, hd2, hE2⟩ := open_rows Tryd.underlying26 (hval 2 26 v2 rfl rfl) h2
  obtain ⟨xs2, rfl, rfl, x2⟩ := open_all (fun x : List UInt8 => [Value.string ⟨x.toArray⟩]) (fun x => DataW.lit (.string x)) (fun x => x.length ≤ maxLen) (fun cs d h => elem_string Tryd.underlying9 h) css2 els2 (by omega) hE2
  have R2 : Rd W a2 len2 cap2 1 (bstrVals xs2) := R2.rows1 (by kernel_rfl)
  rw [List.length_map] at nn2
  have hM := mem_laid hL
  refine (separates_walk a0 b0 (wf_u8_bd w0).1 (wf_u8_bd w0).2 (wf_u8_bd u0).1 (wf_u8_bd u0).2 a1 a2 len1 len2 cap1 cap2 xs1 xs2 W R1 R2 (fun s hs => by have := x1 s hs; unfold maxLen at this; omega) (fun s hs => by have := x2 s hs; unfold maxLen at this; omega) hM).mono fun e W' ⟨he, bel⟩ => ?_
  subst he
  exact ⟨_, rfl, _, _, _, [], _, [], hW', trodAll_mk1 (shut_bool Tryd.underlying4 _), below_trodAll laidOut bel (by kernel_rfl) hAll, rfl, bel.frame _, fun h => by cases h⟩

theorem reads (os : Os) {H : Type} (enc : TypeId × Value → H) : ∃ places, DataW.whole enc Tryd.prog ((laidWorld os).forCall (fun _ _ => 0) ⟨#[], #[.agg #[.int .u8 0, .int .u8 0], .slice none 0 0, .slice none 0 0], []⟩).memory Tryd.f14.params.toList Rows.hashOfSeparatesSpec.vars false (#[.agg #[.int .u8 0, .int .u8 0], .slice none 0 0, .slice none 0 0] : Array Value).toList 8 = some ([.agg [.lit (.int .u8 0), .lit (.int .u8 0)], .nil, .nil], [], places) :=
  ⟨[], by kernel_rfl⟩

set_option maxRecDepth 100000 in
theorem lifted (os : Os) (started : os.Started) (H : Type) (enc : TypeId × Value → H) (F : Stop.Interp) :
    ReturnsInHanded {} Tryd.checked os 14 .any ((OpenSpec.ofChange Rows.hashOfSeparatesSpec).preRow enc Tryd.prog Tryd.f14 Rows.hashOfSeparatesRow.domain false Rows.hashOfSeparatesRow.laid) (((OpenSpec.ofChange Rows.hashOfSeparatesSpec).at F).post enc Tryd.prog Tryd.f14 false true false false) := by
  obtain ⟨places, hx⟩ := reads os enc
  refine returnsInHanded_of_row (C := Tryd.checked) (s := OpenSpec.ofChange Rows.hashOfSeparatesSpec) own started (by kernel_rfl) Tryd.func14
    (witness_row_at (enc := enc) (C := Tryd.checked) false (laidWorld os) #[.agg #[.int .u8 0, .int .u8 0], .slice none 0 0, .slice none 0 0] rfl (by kernel_rfl) (by kernel_rfl) (by kernel_rfl)
      (OpenSpec.preRow_of_cond 8 hx (by kernel_rfl) (fun k hk => by cases hk) (by kernel_rfl) (laid_met os _))) ?_
  intro W base args ds gs before hval hW _ _ hsz hL _ _
  exact contract H enc W base args ds gs before hval hW hL hsz

theorem said : Rows.HashOfSeparatesSaid :=
  OpenClaim.holds_of_cond 14 Tryd.f14 rfl rfl rfl rfl rfl rfl rfl ⟨rfl, rfl, rfl, rfl, rfl⟩ rfl rfl rfl rfl rfl (by kernel_rfl) Tryd.func14 (by kernel_rfl)
    (of_decide_eq_true (by kernel_rfl)) (by unfold Func.isWrapper; first | (rw [if_pos (by decide +kernel)]; kernel_rfl) | (rw [if_neg (by decide +kernel)]; exact ⟨rfl, rfl⟩))
    (fun os started H enc _ F => by rw [OpenClaim.pre_eq_preRow]; exact lifted os started H enc F)

theorem plain (f : FuncId) (fn : Func) (hf : Tryd.pinned.checked.prog.funcNamed "alum/alumlaw02.HashOfSeparates" = some f) (hfn : Tryd.pinned.checked.prog.funcs[f]? = some fn) :
    false = Tryd.pinned.checked.prog.looks [] ∧ ∀ (j : Nat) t, fn.params[j]? = some t → Tryd.pinned.checked.prog.wantsStandIn t = false := by
  obtain rfl : f = 14 := Option.some.inj ((show Tryd.prog.funcNamed "alum/alumlaw02.HashOfSeparates" = some 14 by kernel_rfl).symm.trans hf) |>.symm
  obtain rfl : fn = Tryd.f14 := (Option.some.inj (Tryd.func14.symm.trans hfn)).symm
  refine ⟨by kernel_rfl, fun j t ht => ?_⟩
  rw [Tryd.params14] at ht
  have hm := Array.mem_of_getElem? ht
  simp only [List.mem_toArray, List.mem_cons, List.not_mem_nil, or_false] at hm
  rcases hm with rfl | rfl | rfl
  · exact (show Tryd.prog.wantsStandIn 62 = false by kernel_rfl)
  · exact (show Tryd.prog.wantsStandIn 26 = false by kernel_rfl)
  · exact (show Tryd.prog.wantsStandIn 26 = false by kernel_rfl)

theorem proved : Rows.HashOfSeparatesCardSaid :=
  Claim7.holds_tied_plain_at .later [] _ _ _ _ said (fun _ h => by cases h) (by kernel_rfl) (fun _ h => by cases h) hashOfSeparates_row_tie rfl ⟨rfl, rfl⟩ (by kernel_rfl) rfl plain (by kernel_rfl)
#print axioms proved
end Go.Proofs.YtcngnpkpaliflaaDoor.hashOfSeparates
