/-
  HashCrcLinear: for every input the statement's function returns true and keeps its arguments: the row, its tables tied to the program's text: the card. Condition: the package-level tables hold at the call's beginning what the program's text lays there (the card ties them).
-/
import Derived.Test.YtcngnpkpaliflaaDoorLaid
import Derived.Test.YtcngnpkpaliflaaDoorL4
import Derived.WalkKit
import Derived.ProofKit
import Derived.OpenShut
import Derived.ShutString
import Derived.ChangeOld
import Derived.Below
import Derived.SizedLaws
namespace Go.Proofs.YtcngnpkpaliflaaDoor.hashCrcLinear
open Go.ChangeShapes Go.WideShapes Go.ChangeAt Go.RowKit
open Go.ChangeMaps (open_string shut_string)
set_option linter.unusedVariables false

theorem own : ownKnob Tryd.prog.godebug = none := by kernel_rfl
theorem laidOut : laidOutB Tryd.prog = true := by kernel_rfl

set_option maxRecDepth 100000 in
set_option maxHeartbeats 1000000 in
theorem contract (H : Type) (enc : TypeId × Value → H) (W : World) (base : Nat) (args : Array Value) (ds gs : List (DataW H)) (before : List MemPlace)
    (hval0 : ∀ (j : Nat) t v, Tryd.f9.params[j]? = some t → args[j]? = some v → Value.okWide Tryd.prog W .any base t v)
    (hW : DataW.Whole enc Tryd.prog Tryd.f9.params.toList Rows.hashCrcLinearSpec.vars false W args.toList ds gs before) (hL : laidMetH Tryd.prog Rows.hashCrcLinearRow.laid W)
    (hsz0 : (DataW.weightsEach Tryd.prog (Tryd.f9.params.toList ++ Rows.hashCrcLinearSpec.plain.varTypes Tryd.prog) (ds ++ gs)).all (· ≤ reachBytes) = true) :
    Calls Tryd.prog 9 args W fun e W' => ∃ v, e = .returned v ∧ Rows.hashCrcLinearSpec.post enc Tryd.prog Tryd.f9 false true false false W args v W' := by
  have hval : ∀ (j : Nat) t v, Tryd.f9.params[j]? = some t → args[j]? = some v → Value.okWide Tryd.prog W .any base t v := hval0
  have hsz : (DataW.weightsEach Tryd.prog (Tryd.f9.params.toList ++ Rows.hashCrcLinearSpec.plain.varTypes Tryd.prog) (ds ++ gs)).all (· ≤ reachBytes) = true := hsz0
  have hW' := hW
  obtain ⟨p, q, hA0, hV, rfl, hfz, hnd⟩ := hW
  have hA : DataW.TrodAll enc Tryd.prog W 0 (fun _ => true) true Tryd.f9.params.toList args.toList ds p := hA0
  rw [Tryd.params9] at hA hval hsz
  have hAll : DataW.TrodAll enc Tryd.prog W 0 (fun _ => true) true [22, 22, 22] args.toList ds p := hA
  obtain ⟨v0, vs0, d0, ds0, p0, q0, hargs, rfl, rfl, h0, r0⟩ := trodAll_cons hA
  obtain ⟨v1, vs1, d1, ds1, p1, q1, rfl, rfl, rfl, h1, r1⟩ := trodAll_cons r0
  obtain ⟨v2, vs2, d2, ds2, p2, q2, rfl, rfl, rfl, h2, r2⟩ := trodAll_cons r1
  obtain ⟨rfl, rfl, rfl⟩ := trodAll_nil r2
  obtain rfl : args = #[v0, v1, v2] := by cases args; simp_all
  obtain ⟨rfl, rfl⟩ := trodVars_none hV
  obtain ⟨a0, len0, cap0, css0, els0, sp0, rfl, nn0, ne0, R0, hc0, cp0, hd0, hE0⟩ := open_rows Tryd.underlying22 (hval 0 22 v0 rfl rfl) h0
  obtain ⟨xs0, rfl, rfl, x0⟩ := open_all (fun x : Int => [Value.int .u8 x]) (fun x => DataW.lit (.int .u8 x)) (fun x => (Lit.int .u8 x).wf = true) (fun cs d h => elem_int Tryd.underlying5 h) css0 els0 (by omega) hE0
  have R0 := R0.rows1 (by kernel_rfl)
  obtain ⟨tl0, R0b⟩ := Rd.u8s R0 x0
  rw [List.length_map] at nn0
  obtain ⟨a1, len1, cap1, css1, els1, sp1, rfl, nn1, ne1, R1, hc1, cp1, hd1, hE1⟩ := open_rows Tryd.underlying22 (hval 1 22 v1 rfl rfl) h1
  obtain ⟨xs1, rfl, rfl, x1⟩ := open_all (fun x : Int => [Value.int .u8 x]) (fun x => DataW.lit (.int .u8 x)) (fun x => (Lit.int .u8 x).wf = true) (fun cs d h => elem_int Tryd.underlying5 h) css1 els1 (by omega) hE1
  have R1 := R1.rows1 (by kernel_rfl)
  obtain ⟨tl1, R1b⟩ := Rd.u8s R1 x1
  rw [List.length_map] at nn1
  obtain ⟨a2, len2, cap2, css2, els2, sp2, rfl, nn2, ne2, R2, hc2, cp2, hd2, hE2⟩ := open_rows Tryd.underlying22 (hval 2 22 v2 rfl rfl) h2
  obtain ⟨xs2, rfl, rfl, x2⟩ := open_all (fun x : Int => [Value.int .u8 x]) (fun x => DataW.lit (.int .u8 x)) (fun x => (Lit.int .u8 x).wf = true) (fun cs d h => elem_int Tryd.underlying5 h) css2 els2 (by omega) hE2
  have R2 := R2.rows1 (by kernel_rfl)
  obtain ⟨tl2, R2b⟩ := Rd.u8s R2 x2
  rw [List.length_map] at nn2
  have hM := mem_laid hL
  refine (linear_walk a0 a1 a2 len0 len1 len2 cap0 cap1 cap2 tl0 tl1 tl2 W R0b R1b R2b hM).mono fun e W' ⟨he, bel⟩ => ?_
  subst he
  exact ⟨_, rfl, _, _, _, [], _, [], hW', trodAll_mk1 (shut_bool Tryd.underlying4 _), below_trodAll laidOut bel (by kernel_rfl) hAll, rfl, bel.frame _, fun h => by cases h⟩

theorem reads (os : Os) {H : Type} (enc : TypeId × Value → H) : ∃ places, DataW.whole enc Tryd.prog ((laidWorld os).forCall (fun _ _ => 0) ⟨#[], #[.slice none 0 0, .slice none 0 0, .slice none 0 0], []⟩).memory Tryd.f9.params.toList Rows.hashCrcLinearSpec.vars false (#[.slice none 0 0, .slice none 0 0, .slice none 0 0] : Array Value).toList 8 = some ([.nil, .nil, .nil], [], places) :=
  ⟨[], by kernel_rfl⟩

set_option maxRecDepth 100000 in
theorem lifted (os : Os) (started : os.Started) (H : Type) (enc : TypeId × Value → H) (F : Stop.Interp) :
    ReturnsInHanded {} Tryd.checked os 9 .any ((OpenSpec.ofChange Rows.hashCrcLinearSpec).preRow enc Tryd.prog Tryd.f9 Rows.hashCrcLinearRow.domain false Rows.hashCrcLinearRow.laid) (((OpenSpec.ofChange Rows.hashCrcLinearSpec).at F).post enc Tryd.prog Tryd.f9 false true false false) := by
  obtain ⟨places, hx⟩ := reads os enc
  refine returnsInHanded_of_row (C := Tryd.checked) (s := OpenSpec.ofChange Rows.hashCrcLinearSpec) own started (by kernel_rfl) Tryd.func9
    (witness_row_at (enc := enc) (C := Tryd.checked) false (laidWorld os) #[.slice none 0 0, .slice none 0 0, .slice none 0 0] rfl (by kernel_rfl) (by kernel_rfl) (by kernel_rfl)
      (OpenSpec.preRow_of_cond 8 hx (by kernel_rfl) (fun k hk => by cases hk) (by kernel_rfl) (laid_met os _))) ?_
  intro W base args ds gs before hval hW _ _ hsz hL _ _
  exact contract H enc W base args ds gs before hval hW hL hsz

theorem said : Rows.HashCrcLinearSaid :=
  OpenClaim.holds_of_cond 9 Tryd.f9 rfl rfl rfl rfl rfl rfl rfl ⟨rfl, rfl, rfl, rfl, rfl⟩ rfl rfl rfl rfl rfl (by kernel_rfl) Tryd.func9 (by kernel_rfl)
    (of_decide_eq_true (by kernel_rfl)) (by unfold Func.isWrapper; first | (rw [if_pos (by decide +kernel)]; kernel_rfl) | (rw [if_neg (by decide +kernel)]; exact ⟨rfl, rfl⟩))
    (fun os started H enc _ F => by rw [OpenClaim.pre_eq_preRow]; exact lifted os started H enc F)

theorem plain (f : FuncId) (fn : Func) (hf : Tryd.pinned.checked.prog.funcNamed "alum/alumlaw02.HashCrcLinear" = some f) (hfn : Tryd.pinned.checked.prog.funcs[f]? = some fn) :
    false = Tryd.pinned.checked.prog.looks [] ∧ ∀ (j : Nat) t, fn.params[j]? = some t → Tryd.pinned.checked.prog.wantsStandIn t = false := by
  obtain rfl : f = 9 := Option.some.inj ((show Tryd.prog.funcNamed "alum/alumlaw02.HashCrcLinear" = some 9 by kernel_rfl).symm.trans hf) |>.symm
  obtain rfl : fn = Tryd.f9 := (Option.some.inj (Tryd.func9.symm.trans hfn)).symm
  refine ⟨by kernel_rfl, fun j t ht => ?_⟩
  rw [Tryd.params9] at ht
  have hm := Array.mem_of_getElem? ht
  simp only [List.mem_toArray, List.mem_cons, List.not_mem_nil, or_false] at hm
  rcases hm with rfl | rfl | rfl
  · exact (show Tryd.prog.wantsStandIn 22 = false by kernel_rfl)
  · exact (show Tryd.prog.wantsStandIn 22 = false by kernel_rfl)
  · exact (show Tryd.prog.wantsStandIn 22 = false by kernel_rfl)

theorem proved : Rows.HashCrcLinearCardSaid :=
  Claim7.holds_tied_plain_at .later [] _ _ _ _ said (fun _ h => by cases h) (by kernel_rfl) (fun _ h => by cases h) hashCrcLinear_row_tie rfl ⟨rfl, rfl⟩ (by kernel_rfl) rfl plain (by kernel_rfl)
#print axioms proved
end Go.Proofs.YtcngnpkpaliflaaDoor.hashCrcLinear
