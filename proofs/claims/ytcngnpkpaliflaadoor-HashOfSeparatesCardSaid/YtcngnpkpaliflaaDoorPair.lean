/-
  An argument that is an array of two bytes. No condition.
-/
import Derived.Test.YtcngnpkpaliflaaDoorLaid
import Derived.Lib.SmallJoins
namespace Go.Proofs.YtcngnpkpaliflaaDoor
open Go.RowKit Go.WideShapes

section
variable {H : Type} {enc : TypeId × Value → H} {P : Program} {w : World}

theorem okWide_arr {t e : TypeId} {n b0 : Nat} {r : Reach} {v : Value} (ht : P.underlying t = some (.array n e)) (h : Value.okWide P w r b0 t v) : ∃ cs, v = .agg cs := by
  simp only [Value.okWide, ht] at h
  cases v <;> simp_all

theorem open_pair8 {t e : TypeId} {v : Value} {d : DataW H} {p : List MemPlace} (ht : P.underlying t = some (.array 2 e)) (he : P.underlying e = some (.int .u8)) (hc : P.cellsOf e = 1) (hct : P.cellsOf t = 2) {r : Reach} {b0 : Nat} (hv : Value.okWide P w r b0 t v) (h : DataW.Trod enc P w 0 (fun _ => true) true t v d p) :
    ∃ a b : Int, v = .agg #[.int .u8 a, .int .u8 b] ∧ (Lit.int .u8 a).wf = true ∧ (Lit.int .u8 b).wf = true := by
  obtain ⟨cs, rfl⟩ := okWide_arr ht hv
  obtain ⟨fuel, hf⟩ := h
  have hE : Elem enc P w t cs.toList d := ⟨fuel, p, by simpa [Value.cells] using hf⟩
  obtain ⟨hl, els, hn, rfl, hi⟩ := elem_array ht hc hE
  rw [hct] at hl
  match els, hn with
  | [x, y], _ =>
    obtain ⟨c0, c1, hcs⟩ : ∃ c0 c1, cs.toList = [c0, c1] := by
      match hm : cs.toList, hl with
      | [c0, c1], _ => exact ⟨c0, c1, rfl⟩
    have h0 := hi 0 (by simp)
    have h1 := hi 1 (by simp)
    rw [hcs] at h0 h1
    obtain ⟨a, ha, _, wa⟩ := elem_int he (by simpa using h0)
    obtain ⟨b, hb, _, wb⟩ := elem_int he (by simpa using h1)
    simp only [List.cons.injEq, and_true] at ha hb
    refine ⟨a, b, ?_, wa, wb⟩
    congr 1
    apply Array.ext'
    rw [hcs, ha, hb]
end
end Go.Proofs.YtcngnpkpaliflaaDoor
