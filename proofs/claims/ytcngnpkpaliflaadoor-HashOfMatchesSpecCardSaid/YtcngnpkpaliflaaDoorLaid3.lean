/-
  What the rows' lists give where the reference's constants are named too. No condition.
-/
import Derived.Test.YtcngnpkpaliflaaDoorL10
import Derived.Test.YtcngnpkpaliflaaDoorLaid
namespace Go.Proofs.YtcngnpkpaliflaaDoor
open Go.RowKit

theorem mem_laid3 {W : World} (h : laidMetH Tryd.prog [("alum/alumref02.constants", Rows.laid_alum_alumref02_constants), ("alum/hash.nibbles", Rows.laid_alum_hash_nibbles), ("alum/hash.constants", Rows.laid_alum_hash_constants)] W) : Mem3 W := by
  have h1 : laidMet Tryd.prog [("alum/alumref02.constants", Lib.tabData .u32 konZ), ("alum/hash.nibbles", Rows.laid_alum_hash_nibbles), ("alum/hash.constants", Rows.laid_alum_hash_constants)] W := h
  obtain ⟨ps, hv, _⟩ := h1
  obtain ⟨hk, q, hq⟩ := tab_cons (t := 73) (e := 49) (n := 64) gRef (by kernel_rfl) (by kernel_rfl) (by kernel_rfl) (by kernel_rfl) (by kernel_rfl) hv
  refine ⟨mem_of hq, fun t ht => ?_⟩
  have hc := hk.cell gRef t (by show t < 64; exact ht)
  rw [hc]
  have key : ∀ i : Fin 64, konZ.getD i.val 0 = ((kAt i.val).toNat : Int) := by decide +kernel
  rw [key ⟨t, ht⟩]
theorem laid_met3 (os : Os) (args : Array Value) : laidMet Tryd.prog [("alum/alumref02.constants", Rows.laid_alum_alumref02_constants), ("alum/hash.nibbles", Rows.laid_alum_hash_nibbles), ("alum/hash.constants", Rows.laid_alum_hash_constants)] ((laidWorld os).forCall (fun _ _ => 0) ⟨#[], args, []⟩).memory :=
  laidMet_of_run' 100 (by kernel_rfl) (by kernel_rfl)
end Go.Proofs.YtcngnpkpaliflaaDoor
