/-
  What the rows' lists give: the tables of package hash (and of the reference) lie in memory. No condition.
-/
import Derived.Test.YtcngnpkpaliflaaDoorWSane
import Derived.Test.YtcngnpkpaliflaaDoorCards
import Derived.Test.YtcngnpkpaliflaaDoorTie
import Derived.Deep.DeepHandedRow
import Derived.Lib.LaidTab
namespace Go.Proofs.YtcngnpkpaliflaaDoor
open Go.RowKit

theorem flat_one {α : Type} (f : α → Value) (xs : List α) : (xs.map fun x => [f x]).flatten = xs.map f := by
  induction xs with
  | nil => rfl
  | cons x xs ih => rw [List.map_cons, List.flatten_cons, ih]; rfl

theorem Rd.rows1 {w : World} {a : Option Addr} {len cap size : Nat} {α : Type} {f : α → Value} {xs : List α} (h : Rd w a len cap size ((xs.map fun x => [f x]).flatten)) (hs : size = 1) : Rd w a len cap 1 (xs.map f) := by
  subst hs; rw [flat_one] at h; exact h

theorem tab_cons {P : Program} {W : World} {name : String} {k : IntKind} {zs : List Int} {rest : List (String × DataW Unit)} {ps : List MemPlace} {g : Nat} {t e : TypeId} {n : Nat}
    (hg : P.globalNamed name = some g) (hty : (P.globals[g]?).map (·.type) = some t) (ht : P.underlying t = some (.array n e)) (he : P.underlying e = some (.int k)) (hce : P.cellsOf e = 1) (hct : P.cellsOf t = n)
    (h : DataW.LaidVars P W ((name, Lib.tabData k zs) :: rest) ps) : Lib.TabIs P W name k zs ∧ ∃ q, DataW.LaidVars P W rest q := by
  obtain ⟨g', t', cs, fuel, p, q, hg', ht', hvar, hd, hr, _⟩ := h
  obtain rfl := Option.some.inj (hg.symm.trans hg')
  obtain rfl := Option.some.inj (hty.symm.trans ht')
  refine ⟨?_, q, hr⟩
  unfold Lib.TabIs
  rw [hvar, ← Lib.cells_of_tab ht he hce hct hd]

def nibZ : List Int := nibT.map Int.ofNat
def konZ : List Int := kN.map Int.ofNat
theorem gNib : Tryd.prog.globalNamed "alum/hash.nibbles" = some 1 := by kernel_rfl
theorem gKon : Tryd.prog.globalNamed "alum/hash.constants" = some 2 := by kernel_rfl
theorem gRef : Tryd.prog.globalNamed "alum/alumref02.constants" = some 0 := by kernel_rfl

theorem mem_of {W : World} {ps : List MemPlace} (h : DataW.LaidVars Tryd.prog W [("alum/hash.nibbles", Rows.laid_alum_hash_nibbles), ("alum/hash.constants", Rows.laid_alum_hash_constants)] ps) : Mem W := by
  have h1 : DataW.LaidVars Tryd.prog W [("alum/hash.nibbles", Lib.tabData .u64 nibZ), ("alum/hash.constants", Lib.tabData .u32 konZ)] ps := h
  obtain ⟨hn, q, hq⟩ := tab_cons (t := 79) (e := 28) (n := 16) gNib (by kernel_rfl) (by kernel_rfl) (by kernel_rfl) (by kernel_rfl) (by kernel_rfl) h1
  obtain ⟨hk, _, _⟩ := tab_cons (t := 73) (e := 49) (n := 64) gKon (by kernel_rfl) (by kernel_rfl) (by kernel_rfl) (by kernel_rfl) (by kernel_rfl) hq
  have hK : Kons W := by
    intro j u hu
    have hj : j < 64 := by have := (List.getElem?_eq_some_iff.1 hu).1; simpa [wordVals] using this
    have hc := hk.cell gKon j (by show j < 64; exact hj)
    rw [hc, ← hu]
    have key : ∀ i : Fin 64, konZ.getD i.val 0 = ((kAt i.val).toNat : Int) := by decide +kernel
    rw [key ⟨j, hj⟩]
    simp [wordVals, hj]
  refine ⟨⟨fun i hi => ?_, ?_⟩, hK⟩
  · rw [hn.cell gNib i (by show i < 16; exact hi)]
    have key : ∀ i : Fin 16, nibZ.getD i.val 0 = ((nibT.getD i.val 0 : Nat) : Int) := by decide +kernel
    rw [key ⟨i, hi⟩]
  · have hc := hk.cell gKon 0 (by decide)
    have := cell_block_lt hc
    simp only at this
    omega

theorem mem_laid {W : World} (h : laidMetH Tryd.prog [("alum/hash.nibbles", Rows.laid_alum_hash_nibbles), ("alum/hash.constants", Rows.laid_alum_hash_constants)] W) : Mem W := by
  have h1 : laidMet Tryd.prog [("alum/hash.nibbles", Rows.laid_alum_hash_nibbles), ("alum/hash.constants", Rows.laid_alum_hash_constants)] W := h
  obtain ⟨ps, hv, _⟩ := h1
  exact mem_of hv

/-- A block whose cells are turned. -/
noncomputable def refill (cs : Array Value) : Obj → Obj
  | .cells _ t frozen => .cells cs t frozen
  | o => o
/-- A world for the witness: the tables hold what their initialisers lay. -/
noncomputable def laidWorld (os : Os) : World :=
  { World.holding Tryd.prog os ⟨#[], #[], []⟩ with heap := (((World.holding Tryd.prog os ⟨#[], #[], []⟩).heap.modify 0 (refill (konZ.map (Value.int .u32)).toArray)).modify 1 (refill (nibZ.map (Value.int .u64)).toArray)).modify 2 (refill (konZ.map (Value.int .u32)).toArray) }
theorem laid_met (os : Os) (args : Array Value) : laidMet Tryd.prog [("alum/hash.nibbles", Rows.laid_alum_hash_nibbles), ("alum/hash.constants", Rows.laid_alum_hash_constants)] ((laidWorld os).forCall (fun _ _ => 0) ⟨#[], args, []⟩).memory :=
  laidMet_of_run' 100 (by kernel_rfl) (by kernel_rfl)
end Go.Proofs.YtcngnpkpaliflaaDoor
