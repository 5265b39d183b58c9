/-
  No cell of these rows narrows 'for every input' (looked for: loops, veiled, ifaces, maps, wideKeys, modest, calm, conditions, laid).
  DERIVED. THE GIVEN ROWS OF THIS SEAT. 4 by the template 'for every input the law returns true; each argument reads behind the call as it read before'; 0 by the template 'total and deterministic' (their statements: YtkloafpoldmpkaaTotals.lean).
  GIVEN WITH THE SEED: the statements are not yours to turn. If you find one false, say at which input.
  Laid BY PROGRAM, IN A SANDBOX (cutbox-rows.mjs): the forced cells as the released guide's own fill.sh prints them over the translation b18bb69e80658f8e… (all of the seat's roots in one cut). By AI agents, Wed Nov 11 2026. No macro, syntax, notation, axiom, sorry.
-/
import Derived.Test.YtkloafpoldmpkaaChecked
import GoSem.Claim
import GoSem.ClaimJoined
import GoSem.ClaimMapViews
import Derived.JoinedTies
import Derived.KernelRfl
namespace Go.Proofs.Ytkloafpoldmpkaa
/- THE CELL 'sum', in the pinned program and in every row, IS THE sha256 OF THE DUMP (.gsa) THAT YtkloafpoldmpkaaProg.lean LOADS. Nothing in Lean hashes anything: it is a label: what it is worth is what the hold of that sum in a sandbox is worth. -/
noncomputable def Try.pinned : Pinned := { name := "ytkloafpoldmpkaa", sum := "b18bb69e80658f8eeb4f5eb7a59a41f242cb97b57d7c0111a8f1594f574cfae0", checked := Try.checked }
namespace Rows
def none {H : Type} : Left H := { results := [], args := [] }

/-- 'alumlaw28.GroupIsOneByOne': WHATEVER THE INPUT: true; the input reads as it did. -/
def groupIsOneByOneSpec : ChangeSpec := { name := "groupIsOneByOne", fn := fun _ => fun
  | [d1, d2, d3, d4] => { results := [.lit (.bool true)], args := [d1, d2, d3, d4] }
  | _ => none }
def groupIsOneByOneRow : OpenClaim := { program := "ytkloafpoldmpkaa", sum := "b18bb69e80658f8eeb4f5eb7a59a41f242cb97b57d7c0111a8f1594f574cfae0", func := "alum/alumlaw28.GroupIsOneByOne", spec := "groupIsOneByOne", apart := false }
def GroupIsOneByOneSaid : Prop := groupIsOneByOneRow.holds Try.pinned (OpenSpec.ofChange groupIsOneByOneSpec)

/-- ITS FALSE NEIGHBOUR: 'it returns false'. Refute it at one input. -/
def groupIsOneByOneWrong : ChangeSpec := { name := "groupIsOneByOne", fn := fun _ => fun
  | [d1, d2, d3, d4] => { results := [.lit (.bool false)], args := [d1, d2, d3, d4] }
  | _ => none }
def GroupIsOneByOneWrongFalsely : Prop := groupIsOneByOneRow.holds Try.pinned (OpenSpec.ofChange groupIsOneByOneWrong)

/-- 'alumlaw28.GroupIsPrompt': WHATEVER THE INPUT: true; the input reads as it did. -/
def groupIsPromptSpec : ChangeSpec := { name := "groupIsPrompt", fn := fun _ => fun
  | [d1, d2, d3, d4] => { results := [.lit (.bool true)], args := [d1, d2, d3, d4] }
  | _ => none }
def groupIsPromptRow : OpenClaim := { program := "ytkloafpoldmpkaa", sum := "b18bb69e80658f8eeb4f5eb7a59a41f242cb97b57d7c0111a8f1594f574cfae0", func := "alum/alumlaw28.GroupIsPrompt", spec := "groupIsPrompt", apart := false }
def GroupIsPromptSaid : Prop := groupIsPromptRow.holds Try.pinned (OpenSpec.ofChange groupIsPromptSpec)

/-- ITS FALSE NEIGHBOUR: 'it returns false'. Refute it at one input. -/
def groupIsPromptWrong : ChangeSpec := { name := "groupIsPrompt", fn := fun _ => fun
  | [d1, d2, d3, d4] => { results := [.lit (.bool false)], args := [d1, d2, d3, d4] }
  | _ => none }
def GroupIsPromptWrongFalsely : Prop := groupIsPromptRow.holds Try.pinned (OpenSpec.ofChange groupIsPromptWrong)

/-- 'alumlaw28.GroupMatchesSpec': WHATEVER THE INPUT: true; the input reads as it did. -/
def groupMatchesSpecSpec : ChangeSpec := { name := "groupMatchesSpec", fn := fun _ => fun
  | [d1, d2, d3, d4, d5, d6] => { results := [.lit (.bool true)], args := [d1, d2, d3, d4, d5, d6] }
  | _ => none }
def groupMatchesSpecRow : OpenClaim := { program := "ytkloafpoldmpkaa", sum := "b18bb69e80658f8eeb4f5eb7a59a41f242cb97b57d7c0111a8f1594f574cfae0", func := "alum/alumlaw28.GroupMatchesSpec", spec := "groupMatchesSpec", apart := false }
def GroupMatchesSpecSaid : Prop := groupMatchesSpecRow.holds Try.pinned (OpenSpec.ofChange groupMatchesSpecSpec)

/-- ITS FALSE NEIGHBOUR: 'it returns false'. Refute it at one input. -/
def groupMatchesSpecWrong : ChangeSpec := { name := "groupMatchesSpec", fn := fun _ => fun
  | [d1, d2, d3, d4, d5, d6] => { results := [.lit (.bool false)], args := [d1, d2, d3, d4, d5, d6] }
  | _ => none }
def GroupMatchesSpecWrongFalsely : Prop := groupMatchesSpecRow.holds Try.pinned (OpenSpec.ofChange groupMatchesSpecWrong)

/-- 'alumlaw28.GroupKeepsLimits': WHATEVER THE INPUT: true; the input reads as it did. -/
def groupKeepsLimitsSpec : ChangeSpec := { name := "groupKeepsLimits", fn := fun _ => fun
  | [d1, d2, d3, d4, d5] => { results := [.lit (.bool true)], args := [d1, d2, d3, d4, d5] }
  | _ => none }
def groupKeepsLimitsRow : OpenClaim := { program := "ytkloafpoldmpkaa", sum := "b18bb69e80658f8eeb4f5eb7a59a41f242cb97b57d7c0111a8f1594f574cfae0", func := "alum/alumlaw28.GroupKeepsLimits", spec := "groupKeepsLimits", apart := false }
def GroupKeepsLimitsSaid : Prop := groupKeepsLimitsRow.holds Try.pinned (OpenSpec.ofChange groupKeepsLimitsSpec)

/-- ITS FALSE NEIGHBOUR: 'it returns false'. Refute it at one input. -/
def groupKeepsLimitsWrong : ChangeSpec := { name := "groupKeepsLimits", fn := fun _ => fun
  | [d1, d2, d3, d4, d5] => { results := [.lit (.bool false)], args := [d1, d2, d3, d4, d5] }
  | _ => none }
def GroupKeepsLimitsWrongFalsely : Prop := groupKeepsLimitsRow.holds Try.pinned (OpenSpec.ofChange groupKeepsLimitsWrong)

/- THE SECOND FORM. 'bulk': how many values and letters a reading holds, each counted each time it is reached (what is shared counts as often as it is met; a slice's spare places count too). A statement '..UptoSaid' is the law's where the arguments, and the package variables that the reading takes, are together of bulk at most 1048576: NARROWER than '..Said'. Prove '..Said' where nothing that the law and all that it calls make is longer than what came in: it says more and counts as full. Else prove '..UptoSaid'. A law counts once. -/
mutual
def uptoBulk {H : Type} : DataW H → Nat
  | .lit (.string bytes) => bytes.length + 1
  | .lit _ => 1
  | .nil => 1
  | .ptr d => uptoBulk d + 1
  | .slice elems spare => uptoBulkAll elems + uptoBulkAll spare + 1
  | .agg parts => uptoBulkAll parts + 1
  | .iface _ d => uptoBulk d + 1
  | .map entries => uptoBulkEntries entries + 1
  | .held _ => 1
def uptoBulkAll {H : Type} : List (DataW H) → Nat
  | [] => 0
  | d :: r => uptoBulk d + uptoBulkAll r
def uptoBulkEntries {H : Type} : List (Lit × DataW H) → Nat
  | [] => 0
  | x :: r => uptoBulkEntry x + uptoBulkEntries r
def uptoBulkEntry {H : Type} : Lit × DataW H → Nat
  | (.string bytes, d) => bytes.length + uptoBulk d + 1
  | (_, d) => uptoBulk d + 1
 end
def uptoSmall : (H : Type) → List (DataW H) → Bool := fun _ ds => decide (uptoBulkAll ds ≤ 1048576)
def OpenSpec.upto (s : _root_.Go.ChangeSpec) : _root_.Go.OpenSpec := { _root_.Go.OpenSpec.ofChange s with cond := some uptoSmall }

/-- 'alumlaw28.GroupIsOneByOne', WHERE WHAT IT READS IS OF BULK AT MOST 1048576: true; the input reads as it did. -/
def groupIsOneByOneUptoRow : OpenClaim := { program := "ytkloafpoldmpkaa", sum := "b18bb69e80658f8eeb4f5eb7a59a41f242cb97b57d7c0111a8f1594f574cfae0", func := "alum/alumlaw28.GroupIsOneByOne", spec := "groupIsOneByOne", apart := false, narrowed := true }
def GroupIsOneByOneUptoSaid : Prop := groupIsOneByOneUptoRow.holds Try.pinned (OpenSpec.upto groupIsOneByOneSpec)

/-- 'alumlaw28.GroupIsPrompt', WHERE WHAT IT READS IS OF BULK AT MOST 1048576: true; the input reads as it did. -/
def groupIsPromptUptoRow : OpenClaim := { program := "ytkloafpoldmpkaa", sum := "b18bb69e80658f8eeb4f5eb7a59a41f242cb97b57d7c0111a8f1594f574cfae0", func := "alum/alumlaw28.GroupIsPrompt", spec := "groupIsPrompt", apart := false, narrowed := true }
def GroupIsPromptUptoSaid : Prop := groupIsPromptUptoRow.holds Try.pinned (OpenSpec.upto groupIsPromptSpec)

/-- 'alumlaw28.GroupMatchesSpec', WHERE WHAT IT READS IS OF BULK AT MOST 1048576: true; the input reads as it did. -/
def groupMatchesSpecUptoRow : OpenClaim := { program := "ytkloafpoldmpkaa", sum := "b18bb69e80658f8eeb4f5eb7a59a41f242cb97b57d7c0111a8f1594f574cfae0", func := "alum/alumlaw28.GroupMatchesSpec", spec := "groupMatchesSpec", apart := false, narrowed := true }
def GroupMatchesSpecUptoSaid : Prop := groupMatchesSpecUptoRow.holds Try.pinned (OpenSpec.upto groupMatchesSpecSpec)

/-- 'alumlaw28.GroupKeepsLimits', WHERE WHAT IT READS IS OF BULK AT MOST 1048576: true; the input reads as it did. -/
def groupKeepsLimitsUptoRow : OpenClaim := { program := "ytkloafpoldmpkaa", sum := "b18bb69e80658f8eeb4f5eb7a59a41f242cb97b57d7c0111a8f1594f574cfae0", func := "alum/alumlaw28.GroupKeepsLimits", spec := "groupKeepsLimits", apart := false, narrowed := true }
def GroupKeepsLimitsUptoSaid : Prop := groupKeepsLimitsUptoRow.holds Try.pinned (OpenSpec.upto groupKeepsLimitsSpec)

end Rows
end Go.Proofs.Ytkloafpoldmpkaa
