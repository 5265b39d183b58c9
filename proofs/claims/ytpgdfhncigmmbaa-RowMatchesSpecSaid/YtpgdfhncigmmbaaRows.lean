/-
  No cell of these rows narrows 'for every input' (looked for: loops, veiled, ifaces, maps, wideKeys, modest, calm, conditions, laid).
  DERIVED. THE GIVEN ROWS OF THIS SEAT. 7 by the template 'for every input the law returns true; each argument reads behind the call as it read before'; 0 by the template 'total and deterministic' (their statements: YtpgdfhncigmmbaaTotals.lean).
  GIVEN WITH THE SEED: the statements are not yours to turn. If you find one false, say at which input.
  Laid BY PROGRAM, IN A SANDBOX (cutbox-rows.mjs): the forced cells as the released guide's own fill.sh prints them over the translation 11775c3726f236ca… (all of the seat's roots in one cut). By AI agents, Wed Nov 11 2026. No macro, syntax, notation, axiom, sorry.
-/
import Derived.Test.YtpgdfhncigmmbaaChecked
import GoSem.Claim
import GoSem.ClaimJoined
import GoSem.ClaimMapViews
import Derived.JoinedTies
import Derived.KernelRfl
namespace Go.Proofs.Ytpgdfhncigmmbaa
/- THE CELL 'sum', in the pinned program and in every row, IS THE sha256 OF THE DUMP (.gsa) THAT YtpgdfhncigmmbaaProg.lean LOADS. Nothing in Lean hashes anything: it is a label: what it is worth is what the hold of that sum in a sandbox is worth. -/
noncomputable def Try.pinned : Pinned := { name := "ytpgdfhncigmmbaa", sum := "11775c3726f236ca9a6029f0eb876bc04d132a4fd092a88051de100cb1e8e034", checked := Try.checked }
namespace Rows
def none {H : Type} : Left H := { results := [], args := [] }

/-- 'alumlaw21.RowMatchesSpec': WHATEVER THE INPUT: true; the input reads as it did. -/
def rowMatchesSpecSpec : ChangeSpec := { name := "rowMatchesSpec", fn := fun _ => fun
  | [d1, d2, d3] => { results := [.lit (.bool true)], args := [d1, d2, d3] }
  | _ => none }
def rowMatchesSpecRow : OpenClaim := { program := "ytpgdfhncigmmbaa", sum := "11775c3726f236ca9a6029f0eb876bc04d132a4fd092a88051de100cb1e8e034", func := "alum/alumlaw21.RowMatchesSpec", spec := "rowMatchesSpec", inPlace := ["internal/bytealg.abigen_runtime_cmpstring"], unfollowed := true, recurses := true, apart := false }
def RowMatchesSpecSaid : Prop := rowMatchesSpecRow.holds Try.pinned (OpenSpec.ofChange rowMatchesSpecSpec)

/-- ITS FALSE NEIGHBOUR: 'it returns false'. Refute it at one input. -/
def rowMatchesSpecWrong : ChangeSpec := { name := "rowMatchesSpec", fn := fun _ => fun
  | [d1, d2, d3] => { results := [.lit (.bool false)], args := [d1, d2, d3] }
  | _ => none }
def RowMatchesSpecWrongFalsely : Prop := rowMatchesSpecRow.holds Try.pinned (OpenSpec.ofChange rowMatchesSpecWrong)

/-- 'alumlaw21.RowTextsMatchSpec': WHATEVER THE INPUT: true; the input reads as it did. -/
def rowTextsMatchSpecSpec : ChangeSpec := { name := "rowTextsMatchSpec", fn := fun _ => fun
  | [d1, d2, d3] => { results := [.lit (.bool true)], args := [d1, d2, d3] }
  | _ => none }
def rowTextsMatchSpecRow : OpenClaim := { program := "ytpgdfhncigmmbaa", sum := "11775c3726f236ca9a6029f0eb876bc04d132a4fd092a88051de100cb1e8e034", func := "alum/alumlaw21.RowTextsMatchSpec", spec := "rowTextsMatchSpec", inPlace := ["internal/bytealg.abigen_runtime_cmpstring"], unfollowed := true, recurses := true, apart := false }
def RowTextsMatchSpecSaid : Prop := rowTextsMatchSpecRow.holds Try.pinned (OpenSpec.ofChange rowTextsMatchSpecSpec)

/-- ITS FALSE NEIGHBOUR: 'it returns false'. Refute it at one input. -/
def rowTextsMatchSpecWrong : ChangeSpec := { name := "rowTextsMatchSpec", fn := fun _ => fun
  | [d1, d2, d3] => { results := [.lit (.bool false)], args := [d1, d2, d3] }
  | _ => none }
def RowTextsMatchSpecWrongFalsely : Prop := rowTextsMatchSpecRow.holds Try.pinned (OpenSpec.ofChange rowTextsMatchSpecWrong)

/-- 'alumlaw21.RowReadsWhatItWrote': WHATEVER THE INPUT: true; the input reads as it did. -/
def rowReadsWhatItWroteSpec : ChangeSpec := { name := "rowReadsWhatItWrote", fn := fun _ => fun
  | [d1, d2, d3, d4] => { results := [.lit (.bool true)], args := [d1, d2, d3, d4] }
  | _ => none }
def rowReadsWhatItWroteRow : OpenClaim := { program := "ytpgdfhncigmmbaa", sum := "11775c3726f236ca9a6029f0eb876bc04d132a4fd092a88051de100cb1e8e034", func := "alum/alumlaw21.RowReadsWhatItWrote", spec := "rowReadsWhatItWrote", inPlace := ["internal/bytealg.abigen_runtime_cmpstring"], unfollowed := true, recurses := true, apart := false }
def RowReadsWhatItWroteSaid : Prop := rowReadsWhatItWroteRow.holds Try.pinned (OpenSpec.ofChange rowReadsWhatItWroteSpec)

/-- ITS FALSE NEIGHBOUR: 'it returns false'. Refute it at one input. -/
def rowReadsWhatItWroteWrong : ChangeSpec := { name := "rowReadsWhatItWrote", fn := fun _ => fun
  | [d1, d2, d3, d4] => { results := [.lit (.bool false)], args := [d1, d2, d3, d4] }
  | _ => none }
def RowReadsWhatItWroteWrongFalsely : Prop := rowReadsWhatItWroteRow.holds Try.pinned (OpenSpec.ofChange rowReadsWhatItWroteWrong)

/-- 'alumlaw21.RowWordsAreUnique': WHATEVER THE INPUT: true; the input reads as it did. -/
def rowWordsAreUniqueSpec : ChangeSpec := { name := "rowWordsAreUnique", fn := fun _ => fun
  | [d1, d2, d3, d4] => { results := [.lit (.bool true)], args := [d1, d2, d3, d4] }
  | _ => none }
def rowWordsAreUniqueRow : OpenClaim := { program := "ytpgdfhncigmmbaa", sum := "11775c3726f236ca9a6029f0eb876bc04d132a4fd092a88051de100cb1e8e034", func := "alum/alumlaw21.RowWordsAreUnique", spec := "rowWordsAreUnique", inPlace := ["internal/bytealg.abigen_runtime_cmpstring"], unfollowed := true, recurses := true, apart := false }
def RowWordsAreUniqueSaid : Prop := rowWordsAreUniqueRow.holds Try.pinned (OpenSpec.ofChange rowWordsAreUniqueSpec)

/-- ITS FALSE NEIGHBOUR: 'it returns false'. Refute it at one input. -/
def rowWordsAreUniqueWrong : ChangeSpec := { name := "rowWordsAreUnique", fn := fun _ => fun
  | [d1, d2, d3, d4] => { results := [.lit (.bool false)], args := [d1, d2, d3, d4] }
  | _ => none }
def RowWordsAreUniqueWrongFalsely : Prop := rowWordsAreUniqueRow.holds Try.pinned (OpenSpec.ofChange rowWordsAreUniqueWrong)

/-- 'alumlaw21.RowPartsMatchSpec': WHATEVER THE INPUT: true; the input reads as it did. -/
def rowPartsMatchSpecSpec : ChangeSpec := { name := "rowPartsMatchSpec", fn := fun _ => fun
  | [d1, d2, d3, d4] => { results := [.lit (.bool true)], args := [d1, d2, d3, d4] }
  | _ => none }
def rowPartsMatchSpecRow : OpenClaim := { program := "ytpgdfhncigmmbaa", sum := "11775c3726f236ca9a6029f0eb876bc04d132a4fd092a88051de100cb1e8e034", func := "alum/alumlaw21.RowPartsMatchSpec", spec := "rowPartsMatchSpec", inPlace := ["internal/bytealg.abigen_runtime_cmpstring"], unfollowed := true, recurses := true, apart := false }
def RowPartsMatchSpecSaid : Prop := rowPartsMatchSpecRow.holds Try.pinned (OpenSpec.ofChange rowPartsMatchSpecSpec)

/-- ITS FALSE NEIGHBOUR: 'it returns false'. Refute it at one input. -/
def rowPartsMatchSpecWrong : ChangeSpec := { name := "rowPartsMatchSpec", fn := fun _ => fun
  | [d1, d2, d3, d4] => { results := [.lit (.bool false)], args := [d1, d2, d3, d4] }
  | _ => none }
def RowPartsMatchSpecWrongFalsely : Prop := rowPartsMatchSpecRow.holds Try.pinned (OpenSpec.ofChange rowPartsMatchSpecWrong)

/-- 'alumlaw21.RowUpdates': WHATEVER THE INPUT: true; the input reads as it did. -/
def rowUpdatesSpec : ChangeSpec := { name := "rowUpdates", fn := fun _ => fun
  | [d1, d2, d3, d4] => { results := [.lit (.bool true)], args := [d1, d2, d3, d4] }
  | _ => none }
def rowUpdatesRow : OpenClaim := { program := "ytpgdfhncigmmbaa", sum := "11775c3726f236ca9a6029f0eb876bc04d132a4fd092a88051de100cb1e8e034", func := "alum/alumlaw21.RowUpdates", spec := "rowUpdates", inPlace := ["internal/bytealg.abigen_runtime_cmpstring"], unfollowed := true, recurses := true, apart := false }
def RowUpdatesSaid : Prop := rowUpdatesRow.holds Try.pinned (OpenSpec.ofChange rowUpdatesSpec)

/-- ITS FALSE NEIGHBOUR: 'it returns false'. Refute it at one input. -/
def rowUpdatesWrong : ChangeSpec := { name := "rowUpdates", fn := fun _ => fun
  | [d1, d2, d3, d4] => { results := [.lit (.bool false)], args := [d1, d2, d3, d4] }
  | _ => none }
def RowUpdatesWrongFalsely : Prop := rowUpdatesRow.holds Try.pinned (OpenSpec.ofChange rowUpdatesWrong)

/-- 'alumlaw21.RowGrows': WHATEVER THE INPUT: true; the input reads as it did. -/
def rowGrowsSpec : ChangeSpec := { name := "rowGrows", fn := fun _ => fun
  | [d1, d2, d3] => { results := [.lit (.bool true)], args := [d1, d2, d3] }
  | _ => none }
def rowGrowsRow : OpenClaim := { program := "ytpgdfhncigmmbaa", sum := "11775c3726f236ca9a6029f0eb876bc04d132a4fd092a88051de100cb1e8e034", func := "alum/alumlaw21.RowGrows", spec := "rowGrows", inPlace := ["internal/bytealg.abigen_runtime_cmpstring"], unfollowed := true, recurses := true, apart := false }
def RowGrowsSaid : Prop := rowGrowsRow.holds Try.pinned (OpenSpec.ofChange rowGrowsSpec)

/-- ITS FALSE NEIGHBOUR: 'it returns false'. Refute it at one input. -/
def rowGrowsWrong : ChangeSpec := { name := "rowGrows", fn := fun _ => fun
  | [d1, d2, d3] => { results := [.lit (.bool false)], args := [d1, d2, d3] }
  | _ => none }
def RowGrowsWrongFalsely : Prop := rowGrowsRow.holds Try.pinned (OpenSpec.ofChange rowGrowsWrong)

/- THE SECOND FORM. 'bulk': how many values and letters a reading holds, each counted each time it is reached (what is shared counts as often as it is met; a slice's spare places count too). A statement '..UptoSaid' is the law's where the arguments, and the package variables that the reading takes, are together of bulk at most 1048576: NARROWER than '..Said'. Prove '..Said' where nothing that the law and all that it calls make is longer than what came in: it says more and counts as full. Else prove '..UptoSaid'. A law counts once. -/
mutual
def uptoBulk {H : Type} : DataW H → Nat
  | .lit (.string bytes) => bytes.length + 1
  | .lit _ => 1
  | .nil => 1
  | .ptr d => uptoBulk d + 1
  | .slice elems spare => uptoBulkAll elems + uptoBulkAll spare + 1
  | .agg parts => uptoBulkAll parts + 1
  | .iface _ d => uptoBulk d + 1
  | .map entries => uptoBulkEntries entries + 1
  | .held _ => 1
def uptoBulkAll {H : Type} : List (DataW H) → Nat
  | [] => 0
  | d :: r => uptoBulk d + uptoBulkAll r
def uptoBulkEntries {H : Type} : List (Lit × DataW H) → Nat
  | [] => 0
  | x :: r => uptoBulkEntry x + uptoBulkEntries r
def uptoBulkEntry {H : Type} : Lit × DataW H → Nat
  | (.string bytes, d) => bytes.length + uptoBulk d + 1
  | (_, d) => uptoBulk d + 1
 end
def uptoSmall : (H : Type) → List (DataW H) → Bool := fun _ ds => decide (uptoBulkAll ds ≤ 1048576)
def OpenSpec.upto (s : _root_.Go.ChangeSpec) : _root_.Go.OpenSpec := { _root_.Go.OpenSpec.ofChange s with cond := some uptoSmall }

/-- 'alumlaw21.RowMatchesSpec', WHERE WHAT IT READS IS OF BULK AT MOST 1048576: true; the input reads as it did. -/
def rowMatchesSpecUptoRow : OpenClaim := { program := "ytpgdfhncigmmbaa", sum := "11775c3726f236ca9a6029f0eb876bc04d132a4fd092a88051de100cb1e8e034", func := "alum/alumlaw21.RowMatchesSpec", spec := "rowMatchesSpec", inPlace := ["internal/bytealg.abigen_runtime_cmpstring"], unfollowed := true, recurses := true, apart := false, narrowed := true }
def RowMatchesSpecUptoSaid : Prop := rowMatchesSpecUptoRow.holds Try.pinned (OpenSpec.upto rowMatchesSpecSpec)

/-- 'alumlaw21.RowTextsMatchSpec', WHERE WHAT IT READS IS OF BULK AT MOST 1048576: true; the input reads as it did. -/
def rowTextsMatchSpecUptoRow : OpenClaim := { program := "ytpgdfhncigmmbaa", sum := "11775c3726f236ca9a6029f0eb876bc04d132a4fd092a88051de100cb1e8e034", func := "alum/alumlaw21.RowTextsMatchSpec", spec := "rowTextsMatchSpec", inPlace := ["internal/bytealg.abigen_runtime_cmpstring"], unfollowed := true, recurses := true, apart := false, narrowed := true }
def RowTextsMatchSpecUptoSaid : Prop := rowTextsMatchSpecUptoRow.holds Try.pinned (OpenSpec.upto rowTextsMatchSpecSpec)

/-- 'alumlaw21.RowReadsWhatItWrote', WHERE WHAT IT READS IS OF BULK AT MOST 1048576: true; the input reads as it did. -/
def rowReadsWhatItWroteUptoRow : OpenClaim := { program := "ytpgdfhncigmmbaa", sum := "11775c3726f236ca9a6029f0eb876bc04d132a4fd092a88051de100cb1e8e034", func := "alum/alumlaw21.RowReadsWhatItWrote", spec := "rowReadsWhatItWrote", inPlace := ["internal/bytealg.abigen_runtime_cmpstring"], unfollowed := true, recurses := true, apart := false, narrowed := true }
def RowReadsWhatItWroteUptoSaid : Prop := rowReadsWhatItWroteUptoRow.holds Try.pinned (OpenSpec.upto rowReadsWhatItWroteSpec)

/-- 'alumlaw21.RowWordsAreUnique', WHERE WHAT IT READS IS OF BULK AT MOST 1048576: true; the input reads as it did. -/
def rowWordsAreUniqueUptoRow : OpenClaim := { program := "ytpgdfhncigmmbaa", sum := "11775c3726f236ca9a6029f0eb876bc04d132a4fd092a88051de100cb1e8e034", func := "alum/alumlaw21.RowWordsAreUnique", spec := "rowWordsAreUnique", inPlace := ["internal/bytealg.abigen_runtime_cmpstring"], unfollowed := true, recurses := true, apart := false, narrowed := true }
def RowWordsAreUniqueUptoSaid : Prop := rowWordsAreUniqueUptoRow.holds Try.pinned (OpenSpec.upto rowWordsAreUniqueSpec)

/-- 'alumlaw21.RowPartsMatchSpec', WHERE WHAT IT READS IS OF BULK AT MOST 1048576: true; the input reads as it did. -/
def rowPartsMatchSpecUptoRow : OpenClaim := { program := "ytpgdfhncigmmbaa", sum := "11775c3726f236ca9a6029f0eb876bc04d132a4fd092a88051de100cb1e8e034", func := "alum/alumlaw21.RowPartsMatchSpec", spec := "rowPartsMatchSpec", inPlace := ["internal/bytealg.abigen_runtime_cmpstring"], unfollowed := true, recurses := true, apart := false, narrowed := true }
def RowPartsMatchSpecUptoSaid : Prop := rowPartsMatchSpecUptoRow.holds Try.pinned (OpenSpec.upto rowPartsMatchSpecSpec)

/-- 'alumlaw21.RowUpdates', WHERE WHAT IT READS IS OF BULK AT MOST 1048576: true; the input reads as it did. -/
def rowUpdatesUptoRow : OpenClaim := { program := "ytpgdfhncigmmbaa", sum := "11775c3726f236ca9a6029f0eb876bc04d132a4fd092a88051de100cb1e8e034", func := "alum/alumlaw21.RowUpdates", spec := "rowUpdates", inPlace := ["internal/bytealg.abigen_runtime_cmpstring"], unfollowed := true, recurses := true, apart := false, narrowed := true }
def RowUpdatesUptoSaid : Prop := rowUpdatesUptoRow.holds Try.pinned (OpenSpec.upto rowUpdatesSpec)

/-- 'alumlaw21.RowGrows', WHERE WHAT IT READS IS OF BULK AT MOST 1048576: true; the input reads as it did. -/
def rowGrowsUptoRow : OpenClaim := { program := "ytpgdfhncigmmbaa", sum := "11775c3726f236ca9a6029f0eb876bc04d132a4fd092a88051de100cb1e8e034", func := "alum/alumlaw21.RowGrows", spec := "rowGrows", inPlace := ["internal/bytealg.abigen_runtime_cmpstring"], unfollowed := true, recurses := true, apart := false, narrowed := true }
def RowGrowsUptoSaid : Prop := rowGrowsUptoRow.holds Try.pinned (OpenSpec.upto rowGrowsSpec)

end Rows
end Go.Proofs.Ytpgdfhncigmmbaa
