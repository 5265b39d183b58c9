/-
  No cell of these rows narrows 'for every input' (looked for: loops, veiled, ifaces, maps, wideKeys, modest, calm, conditions, laid).
  DERIVED. THE GIVEN ROWS OF THIS SEAT. 12 by the template 'for every input the law returns true; each argument reads behind the call as it read before'; 0 by the template 'total and deterministic' (their statements: YtgimkipekoabbaaTotals.lean).
  GIVEN WITH THE SEED: the statements are not yours to turn. If you find one false, say at which input.
  Laid BY PROGRAM, IN A SANDBOX (cutbox-rows.mjs): the forced cells as the released guide's own fill.sh prints them over the translation d7f8fbdac5f15584… (all of the seat's roots in one cut). By AI agents, Wed Nov 11 2026. No macro, syntax, notation, axiom, sorry.
-/
import Derived.Test.YtgimkipekoabbaaChecked
import GoSem.Claim
import GoSem.ClaimJoined
import GoSem.ClaimMapViews
import Derived.JoinedTies
import Derived.KernelRfl
namespace Go.Proofs.Ytgimkipekoabbaa
/- THE CELL 'sum', in the pinned program and in every row, IS THE sha256 OF THE DUMP (.gsa) THAT YtgimkipekoabbaaProg.lean LOADS. Nothing in Lean hashes anything: it is a label: what it is worth is what the hold of that sum in a sandbox is worth. -/
noncomputable def Try.pinned : Pinned := { name := "ytgimkipekoabbaa", sum := "d7f8fbdac5f15584c49ec03f29b60d2ef8e470d744ed5c9e6506737fb2956e92", checked := Try.checked }
namespace Rows
def none {H : Type} : Left H := { results := [], args := [] }

/-- 'alumlaw20.SchemaNameMatchesSpec': WHATEVER THE INPUT: true; the input reads as it did. -/
def schemaNameMatchesSpecSpec : ChangeSpec := { name := "schemaNameMatchesSpec", fn := fun _ => fun
  | [d] => { results := [.lit (.bool true)], args := [d] }
  | _ => none }
def schemaNameMatchesSpecRow : OpenClaim := { program := "ytgimkipekoabbaa", sum := "d7f8fbdac5f15584c49ec03f29b60d2ef8e470d744ed5c9e6506737fb2956e92", func := "alum/alumlaw20.SchemaNameMatchesSpec", spec := "schemaNameMatchesSpec", unfollowed := true, recurses := true, apart := false }
def SchemaNameMatchesSpecSaid : Prop := schemaNameMatchesSpecRow.holds Try.pinned (OpenSpec.ofChange schemaNameMatchesSpecSpec)

/-- ITS FALSE NEIGHBOUR: 'it returns false'. Refute it at one input. -/
def schemaNameMatchesSpecWrong : ChangeSpec := { name := "schemaNameMatchesSpec", fn := fun _ => fun
  | [d] => { results := [.lit (.bool false)], args := [d] }
  | _ => none }
def SchemaNameMatchesSpecWrongFalsely : Prop := schemaNameMatchesSpecRow.holds Try.pinned (OpenSpec.ofChange schemaNameMatchesSpecWrong)

/-- 'alumlaw20.SchemaCheckMatchesSpec': WHATEVER THE INPUT: true; the input reads as it did. -/
def schemaCheckMatchesSpecSpec : ChangeSpec := { name := "schemaCheckMatchesSpec", fn := fun _ => fun
  | [d] => { results := [.lit (.bool true)], args := [d] }
  | _ => none }
def schemaCheckMatchesSpecRow : OpenClaim := { program := "ytgimkipekoabbaa", sum := "d7f8fbdac5f15584c49ec03f29b60d2ef8e470d744ed5c9e6506737fb2956e92", func := "alum/alumlaw20.SchemaCheckMatchesSpec", spec := "schemaCheckMatchesSpec", unfollowed := true, recurses := true, apart := false }
def SchemaCheckMatchesSpecSaid : Prop := schemaCheckMatchesSpecRow.holds Try.pinned (OpenSpec.ofChange schemaCheckMatchesSpecSpec)

/-- ITS FALSE NEIGHBOUR: 'it returns false'. Refute it at one input. -/
def schemaCheckMatchesSpecWrong : ChangeSpec := { name := "schemaCheckMatchesSpec", fn := fun _ => fun
  | [d] => { results := [.lit (.bool false)], args := [d] }
  | _ => none }
def SchemaCheckMatchesSpecWrongFalsely : Prop := schemaCheckMatchesSpecRow.holds Try.pinned (OpenSpec.ofChange schemaCheckMatchesSpecWrong)

/-- 'alumlaw20.SchemaWordsMatchSpec': WHATEVER THE INPUT: true; the input reads as it did. -/
def schemaWordsMatchSpecSpec : ChangeSpec := { name := "schemaWordsMatchSpec", fn := fun _ => fun
  | [d] => { results := [.lit (.bool true)], args := [d] }
  | _ => none }
def schemaWordsMatchSpecRow : OpenClaim := { program := "ytgimkipekoabbaa", sum := "d7f8fbdac5f15584c49ec03f29b60d2ef8e470d744ed5c9e6506737fb2956e92", func := "alum/alumlaw20.SchemaWordsMatchSpec", spec := "schemaWordsMatchSpec", unfollowed := true, recurses := true, apart := false }
def SchemaWordsMatchSpecSaid : Prop := schemaWordsMatchSpecRow.holds Try.pinned (OpenSpec.ofChange schemaWordsMatchSpecSpec)

/-- ITS FALSE NEIGHBOUR: 'it returns false'. Refute it at one input. -/
def schemaWordsMatchSpecWrong : ChangeSpec := { name := "schemaWordsMatchSpec", fn := fun _ => fun
  | [d] => { results := [.lit (.bool false)], args := [d] }
  | _ => none }
def SchemaWordsMatchSpecWrongFalsely : Prop := schemaWordsMatchSpecRow.holds Try.pinned (OpenSpec.ofChange schemaWordsMatchSpecWrong)

/-- 'alumlaw20.SchemaChecksAreSeparate': WHATEVER THE INPUT: true; the input reads as it did. -/
def schemaChecksAreSeparateSpec : ChangeSpec := { name := "schemaChecksAreSeparate", fn := fun _ => fun
  | [d1, d2] => { results := [.lit (.bool true)], args := [d1, d2] }
  | _ => none }
def schemaChecksAreSeparateRow : OpenClaim := { program := "ytgimkipekoabbaa", sum := "d7f8fbdac5f15584c49ec03f29b60d2ef8e470d744ed5c9e6506737fb2956e92", func := "alum/alumlaw20.SchemaChecksAreSeparate", spec := "schemaChecksAreSeparate", unfollowed := true, recurses := true, apart := false }
def SchemaChecksAreSeparateSaid : Prop := schemaChecksAreSeparateRow.holds Try.pinned (OpenSpec.ofChange schemaChecksAreSeparateSpec)

/-- ITS FALSE NEIGHBOUR: 'it returns false'. Refute it at one input. -/
def schemaChecksAreSeparateWrong : ChangeSpec := { name := "schemaChecksAreSeparate", fn := fun _ => fun
  | [d1, d2] => { results := [.lit (.bool false)], args := [d1, d2] }
  | _ => none }
def SchemaChecksAreSeparateWrongFalsely : Prop := schemaChecksAreSeparateRow.holds Try.pinned (OpenSpec.ofChange schemaChecksAreSeparateWrong)

/-- 'alumlaw20.SchemaFindsMatchSpec': WHATEVER THE INPUT: true; the input reads as it did. -/
def schemaFindsMatchSpecSpec : ChangeSpec := { name := "schemaFindsMatchSpec", fn := fun _ => fun
  | [d1, d2] => { results := [.lit (.bool true)], args := [d1, d2] }
  | _ => none }
def schemaFindsMatchSpecRow : OpenClaim := { program := "ytgimkipekoabbaa", sum := "d7f8fbdac5f15584c49ec03f29b60d2ef8e470d744ed5c9e6506737fb2956e92", func := "alum/alumlaw20.SchemaFindsMatchSpec", spec := "schemaFindsMatchSpec", unfollowed := true, recurses := true, apart := false }
def SchemaFindsMatchSpecSaid : Prop := schemaFindsMatchSpecRow.holds Try.pinned (OpenSpec.ofChange schemaFindsMatchSpecSpec)

/-- ITS FALSE NEIGHBOUR: 'it returns false'. Refute it at one input. -/
def schemaFindsMatchSpecWrong : ChangeSpec := { name := "schemaFindsMatchSpec", fn := fun _ => fun
  | [d1, d2] => { results := [.lit (.bool false)], args := [d1, d2] }
  | _ => none }
def SchemaFindsMatchSpecWrongFalsely : Prop := schemaFindsMatchSpecRow.holds Try.pinned (OpenSpec.ofChange schemaFindsMatchSpecWrong)

/-- 'alumlaw20.SchemaFitsMatchesSpec': WHATEVER THE INPUT: true; the input reads as it did. -/
def schemaFitsMatchesSpecSpec : ChangeSpec := { name := "schemaFitsMatchesSpec", fn := fun _ => fun
  | [d1, d2] => { results := [.lit (.bool true)], args := [d1, d2] }
  | _ => none }
def schemaFitsMatchesSpecRow : OpenClaim := { program := "ytgimkipekoabbaa", sum := "d7f8fbdac5f15584c49ec03f29b60d2ef8e470d744ed5c9e6506737fb2956e92", func := "alum/alumlaw20.SchemaFitsMatchesSpec", spec := "schemaFitsMatchesSpec", unfollowed := true, recurses := true, apart := false }
def SchemaFitsMatchesSpecSaid : Prop := schemaFitsMatchesSpecRow.holds Try.pinned (OpenSpec.ofChange schemaFitsMatchesSpecSpec)

/-- ITS FALSE NEIGHBOUR: 'it returns false'. Refute it at one input. -/
def schemaFitsMatchesSpecWrong : ChangeSpec := { name := "schemaFitsMatchesSpec", fn := fun _ => fun
  | [d1, d2] => { results := [.lit (.bool false)], args := [d1, d2] }
  | _ => none }
def SchemaFitsMatchesSpecWrongFalsely : Prop := schemaFitsMatchesSpecRow.holds Try.pinned (OpenSpec.ofChange schemaFitsMatchesSpecWrong)

/-- 'alumlaw20.SchemaColumnsExtend': WHATEVER THE INPUT: true; the input reads as it did. -/
def schemaColumnsExtendSpec : ChangeSpec := { name := "schemaColumnsExtend", fn := fun _ => fun
  | [d1, d2, d3] => { results := [.lit (.bool true)], args := [d1, d2, d3] }
  | _ => none }
def schemaColumnsExtendRow : OpenClaim := { program := "ytgimkipekoabbaa", sum := "d7f8fbdac5f15584c49ec03f29b60d2ef8e470d744ed5c9e6506737fb2956e92", func := "alum/alumlaw20.SchemaColumnsExtend", spec := "schemaColumnsExtend", unfollowed := true, recurses := true, apart := false }
def SchemaColumnsExtendSaid : Prop := schemaColumnsExtendRow.holds Try.pinned (OpenSpec.ofChange schemaColumnsExtendSpec)

/-- ITS FALSE NEIGHBOUR: 'it returns false'. Refute it at one input. -/
def schemaColumnsExtendWrong : ChangeSpec := { name := "schemaColumnsExtend", fn := fun _ => fun
  | [d1, d2, d3] => { results := [.lit (.bool false)], args := [d1, d2, d3] }
  | _ => none }
def SchemaColumnsExtendWrongFalsely : Prop := schemaColumnsExtendRow.holds Try.pinned (OpenSpec.ofChange schemaColumnsExtendWrong)

/-- 'alumlaw20.SchemaIndexesChangeNoRow': WHATEVER THE INPUT: true; the input reads as it did. -/
def schemaIndexesChangeNoRowSpec : ChangeSpec := { name := "schemaIndexesChangeNoRow", fn := fun _ => fun
  | [d1, d2, d3] => { results := [.lit (.bool true)], args := [d1, d2, d3] }
  | _ => none }
def schemaIndexesChangeNoRowRow : OpenClaim := { program := "ytgimkipekoabbaa", sum := "d7f8fbdac5f15584c49ec03f29b60d2ef8e470d744ed5c9e6506737fb2956e92", func := "alum/alumlaw20.SchemaIndexesChangeNoRow", spec := "schemaIndexesChangeNoRow", unfollowed := true, recurses := true, apart := false }
def SchemaIndexesChangeNoRowSaid : Prop := schemaIndexesChangeNoRowRow.holds Try.pinned (OpenSpec.ofChange schemaIndexesChangeNoRowSpec)

/-- ITS FALSE NEIGHBOUR: 'it returns false'. Refute it at one input. -/
def schemaIndexesChangeNoRowWrong : ChangeSpec := { name := "schemaIndexesChangeNoRow", fn := fun _ => fun
  | [d1, d2, d3] => { results := [.lit (.bool false)], args := [d1, d2, d3] }
  | _ => none }
def SchemaIndexesChangeNoRowWrongFalsely : Prop := schemaIndexesChangeNoRowRow.holds Try.pinned (OpenSpec.ofChange schemaIndexesChangeNoRowWrong)

/-- 'alumlaw20.SchemaChangesMatchSpec': WHATEVER THE INPUT: true; the input reads as it did. -/
def schemaChangesMatchSpecSpec : ChangeSpec := { name := "schemaChangesMatchSpec", fn := fun _ => fun
  | [d1, d2, d3, d4] => { results := [.lit (.bool true)], args := [d1, d2, d3, d4] }
  | _ => none }
def schemaChangesMatchSpecRow : OpenClaim := { program := "ytgimkipekoabbaa", sum := "d7f8fbdac5f15584c49ec03f29b60d2ef8e470d744ed5c9e6506737fb2956e92", func := "alum/alumlaw20.SchemaChangesMatchSpec", spec := "schemaChangesMatchSpec", unfollowed := true, recurses := true, apart := false }
def SchemaChangesMatchSpecSaid : Prop := schemaChangesMatchSpecRow.holds Try.pinned (OpenSpec.ofChange schemaChangesMatchSpecSpec)

/-- ITS FALSE NEIGHBOUR: 'it returns false'. Refute it at one input. -/
def schemaChangesMatchSpecWrong : ChangeSpec := { name := "schemaChangesMatchSpec", fn := fun _ => fun
  | [d1, d2, d3, d4] => { results := [.lit (.bool false)], args := [d1, d2, d3, d4] }
  | _ => none }
def SchemaChangesMatchSpecWrongFalsely : Prop := schemaChangesMatchSpecRow.holds Try.pinned (OpenSpec.ofChange schemaChangesMatchSpecWrong)

/-- 'alumlaw20.SchemaParseMatchesSpec': WHATEVER THE INPUT: true; the input reads as it did. -/
def schemaParseMatchesSpecSpec : ChangeSpec := { name := "schemaParseMatchesSpec", fn := fun _ => fun
  | [d] => { results := [.lit (.bool true)], args := [d] }
  | _ => none }
def schemaParseMatchesSpecRow : OpenClaim := { program := "ytgimkipekoabbaa", sum := "d7f8fbdac5f15584c49ec03f29b60d2ef8e470d744ed5c9e6506737fb2956e92", func := "alum/alumlaw20.SchemaParseMatchesSpec", spec := "schemaParseMatchesSpec", unfollowed := true, recurses := true, apart := false }
def SchemaParseMatchesSpecSaid : Prop := schemaParseMatchesSpecRow.holds Try.pinned (OpenSpec.ofChange schemaParseMatchesSpecSpec)

/-- ITS FALSE NEIGHBOUR: 'it returns false'. Refute it at one input. -/
def schemaParseMatchesSpecWrong : ChangeSpec := { name := "schemaParseMatchesSpec", fn := fun _ => fun
  | [d] => { results := [.lit (.bool false)], args := [d] }
  | _ => none }
def SchemaParseMatchesSpecWrongFalsely : Prop := schemaParseMatchesSpecRow.holds Try.pinned (OpenSpec.ofChange schemaParseMatchesSpecWrong)

/-- 'alumlaw20.SchemaWordsRoundTrip': WHATEVER THE INPUT: true; the input reads as it did. -/
def schemaWordsRoundTripSpec : ChangeSpec := { name := "schemaWordsRoundTrip", fn := fun _ => fun
  | [d] => { results := [.lit (.bool true)], args := [d] }
  | _ => none }
def schemaWordsRoundTripRow : OpenClaim := { program := "ytgimkipekoabbaa", sum := "d7f8fbdac5f15584c49ec03f29b60d2ef8e470d744ed5c9e6506737fb2956e92", func := "alum/alumlaw20.SchemaWordsRoundTrip", spec := "schemaWordsRoundTrip", unfollowed := true, recurses := true, apart := false }
def SchemaWordsRoundTripSaid : Prop := schemaWordsRoundTripRow.holds Try.pinned (OpenSpec.ofChange schemaWordsRoundTripSpec)

/-- ITS FALSE NEIGHBOUR: 'it returns false'. Refute it at one input. -/
def schemaWordsRoundTripWrong : ChangeSpec := { name := "schemaWordsRoundTrip", fn := fun _ => fun
  | [d] => { results := [.lit (.bool false)], args := [d] }
  | _ => none }
def SchemaWordsRoundTripWrongFalsely : Prop := schemaWordsRoundTripRow.holds Try.pinned (OpenSpec.ofChange schemaWordsRoundTripWrong)

/-- 'alumlaw20.SchemaParsedIsWords': WHATEVER THE INPUT: true; the input reads as it did. -/
def schemaParsedIsWordsSpec : ChangeSpec := { name := "schemaParsedIsWords", fn := fun _ => fun
  | [d] => { results := [.lit (.bool true)], args := [d] }
  | _ => none }
def schemaParsedIsWordsRow : OpenClaim := { program := "ytgimkipekoabbaa", sum := "d7f8fbdac5f15584c49ec03f29b60d2ef8e470d744ed5c9e6506737fb2956e92", func := "alum/alumlaw20.SchemaParsedIsWords", spec := "schemaParsedIsWords", unfollowed := true, recurses := true, apart := false }
def SchemaParsedIsWordsSaid : Prop := schemaParsedIsWordsRow.holds Try.pinned (OpenSpec.ofChange schemaParsedIsWordsSpec)

/-- ITS FALSE NEIGHBOUR: 'it returns false'. Refute it at one input. -/
def schemaParsedIsWordsWrong : ChangeSpec := { name := "schemaParsedIsWords", fn := fun _ => fun
  | [d] => { results := [.lit (.bool false)], args := [d] }
  | _ => none }
def SchemaParsedIsWordsWrongFalsely : Prop := schemaParsedIsWordsRow.holds Try.pinned (OpenSpec.ofChange schemaParsedIsWordsWrong)

/- THE SECOND FORM. 'bulk': how many values and letters a reading holds, each counted each time it is reached (what is shared counts as often as it is met; a slice's spare places count too). A statement '..UptoSaid' is the law's where the arguments, and the package variables that the reading takes, are together of bulk at most 1048576: NARROWER than '..Said'. Prove '..Said' where nothing that the law and all that it calls make is longer than what came in: it says more and counts as full. Else prove '..UptoSaid'. A law counts once. -/
mutual
def uptoBulk {H : Type} : DataW H → Nat
  | .lit (.string bytes) => bytes.length + 1
  | .lit _ => 1
  | .nil => 1
  | .ptr d => uptoBulk d + 1
  | .slice elems spare => uptoBulkAll elems + uptoBulkAll spare + 1
  | .agg parts => uptoBulkAll parts + 1
  | .iface _ d => uptoBulk d + 1
  | .map entries => uptoBulkEntries entries + 1
  | .held _ => 1
def uptoBulkAll {H : Type} : List (DataW H) → Nat
  | [] => 0
  | d :: r => uptoBulk d + uptoBulkAll r
def uptoBulkEntries {H : Type} : List (Lit × DataW H) → Nat
  | [] => 0
  | x :: r => uptoBulkEntry x + uptoBulkEntries r
def uptoBulkEntry {H : Type} : Lit × DataW H → Nat
  | (.string bytes, d) => bytes.length + uptoBulk d + 1
  | (_, d) => uptoBulk d + 1
 end
def uptoSmall : (H : Type) → List (DataW H) → Bool := fun _ ds => decide (uptoBulkAll ds ≤ 1048576)
def OpenSpec.upto (s : _root_.Go.ChangeSpec) : _root_.Go.OpenSpec := { _root_.Go.OpenSpec.ofChange s with cond := some uptoSmall }

/-- 'alumlaw20.SchemaNameMatchesSpec', WHERE WHAT IT READS IS OF BULK AT MOST 1048576: true; the input reads as it did. -/
def schemaNameMatchesSpecUptoRow : OpenClaim := { program := "ytgimkipekoabbaa", sum := "d7f8fbdac5f15584c49ec03f29b60d2ef8e470d744ed5c9e6506737fb2956e92", func := "alum/alumlaw20.SchemaNameMatchesSpec", spec := "schemaNameMatchesSpec", unfollowed := true, recurses := true, apart := false, narrowed := true }
def SchemaNameMatchesSpecUptoSaid : Prop := schemaNameMatchesSpecUptoRow.holds Try.pinned (OpenSpec.upto schemaNameMatchesSpecSpec)

/-- 'alumlaw20.SchemaCheckMatchesSpec', WHERE WHAT IT READS IS OF BULK AT MOST 1048576: true; the input reads as it did. -/
def schemaCheckMatchesSpecUptoRow : OpenClaim := { program := "ytgimkipekoabbaa", sum := "d7f8fbdac5f15584c49ec03f29b60d2ef8e470d744ed5c9e6506737fb2956e92", func := "alum/alumlaw20.SchemaCheckMatchesSpec", spec := "schemaCheckMatchesSpec", unfollowed := true, recurses := true, apart := false, narrowed := true }
def SchemaCheckMatchesSpecUptoSaid : Prop := schemaCheckMatchesSpecUptoRow.holds Try.pinned (OpenSpec.upto schemaCheckMatchesSpecSpec)

/-- 'alumlaw20.SchemaWordsMatchSpec', WHERE WHAT IT READS IS OF BULK AT MOST 1048576: true; the input reads as it did. -/
def schemaWordsMatchSpecUptoRow : OpenClaim := { program := "ytgimkipekoabbaa", sum := "d7f8fbdac5f15584c49ec03f29b60d2ef8e470d744ed5c9e6506737fb2956e92", func := "alum/alumlaw20.SchemaWordsMatchSpec", spec := "schemaWordsMatchSpec", unfollowed := true, recurses := true, apart := false, narrowed := true }
def SchemaWordsMatchSpecUptoSaid : Prop := schemaWordsMatchSpecUptoRow.holds Try.pinned (OpenSpec.upto schemaWordsMatchSpecSpec)

/-- 'alumlaw20.SchemaChecksAreSeparate', WHERE WHAT IT READS IS OF BULK AT MOST 1048576: true; the input reads as it did. -/
def schemaChecksAreSeparateUptoRow : OpenClaim := { program := "ytgimkipekoabbaa", sum := "d7f8fbdac5f15584c49ec03f29b60d2ef8e470d744ed5c9e6506737fb2956e92", func := "alum/alumlaw20.SchemaChecksAreSeparate", spec := "schemaChecksAreSeparate", unfollowed := true, recurses := true, apart := false, narrowed := true }
def SchemaChecksAreSeparateUptoSaid : Prop := schemaChecksAreSeparateUptoRow.holds Try.pinned (OpenSpec.upto schemaChecksAreSeparateSpec)

/-- 'alumlaw20.SchemaFindsMatchSpec', WHERE WHAT IT READS IS OF BULK AT MOST 1048576: true; the input reads as it did. -/
def schemaFindsMatchSpecUptoRow : OpenClaim := { program := "ytgimkipekoabbaa", sum := "d7f8fbdac5f15584c49ec03f29b60d2ef8e470d744ed5c9e6506737fb2956e92", func := "alum/alumlaw20.SchemaFindsMatchSpec", spec := "schemaFindsMatchSpec", unfollowed := true, recurses := true, apart := false, narrowed := true }
def SchemaFindsMatchSpecUptoSaid : Prop := schemaFindsMatchSpecUptoRow.holds Try.pinned (OpenSpec.upto schemaFindsMatchSpecSpec)

/-- 'alumlaw20.SchemaFitsMatchesSpec', WHERE WHAT IT READS IS OF BULK AT MOST 1048576: true; the input reads as it did. -/
def schemaFitsMatchesSpecUptoRow : OpenClaim := { program := "ytgimkipekoabbaa", sum := "d7f8fbdac5f15584c49ec03f29b60d2ef8e470d744ed5c9e6506737fb2956e92", func := "alum/alumlaw20.SchemaFitsMatchesSpec", spec := "schemaFitsMatchesSpec", unfollowed := true, recurses := true, apart := false, narrowed := true }
def SchemaFitsMatchesSpecUptoSaid : Prop := schemaFitsMatchesSpecUptoRow.holds Try.pinned (OpenSpec.upto schemaFitsMatchesSpecSpec)

/-- 'alumlaw20.SchemaColumnsExtend', WHERE WHAT IT READS IS OF BULK AT MOST 1048576: true; the input reads as it did. -/
def schemaColumnsExtendUptoRow : OpenClaim := { program := "ytgimkipekoabbaa", sum := "d7f8fbdac5f15584c49ec03f29b60d2ef8e470d744ed5c9e6506737fb2956e92", func := "alum/alumlaw20.SchemaColumnsExtend", spec := "schemaColumnsExtend", unfollowed := true, recurses := true, apart := false, narrowed := true }
def SchemaColumnsExtendUptoSaid : Prop := schemaColumnsExtendUptoRow.holds Try.pinned (OpenSpec.upto schemaColumnsExtendSpec)

/-- 'alumlaw20.SchemaIndexesChangeNoRow', WHERE WHAT IT READS IS OF BULK AT MOST 1048576: true; the input reads as it did. -/
def schemaIndexesChangeNoRowUptoRow : OpenClaim := { program := "ytgimkipekoabbaa", sum := "d7f8fbdac5f15584c49ec03f29b60d2ef8e470d744ed5c9e6506737fb2956e92", func := "alum/alumlaw20.SchemaIndexesChangeNoRow", spec := "schemaIndexesChangeNoRow", unfollowed := true, recurses := true, apart := false, narrowed := true }
def SchemaIndexesChangeNoRowUptoSaid : Prop := schemaIndexesChangeNoRowUptoRow.holds Try.pinned (OpenSpec.upto schemaIndexesChangeNoRowSpec)

/-- 'alumlaw20.SchemaChangesMatchSpec', WHERE WHAT IT READS IS OF BULK AT MOST 1048576: true; the input reads as it did. -/
def schemaChangesMatchSpecUptoRow : OpenClaim := { program := "ytgimkipekoabbaa", sum := "d7f8fbdac5f15584c49ec03f29b60d2ef8e470d744ed5c9e6506737fb2956e92", func := "alum/alumlaw20.SchemaChangesMatchSpec", spec := "schemaChangesMatchSpec", unfollowed := true, recurses := true, apart := false, narrowed := true }
def SchemaChangesMatchSpecUptoSaid : Prop := schemaChangesMatchSpecUptoRow.holds Try.pinned (OpenSpec.upto schemaChangesMatchSpecSpec)

/-- 'alumlaw20.SchemaParseMatchesSpec', WHERE WHAT IT READS IS OF BULK AT MOST 1048576: true; the input reads as it did. -/
def schemaParseMatchesSpecUptoRow : OpenClaim := { program := "ytgimkipekoabbaa", sum := "d7f8fbdac5f15584c49ec03f29b60d2ef8e470d744ed5c9e6506737fb2956e92", func := "alum/alumlaw20.SchemaParseMatchesSpec", spec := "schemaParseMatchesSpec", unfollowed := true, recurses := true, apart := false, narrowed := true }
def SchemaParseMatchesSpecUptoSaid : Prop := schemaParseMatchesSpecUptoRow.holds Try.pinned (OpenSpec.upto schemaParseMatchesSpecSpec)

/-- 'alumlaw20.SchemaWordsRoundTrip', WHERE WHAT IT READS IS OF BULK AT MOST 1048576: true; the input reads as it did. -/
def schemaWordsRoundTripUptoRow : OpenClaim := { program := "ytgimkipekoabbaa", sum := "d7f8fbdac5f15584c49ec03f29b60d2ef8e470d744ed5c9e6506737fb2956e92", func := "alum/alumlaw20.SchemaWordsRoundTrip", spec := "schemaWordsRoundTrip", unfollowed := true, recurses := true, apart := false, narrowed := true }
def SchemaWordsRoundTripUptoSaid : Prop := schemaWordsRoundTripUptoRow.holds Try.pinned (OpenSpec.upto schemaWordsRoundTripSpec)

/-- 'alumlaw20.SchemaParsedIsWords', WHERE WHAT IT READS IS OF BULK AT MOST 1048576: true; the input reads as it did. -/
def schemaParsedIsWordsUptoRow : OpenClaim := { program := "ytgimkipekoabbaa", sum := "d7f8fbdac5f15584c49ec03f29b60d2ef8e470d744ed5c9e6506737fb2956e92", func := "alum/alumlaw20.SchemaParsedIsWords", spec := "schemaParsedIsWords", unfollowed := true, recurses := true, apart := false, narrowed := true }
def SchemaParsedIsWordsUptoSaid : Prop := schemaParsedIsWordsUptoRow.holds Try.pinned (OpenSpec.upto schemaParsedIsWordsSpec)

end Rows
end Go.Proofs.Ytgimkipekoabbaa
