/-
  DERIVED. GIVEN WITH THE SEED: THE CARDS: each row of YtcngnpkpaliflaaDoorRows.lean that lists a variable, with what it lists TIED to the program's text (the seventh form; the later family's looks); each row that meets fmt, with fmt's text TOLD by the authors' own Lean function (tested against real Go, not proved from fmt's source: count such statements apart). THE CARD IS WHAT COUNTS. Prove the row's statement (the work); the ties are given (YtcngnpkpaliflaaDoorTie.lean); close each card by the builder's one call (the guide's Derived/Test/ToyasCard.lean, 'card_holds'). Laid BY PROGRAM, IN A SANDBOX (cutbox-door.mjs). By AI agents, Wed Nov 11 2026. No macro, syntax, notation, axiom, sorry.
-/
import Derived.Test.YtcngnpkpaliflaaDoorRows
import GoSem.ClaimSeven
namespace Go.Proofs.YtcngnpkpaliflaaDoor
namespace Rows

/-- THE TIED CARD OF 'alumlaw02.HashCrcMatchesSpec'. -/
def hashCrcMatchesSpecCard : Claim7 := { stood := { row := hashCrcMatchesSpecRow, standIns := [], harness := (true, "e4a14bd559a64813caa8ed2f9e01300514a4a244cd2f12979504ab09b2c74d57"), looks := false }, kinds := [], alts := [], laidByText := true, laidKinds := [.data, .data], laidTests := true, laidLooks := .later }
def HashCrcMatchesSpecCardSaid : Prop := Claim7.holds Tryd.pinned (.plain (OpenSpec.ofChange hashCrcMatchesSpecSpec)) hashCrcMatchesSpecCard

/-- THE TIED CARD OF 'alumlaw02.HashCrcStreams'. -/
def hashCrcStreamsCard : Claim7 := { stood := { row := hashCrcStreamsRow, standIns := [], harness := (true, "e4a14bd559a64813caa8ed2f9e01300514a4a244cd2f12979504ab09b2c74d57"), looks := false }, kinds := [], alts := [], laidByText := true, laidKinds := [.data, .data], laidTests := true, laidLooks := .later }
def HashCrcStreamsCardSaid : Prop := Claim7.holds Tryd.pinned (.plain (OpenSpec.ofChange hashCrcStreamsSpec)) hashCrcStreamsCard

/-- THE TIED CARD OF 'alumlaw02.HashWordsMatchSpec'. -/
def hashWordsMatchSpecCard : Claim7 := { stood := { row := hashWordsMatchSpecRow, standIns := [], harness := (true, "e4a14bd559a64813caa8ed2f9e01300514a4a244cd2f12979504ab09b2c74d57"), looks := false }, kinds := [], alts := [], laidByText := true, laidKinds := [.data, .data], laidTests := true, laidLooks := .later }
def HashWordsMatchSpecCardSaid : Prop := Claim7.holds Tryd.pinned (.plain (OpenSpec.ofChange hashWordsMatchSpecSpec)) hashWordsMatchSpecCard

/-- THE TIED CARD OF 'alumlaw02.HashJoinMatchesSpec'. -/
def hashJoinMatchesSpecCard : Claim7 := { stood := { row := hashJoinMatchesSpecRow, standIns := [], harness := (true, "e4a14bd559a64813caa8ed2f9e01300514a4a244cd2f12979504ab09b2c74d57"), looks := false }, kinds := [], alts := [], laidByText := true, laidKinds := [.data, .data], laidTests := true, laidLooks := .later }
def HashJoinMatchesSpecCardSaid : Prop := Claim7.holds Tryd.pinned (.plain (OpenSpec.ofChange hashJoinMatchesSpecSpec)) hashJoinMatchesSpecCard

/-- THE TIED CARD OF 'alumlaw02.HashCrcJoins'. -/
def hashCrcJoinsCard : Claim7 := { stood := { row := hashCrcJoinsRow, standIns := [], harness := (true, "e4a14bd559a64813caa8ed2f9e01300514a4a244cd2f12979504ab09b2c74d57"), looks := false }, kinds := [], alts := [], laidByText := true, laidKinds := [.data, .data], laidTests := true, laidLooks := .later }
def HashCrcJoinsCardSaid : Prop := Claim7.holds Tryd.pinned (.plain (OpenSpec.ofChange hashCrcJoinsSpec)) hashCrcJoinsCard

/-- THE TIED CARD OF 'alumlaw02.HashShifts'. -/
def hashShiftsCard : Claim7 := { stood := { row := hashShiftsRow, standIns := [], harness := (true, "e4a14bd559a64813caa8ed2f9e01300514a4a244cd2f12979504ab09b2c74d57"), looks := false }, kinds := [], alts := [], laidByText := true, laidKinds := [.data, .data], laidTests := true, laidLooks := .later }
def HashShiftsCardSaid : Prop := Claim7.holds Tryd.pinned (.plain (OpenSpec.ofChange hashShiftsSpec)) hashShiftsCard

/-- THE TIED CARD OF 'alumlaw02.HashCrcLinear'. -/
def hashCrcLinearCard : Claim7 := { stood := { row := hashCrcLinearRow, standIns := [], harness := (true, "e4a14bd559a64813caa8ed2f9e01300514a4a244cd2f12979504ab09b2c74d57"), looks := false }, kinds := [], alts := [], laidByText := true, laidKinds := [.data, .data], laidTests := true, laidLooks := .later }
def HashCrcLinearCardSaid : Prop := Claim7.holds Tryd.pinned (.plain (OpenSpec.ofChange hashCrcLinearSpec)) hashCrcLinearCard

/-- THE TIED CARD OF 'alumlaw02.HashCrcBursts'. -/
def hashCrcBurstsCard : Claim7 := { stood := { row := hashCrcBurstsRow, standIns := [], harness := (true, "e4a14bd559a64813caa8ed2f9e01300514a4a244cd2f12979504ab09b2c74d57"), looks := false }, kinds := [], alts := [], laidByText := true, laidKinds := [.data, .data], laidTests := true, laidLooks := .later }
def HashCrcBurstsCardSaid : Prop := Claim7.holds Tryd.pinned (.plain (OpenSpec.ofChange hashCrcBurstsSpec)) hashCrcBurstsCard

/-- THE TIED CARD OF 'alumlaw02.HashSumMatchesSpec'. -/
def hashSumMatchesSpecCard : Claim7 := { stood := { row := hashSumMatchesSpecRow, standIns := [], harness := (true, "e4a14bd559a64813caa8ed2f9e01300514a4a244cd2f12979504ab09b2c74d57"), looks := false }, kinds := [], alts := [], laidByText := true, laidKinds := [.data, .data, .data], laidTests := true, laidLooks := .later }
def HashSumMatchesSpecCardSaid : Prop := Claim7.holds Tryd.pinned (.plain (OpenSpec.ofChange hashSumMatchesSpecSpec)) hashSumMatchesSpecCard

/-- THE TIED CARD OF 'alumlaw02.HashStreamsAgree'. -/
def hashStreamsAgreeCard : Claim7 := { stood := { row := hashStreamsAgreeRow, standIns := [], harness := (true, "e4a14bd559a64813caa8ed2f9e01300514a4a244cd2f12979504ab09b2c74d57"), looks := false }, kinds := [], alts := [], laidByText := true, laidKinds := [.data, .data], laidTests := true, laidLooks := .later }
def HashStreamsAgreeCardSaid : Prop := Claim7.holds Tryd.pinned (.plain (OpenSpec.ofChange hashStreamsAgreeSpec)) hashStreamsAgreeCard

/-- THE TIED CARD OF 'alumlaw02.HashOfMatchesSpec'. -/
def hashOfMatchesSpecCard : Claim7 := { stood := { row := hashOfMatchesSpecRow, standIns := [], harness := (true, "e4a14bd559a64813caa8ed2f9e01300514a4a244cd2f12979504ab09b2c74d57"), looks := false }, kinds := [], alts := [], laidByText := true, laidKinds := [.data, .data, .data], laidTests := true, laidLooks := .later }
def HashOfMatchesSpecCardSaid : Prop := Claim7.holds Tryd.pinned (.plain (OpenSpec.ofChange hashOfMatchesSpecSpec)) hashOfMatchesSpecCard

/-- THE TIED CARD OF 'alumlaw02.HashOfSeparates'. -/
def hashOfSeparatesCard : Claim7 := { stood := { row := hashOfSeparatesRow, standIns := [], harness := (true, "e4a14bd559a64813caa8ed2f9e01300514a4a244cd2f12979504ab09b2c74d57"), looks := false }, kinds := [], alts := [], laidByText := true, laidKinds := [.data, .data], laidTests := true, laidLooks := .later }
def HashOfSeparatesCardSaid : Prop := Claim7.holds Tryd.pinned (.plain (OpenSpec.ofChange hashOfSeparatesSpec)) hashOfSeparatesCard

/-- THE SECOND FORM's CARD OF 'alumlaw02.HashCrcMatchesSpec'. -/
def hashCrcMatchesSpecUptoCard : Claim7 := { stood := { row := hashCrcMatchesSpecUptoRow, standIns := [], harness := (true, "e4a14bd559a64813caa8ed2f9e01300514a4a244cd2f12979504ab09b2c74d57"), looks := false }, kinds := [], alts := [], laidByText := true, laidKinds := [.data, .data], laidTests := true, laidLooks := .later }
def HashCrcMatchesSpecUptoCardSaid : Prop := Claim7.holds Tryd.pinned (.plain (OpenSpec.upto hashCrcMatchesSpecSpec)) hashCrcMatchesSpecUptoCard

/-- THE SECOND FORM's CARD OF 'alumlaw02.HashCrcStreams'. -/
def hashCrcStreamsUptoCard : Claim7 := { stood := { row := hashCrcStreamsUptoRow, standIns := [], harness := (true, "e4a14bd559a64813caa8ed2f9e01300514a4a244cd2f12979504ab09b2c74d57"), looks := false }, kinds := [], alts := [], laidByText := true, laidKinds := [.data, .data], laidTests := true, laidLooks := .later }
def HashCrcStreamsUptoCardSaid : Prop := Claim7.holds Tryd.pinned (.plain (OpenSpec.upto hashCrcStreamsSpec)) hashCrcStreamsUptoCard

/-- THE SECOND FORM's CARD OF 'alumlaw02.HashWordsMatchSpec'. -/
def hashWordsMatchSpecUptoCard : Claim7 := { stood := { row := hashWordsMatchSpecUptoRow, standIns := [], harness := (true, "e4a14bd559a64813caa8ed2f9e01300514a4a244cd2f12979504ab09b2c74d57"), looks := false }, kinds := [], alts := [], laidByText := true, laidKinds := [.data, .data], laidTests := true, laidLooks := .later }
def HashWordsMatchSpecUptoCardSaid : Prop := Claim7.holds Tryd.pinned (.plain (OpenSpec.upto hashWordsMatchSpecSpec)) hashWordsMatchSpecUptoCard

/-- THE SECOND FORM's CARD OF 'alumlaw02.HashJoinMatchesSpec'. -/
def hashJoinMatchesSpecUptoCard : Claim7 := { stood := { row := hashJoinMatchesSpecUptoRow, standIns := [], harness := (true, "e4a14bd559a64813caa8ed2f9e01300514a4a244cd2f12979504ab09b2c74d57"), looks := false }, kinds := [], alts := [], laidByText := true, laidKinds := [.data, .data], laidTests := true, laidLooks := .later }
def HashJoinMatchesSpecUptoCardSaid : Prop := Claim7.holds Tryd.pinned (.plain (OpenSpec.upto hashJoinMatchesSpecSpec)) hashJoinMatchesSpecUptoCard

/-- THE SECOND FORM's CARD OF 'alumlaw02.HashCrcJoins'. -/
def hashCrcJoinsUptoCard : Claim7 := { stood := { row := hashCrcJoinsUptoRow, standIns := [], harness := (true, "e4a14bd559a64813caa8ed2f9e01300514a4a244cd2f12979504ab09b2c74d57"), looks := false }, kinds := [], alts := [], laidByText := true, laidKinds := [.data, .data], laidTests := true, laidLooks := .later }
def HashCrcJoinsUptoCardSaid : Prop := Claim7.holds Tryd.pinned (.plain (OpenSpec.upto hashCrcJoinsSpec)) hashCrcJoinsUptoCard

/-- THE SECOND FORM's CARD OF 'alumlaw02.HashShifts'. -/
def hashShiftsUptoCard : Claim7 := { stood := { row := hashShiftsUptoRow, standIns := [], harness := (true, "e4a14bd559a64813caa8ed2f9e01300514a4a244cd2f12979504ab09b2c74d57"), looks := false }, kinds := [], alts := [], laidByText := true, laidKinds := [.data, .data], laidTests := true, laidLooks := .later }
def HashShiftsUptoCardSaid : Prop := Claim7.holds Tryd.pinned (.plain (OpenSpec.upto hashShiftsSpec)) hashShiftsUptoCard

/-- THE SECOND FORM's CARD OF 'alumlaw02.HashCrcLinear'. -/
def hashCrcLinearUptoCard : Claim7 := { stood := { row := hashCrcLinearUptoRow, standIns := [], harness := (true, "e4a14bd559a64813caa8ed2f9e01300514a4a244cd2f12979504ab09b2c74d57"), looks := false }, kinds := [], alts := [], laidByText := true, laidKinds := [.data, .data], laidTests := true, laidLooks := .later }
def HashCrcLinearUptoCardSaid : Prop := Claim7.holds Tryd.pinned (.plain (OpenSpec.upto hashCrcLinearSpec)) hashCrcLinearUptoCard

/-- THE SECOND FORM's CARD OF 'alumlaw02.HashCrcBursts'. -/
def hashCrcBurstsUptoCard : Claim7 := { stood := { row := hashCrcBurstsUptoRow, standIns := [], harness := (true, "e4a14bd559a64813caa8ed2f9e01300514a4a244cd2f12979504ab09b2c74d57"), looks := false }, kinds := [], alts := [], laidByText := true, laidKinds := [.data, .data], laidTests := true, laidLooks := .later }
def HashCrcBurstsUptoCardSaid : Prop := Claim7.holds Tryd.pinned (.plain (OpenSpec.upto hashCrcBurstsSpec)) hashCrcBurstsUptoCard

/-- THE SECOND FORM's CARD OF 'alumlaw02.HashSumMatchesSpec'. -/
def hashSumMatchesSpecUptoCard : Claim7 := { stood := { row := hashSumMatchesSpecUptoRow, standIns := [], harness := (true, "e4a14bd559a64813caa8ed2f9e01300514a4a244cd2f12979504ab09b2c74d57"), looks := false }, kinds := [], alts := [], laidByText := true, laidKinds := [.data, .data, .data], laidTests := true, laidLooks := .later }
def HashSumMatchesSpecUptoCardSaid : Prop := Claim7.holds Tryd.pinned (.plain (OpenSpec.upto hashSumMatchesSpecSpec)) hashSumMatchesSpecUptoCard

/-- THE SECOND FORM's CARD OF 'alumlaw02.HashStreamsAgree'. -/
def hashStreamsAgreeUptoCard : Claim7 := { stood := { row := hashStreamsAgreeUptoRow, standIns := [], harness := (true, "e4a14bd559a64813caa8ed2f9e01300514a4a244cd2f12979504ab09b2c74d57"), looks := false }, kinds := [], alts := [], laidByText := true, laidKinds := [.data, .data], laidTests := true, laidLooks := .later }
def HashStreamsAgreeUptoCardSaid : Prop := Claim7.holds Tryd.pinned (.plain (OpenSpec.upto hashStreamsAgreeSpec)) hashStreamsAgreeUptoCard

/-- THE SECOND FORM's CARD OF 'alumlaw02.HashOfMatchesSpec'. -/
def hashOfMatchesSpecUptoCard : Claim7 := { stood := { row := hashOfMatchesSpecUptoRow, standIns := [], harness := (true, "e4a14bd559a64813caa8ed2f9e01300514a4a244cd2f12979504ab09b2c74d57"), looks := false }, kinds := [], alts := [], laidByText := true, laidKinds := [.data, .data, .data], laidTests := true, laidLooks := .later }
def HashOfMatchesSpecUptoCardSaid : Prop := Claim7.holds Tryd.pinned (.plain (OpenSpec.upto hashOfMatchesSpecSpec)) hashOfMatchesSpecUptoCard

/-- THE SECOND FORM's CARD OF 'alumlaw02.HashOfSeparates'. -/
def hashOfSeparatesUptoCard : Claim7 := { stood := { row := hashOfSeparatesUptoRow, standIns := [], harness := (true, "e4a14bd559a64813caa8ed2f9e01300514a4a244cd2f12979504ab09b2c74d57"), looks := false }, kinds := [], alts := [], laidByText := true, laidKinds := [.data, .data], laidTests := true, laidLooks := .later }
def HashOfSeparatesUptoCardSaid : Prop := Claim7.holds Tryd.pinned (.plain (OpenSpec.upto hashOfSeparatesSpec)) hashOfSeparatesUptoCard
end Rows
end Go.Proofs.YtcngnpkpaliflaaDoor
