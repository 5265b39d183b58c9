/-
  DERIVED. GIVEN WITH THE SEED: THE PROGRAM's TIES (one call each: nine closed facts by the kernel) AND EACH ROW's TIE, after the 31st guide's Derived/Test/Toyas{Tie, Card}.lean. No idea stands in it: it is a product of the set-up. Laid BY PROGRAM, IN A SANDBOX (cutbox-door.mjs). By AI agents, Wed Nov 11 2026. No macro, syntax, notation, axiom, sorry.
-/
import Derived.Test.YtcngnpkpaliflaaDoorRows
import Derived.LaidByTextLater
import Derived.SevenTiedAt
import Derived.LaidSub
import Derived.LaidOnce
namespace Go.Proofs.YtcngnpkpaliflaaDoor
open Go
set_option maxRecDepth 100000
theorem seatTie1 : Tryd.prog.laidByTextLater [("alum/alumref02.constants", Rows.laid_alum_alumref02_constants), ("alum/hash.nibbles", Rows.laid_alum_hash_nibbles), ("alum/hash.constants", Rows.laid_alum_hash_constants)] [.data, .data, .data] true :=
  Program.laidByTextLater_by_one 24 8 65 (by kernel_rfl) (by kernel_rfl) (by kernel_rfl) (by kernel_rfl) (by kernel_rfl) (by kernel_rfl) (fun _ _ => by kernel_rfl)
theorem noOwnUnsafe : Tryd.pinned.checked.prog.headLifts.contains "ownunsafe" = false := by kernel_rfl
theorem tie : Tryd.prog.laidByTextLater [("alum/hash.nibbles", Rows.laid_alum_hash_nibbles), ("alum/hash.constants", Rows.laid_alum_hash_constants)] [.data, .data] true :=
  Program.laidByTextLater.sub seatTie1 ["alum/hash.nibbles", "alum/hash.constants"] (by kernel_rfl) (by kernel_rfl)
theorem hashCrcMatchesSpec_row_tie : Rows.hashCrcMatchesSpecRow.laidByTextAt .later Tryd.pinned [.data, .data] true :=
  OpenClaim.laidByTextAt_later rfl rfl tie noOwnUnsafe
theorem hashCrcStreams_row_tie : Rows.hashCrcStreamsRow.laidByTextAt .later Tryd.pinned [.data, .data] true :=
  OpenClaim.laidByTextAt_later rfl rfl tie noOwnUnsafe
theorem hashWordsMatchSpec_row_tie : Rows.hashWordsMatchSpecRow.laidByTextAt .later Tryd.pinned [.data, .data] true :=
  OpenClaim.laidByTextAt_later rfl rfl tie noOwnUnsafe
theorem hashJoinMatchesSpec_row_tie : Rows.hashJoinMatchesSpecRow.laidByTextAt .later Tryd.pinned [.data, .data] true :=
  OpenClaim.laidByTextAt_later rfl rfl tie noOwnUnsafe
theorem hashCrcJoins_row_tie : Rows.hashCrcJoinsRow.laidByTextAt .later Tryd.pinned [.data, .data] true :=
  OpenClaim.laidByTextAt_later rfl rfl tie noOwnUnsafe
theorem hashShifts_row_tie : Rows.hashShiftsRow.laidByTextAt .later Tryd.pinned [.data, .data] true :=
  OpenClaim.laidByTextAt_later rfl rfl tie noOwnUnsafe
theorem hashCrcLinear_row_tie : Rows.hashCrcLinearRow.laidByTextAt .later Tryd.pinned [.data, .data] true :=
  OpenClaim.laidByTextAt_later rfl rfl tie noOwnUnsafe
theorem hashCrcBursts_row_tie : Rows.hashCrcBurstsRow.laidByTextAt .later Tryd.pinned [.data, .data] true :=
  OpenClaim.laidByTextAt_later rfl rfl tie noOwnUnsafe
theorem hashStreamsAgree_row_tie : Rows.hashStreamsAgreeRow.laidByTextAt .later Tryd.pinned [.data, .data] true :=
  OpenClaim.laidByTextAt_later rfl rfl tie noOwnUnsafe
theorem hashOfSeparates_row_tie : Rows.hashOfSeparatesRow.laidByTextAt .later Tryd.pinned [.data, .data] true :=
  OpenClaim.laidByTextAt_later rfl rfl tie noOwnUnsafe
theorem tie2 : Tryd.prog.laidByTextLater [("alum/alumref02.constants", Rows.laid_alum_alumref02_constants), ("alum/hash.nibbles", Rows.laid_alum_hash_nibbles), ("alum/hash.constants", Rows.laid_alum_hash_constants)] [.data, .data, .data] true :=
  Program.laidByTextLater.sub seatTie1 ["alum/alumref02.constants", "alum/hash.nibbles", "alum/hash.constants"] (by kernel_rfl) (by kernel_rfl)
theorem hashSumMatchesSpec_row_tie : Rows.hashSumMatchesSpecRow.laidByTextAt .later Tryd.pinned [.data, .data, .data] true :=
  OpenClaim.laidByTextAt_later rfl rfl tie2 noOwnUnsafe
theorem hashOfMatchesSpec_row_tie : Rows.hashOfMatchesSpecRow.laidByTextAt .later Tryd.pinned [.data, .data, .data] true :=
  OpenClaim.laidByTextAt_later rfl rfl tie2 noOwnUnsafe
theorem hashCrcMatchesSpecUpto_row_tie : Rows.hashCrcMatchesSpecUptoRow.laidByTextAt .later Tryd.pinned [.data, .data] true :=
  OpenClaim.laidByTextAt_later rfl rfl tie noOwnUnsafe
theorem hashCrcStreamsUpto_row_tie : Rows.hashCrcStreamsUptoRow.laidByTextAt .later Tryd.pinned [.data, .data] true :=
  OpenClaim.laidByTextAt_later rfl rfl tie noOwnUnsafe
theorem hashWordsMatchSpecUpto_row_tie : Rows.hashWordsMatchSpecUptoRow.laidByTextAt .later Tryd.pinned [.data, .data] true :=
  OpenClaim.laidByTextAt_later rfl rfl tie noOwnUnsafe
theorem hashJoinMatchesSpecUpto_row_tie : Rows.hashJoinMatchesSpecUptoRow.laidByTextAt .later Tryd.pinned [.data, .data] true :=
  OpenClaim.laidByTextAt_later rfl rfl tie noOwnUnsafe
theorem hashCrcJoinsUpto_row_tie : Rows.hashCrcJoinsUptoRow.laidByTextAt .later Tryd.pinned [.data, .data] true :=
  OpenClaim.laidByTextAt_later rfl rfl tie noOwnUnsafe
theorem hashShiftsUpto_row_tie : Rows.hashShiftsUptoRow.laidByTextAt .later Tryd.pinned [.data, .data] true :=
  OpenClaim.laidByTextAt_later rfl rfl tie noOwnUnsafe
theorem hashCrcLinearUpto_row_tie : Rows.hashCrcLinearUptoRow.laidByTextAt .later Tryd.pinned [.data, .data] true :=
  OpenClaim.laidByTextAt_later rfl rfl tie noOwnUnsafe
theorem hashCrcBurstsUpto_row_tie : Rows.hashCrcBurstsUptoRow.laidByTextAt .later Tryd.pinned [.data, .data] true :=
  OpenClaim.laidByTextAt_later rfl rfl tie noOwnUnsafe
theorem hashSumMatchesSpecUpto_row_tie : Rows.hashSumMatchesSpecUptoRow.laidByTextAt .later Tryd.pinned [.data, .data, .data] true :=
  OpenClaim.laidByTextAt_later rfl rfl tie2 noOwnUnsafe
theorem hashStreamsAgreeUpto_row_tie : Rows.hashStreamsAgreeUptoRow.laidByTextAt .later Tryd.pinned [.data, .data] true :=
  OpenClaim.laidByTextAt_later rfl rfl tie noOwnUnsafe
theorem hashOfMatchesSpecUpto_row_tie : Rows.hashOfMatchesSpecUptoRow.laidByTextAt .later Tryd.pinned [.data, .data, .data] true :=
  OpenClaim.laidByTextAt_later rfl rfl tie2 noOwnUnsafe
theorem hashOfSeparatesUpto_row_tie : Rows.hashOfSeparatesUptoRow.laidByTextAt .later Tryd.pinned [.data, .data] true :=
  OpenClaim.laidByTextAt_later rfl rfl tie noOwnUnsafe
end Go.Proofs.YtcngnpkpaliflaaDoor
