/-
  NARROWER THAN 'FOR EVERY INPUT', by the rows' own cells (each row's printed sentence says how): HashCrcMatchesSpec: laid · HashCrcStreams: laid · HashWordsMatchSpec: laid · HashJoinMatchesSpec: laid · HashCrcJoins: laid · HashShifts: laid · HashCrcLinear: laid · HashCrcBursts: laid · HashSumMatchesSpec: laid · HashStreamsAgree: laid · HashOfMatchesSpec: laid · HashOfSeparates: laid.
  DERIVED. THE GIVEN ROWS OF THIS SEAT. 12 by the template 'for every input the law returns true; each argument reads behind the call as it read before'; 0 by the template 'total and deterministic' (their statements: YtcngnpkpaliflaaDoorTotals.lean).
  GIVEN WITH THE SEED: the statements are not yours to turn. If you find one false, say at which input.
  Laid BY PROGRAM, IN A SANDBOX (cutbox-rows.mjs): the forced cells as the released guide's own fill.sh prints them over the translation 62b4c6da75f85835… (all of the seat's roots in one cut). By AI agents, Wed Nov 11 2026. No macro, syntax, notation, axiom, sorry.
-/
import Derived.Test.YtcngnpkpaliflaaDoorChecked
import GoSem.Claim
import GoSem.ClaimJoined
import GoSem.ClaimMapViews
import Derived.JoinedTies
import Derived.KernelRfl
namespace Go.Proofs.YtcngnpkpaliflaaDoor
/- THE CELL 'sum', in the pinned program and in every row, IS THE sha256 OF THE DUMP (.gsa) THAT YtcngnpkpaliflaaDoorProg.lean LOADS. Nothing in Lean hashes anything: it is a label: what it is worth is what the hold of that sum in a sandbox is worth. -/
noncomputable def Tryd.pinned : Pinned := { name := "ytcngnpkpaliflaadoor", sum := "62b4c6da75f85835bbfc60574427e8f340de01707c3fe5254808b0278fa47086", checked := Tryd.checked }
namespace Rows
def none {H : Type} : Left H := { results := [], args := [] }

/- WHAT THE LISTED PACKAGE-LEVEL VARIABLES READ AS WHEN THE CALL BEGINS. Each datum BY PROGRAM (the guide's laid-datum.mjs) off the statement by which the dump's own 'gosem.cut.vars' lays the variable. In a bare row this is a premise. The card (YtcngnpkpaliflaaDoorCards.lean) ties it to the program's text. -/
def laid_alum_hash_nibbles {H : Type} : DataW H := .agg [.lit (.int .u64 0), .lit (.int .u64 75628553), .lit (.int .u64 151257106), .lit (.int .u64 226885659), .lit (.int .u64 302514212), .lit (.int .u64 378142765), .lit (.int .u64 453771318), .lit (.int .u64 529399871), .lit (.int .u64 605028424), .lit (.int .u64 546439233), .lit (.int .u64 756285530), .lit (.int .u64 697696339), .lit (.int .u64 907542636), .lit (.int .u64 848953445), .lit (.int .u64 1058799742), .lit (.int .u64 1000210551)]
def laid_alum_hash_constants {H : Type} : DataW H := .agg [.lit (.int .u32 1116352408), .lit (.int .u32 1899447441), .lit (.int .u32 3049323471), .lit (.int .u32 3921009573), .lit (.int .u32 961987163), .lit (.int .u32 1508970993), .lit (.int .u32 2453635748), .lit (.int .u32 2870763221), .lit (.int .u32 3624381080), .lit (.int .u32 310598401), .lit (.int .u32 607225278), .lit (.int .u32 1426881987), .lit (.int .u32 1925078388), .lit (.int .u32 2162078206), .lit (.int .u32 2614888103), .lit (.int .u32 3248222580), .lit (.int .u32 3835390401), .lit (.int .u32 4022224774), .lit (.int .u32 264347078), .lit (.int .u32 604807628), .lit (.int .u32 770255983), .lit (.int .u32 1249150122), .lit (.int .u32 1555081692), .lit (.int .u32 1996064986), .lit (.int .u32 2554220882), .lit (.int .u32 2821834349), .lit (.int .u32 2952996808), .lit (.int .u32 3210313671), .lit (.int .u32 3336571891), .lit (.int .u32 3584528711), .lit (.int .u32 113926993), .lit (.int .u32 338241895), .lit (.int .u32 666307205), .lit (.int .u32 773529912), .lit (.int .u32 1294757372), .lit (.int .u32 1396182291), .lit (.int .u32 1695183700), .lit (.int .u32 1986661051), .lit (.int .u32 2177026350), .lit (.int .u32 2456956037), .lit (.int .u32 2730485921), .lit (.int .u32 2820302411), .lit (.int .u32 3259730800), .lit (.int .u32 3345764771), .lit (.int .u32 3516065817), .lit (.int .u32 3600352804), .lit (.int .u32 4094571909), .lit (.int .u32 275423344), .lit (.int .u32 430227734), .lit (.int .u32 506948616), .lit (.int .u32 659060556), .lit (.int .u32 883997877), .lit (.int .u32 958139571), .lit (.int .u32 1322822218), .lit (.int .u32 1537002063), .lit (.int .u32 1747873779), .lit (.int .u32 1955562222), .lit (.int .u32 2024104815), .lit (.int .u32 2227730452), .lit (.int .u32 2361852424), .lit (.int .u32 2428436474), .lit (.int .u32 2756734187), .lit (.int .u32 3204031479), .lit (.int .u32 3329325298)]
def laid_alum_alumref02_constants {H : Type} : DataW H := .agg [.lit (.int .u32 1116352408), .lit (.int .u32 1899447441), .lit (.int .u32 3049323471), .lit (.int .u32 3921009573), .lit (.int .u32 961987163), .lit (.int .u32 1508970993), .lit (.int .u32 2453635748), .lit (.int .u32 2870763221), .lit (.int .u32 3624381080), .lit (.int .u32 310598401), .lit (.int .u32 607225278), .lit (.int .u32 1426881987), .lit (.int .u32 1925078388), .lit (.int .u32 2162078206), .lit (.int .u32 2614888103), .lit (.int .u32 3248222580), .lit (.int .u32 3835390401), .lit (.int .u32 4022224774), .lit (.int .u32 264347078), .lit (.int .u32 604807628), .lit (.int .u32 770255983), .lit (.int .u32 1249150122), .lit (.int .u32 1555081692), .lit (.int .u32 1996064986), .lit (.int .u32 2554220882), .lit (.int .u32 2821834349), .lit (.int .u32 2952996808), .lit (.int .u32 3210313671), .lit (.int .u32 3336571891), .lit (.int .u32 3584528711), .lit (.int .u32 113926993), .lit (.int .u32 338241895), .lit (.int .u32 666307205), .lit (.int .u32 773529912), .lit (.int .u32 1294757372), .lit (.int .u32 1396182291), .lit (.int .u32 1695183700), .lit (.int .u32 1986661051), .lit (.int .u32 2177026350), .lit (.int .u32 2456956037), .lit (.int .u32 2730485921), .lit (.int .u32 2820302411), .lit (.int .u32 3259730800), .lit (.int .u32 3345764771), .lit (.int .u32 3516065817), .lit (.int .u32 3600352804), .lit (.int .u32 4094571909), .lit (.int .u32 275423344), .lit (.int .u32 430227734), .lit (.int .u32 506948616), .lit (.int .u32 659060556), .lit (.int .u32 883997877), .lit (.int .u32 958139571), .lit (.int .u32 1322822218), .lit (.int .u32 1537002063), .lit (.int .u32 1747873779), .lit (.int .u32 1955562222), .lit (.int .u32 2024104815), .lit (.int .u32 2227730452), .lit (.int .u32 2361852424), .lit (.int .u32 2428436474), .lit (.int .u32 2756734187), .lit (.int .u32 3204031479), .lit (.int .u32 3329325298)]

/-- 'alumlaw02.HashCrcMatchesSpec': WHATEVER THE INPUT: true; the input reads as it did. -/
def hashCrcMatchesSpecSpec : ChangeSpec := { name := "hashCrcMatchesSpec", fn := fun _ => fun
  | [d] => { results := [.lit (.bool true)], args := [d] }
  | _ => none }
def hashCrcMatchesSpecRow : OpenClaim := { program := "ytcngnpkpaliflaadoor", sum := "62b4c6da75f85835bbfc60574427e8f340de01707c3fe5254808b0278fa47086", func := "alum/alumlaw02.HashCrcMatchesSpec", spec := "hashCrcMatchesSpec", named := ["alum/hash.constants", "alum/hash.nibbles"], apart := false, laid := [("alum/hash.nibbles", laid_alum_hash_nibbles), ("alum/hash.constants", laid_alum_hash_constants)] }
def HashCrcMatchesSpecSaid : Prop := hashCrcMatchesSpecRow.holds Tryd.pinned (OpenSpec.ofChange hashCrcMatchesSpecSpec)

/-- ITS FALSE NEIGHBOUR: 'it returns false'. Refute it at one input. -/
def hashCrcMatchesSpecWrong : ChangeSpec := { name := "hashCrcMatchesSpec", fn := fun _ => fun
  | [d] => { results := [.lit (.bool false)], args := [d] }
  | _ => none }
def HashCrcMatchesSpecWrongFalsely : Prop := hashCrcMatchesSpecRow.holds Tryd.pinned (OpenSpec.ofChange hashCrcMatchesSpecWrong)

/-- 'alumlaw02.HashCrcStreams': WHATEVER THE INPUT: true; the input reads as it did. -/
def hashCrcStreamsSpec : ChangeSpec := { name := "hashCrcStreams", fn := fun _ => fun
  | [d1, d2, d3] => { results := [.lit (.bool true)], args := [d1, d2, d3] }
  | _ => none }
def hashCrcStreamsRow : OpenClaim := { program := "ytcngnpkpaliflaadoor", sum := "62b4c6da75f85835bbfc60574427e8f340de01707c3fe5254808b0278fa47086", func := "alum/alumlaw02.HashCrcStreams", spec := "hashCrcStreams", named := ["alum/hash.constants", "alum/hash.nibbles"], apart := false, laid := [("alum/hash.nibbles", laid_alum_hash_nibbles), ("alum/hash.constants", laid_alum_hash_constants)] }
def HashCrcStreamsSaid : Prop := hashCrcStreamsRow.holds Tryd.pinned (OpenSpec.ofChange hashCrcStreamsSpec)

/-- ITS FALSE NEIGHBOUR: 'it returns false'. Refute it at one input. -/
def hashCrcStreamsWrong : ChangeSpec := { name := "hashCrcStreams", fn := fun _ => fun
  | [d1, d2, d3] => { results := [.lit (.bool false)], args := [d1, d2, d3] }
  | _ => none }
def HashCrcStreamsWrongFalsely : Prop := hashCrcStreamsRow.holds Tryd.pinned (OpenSpec.ofChange hashCrcStreamsWrong)

/-- 'alumlaw02.HashWordsMatchSpec': WHATEVER THE INPUT: true; the input reads as it did. -/
def hashWordsMatchSpecSpec : ChangeSpec := { name := "hashWordsMatchSpec", fn := fun _ => fun
  | [d] => { results := [.lit (.bool true)], args := [d] }
  | _ => none }
def hashWordsMatchSpecRow : OpenClaim := { program := "ytcngnpkpaliflaadoor", sum := "62b4c6da75f85835bbfc60574427e8f340de01707c3fe5254808b0278fa47086", func := "alum/alumlaw02.HashWordsMatchSpec", spec := "hashWordsMatchSpec", named := ["alum/hash.constants", "alum/hash.nibbles"], apart := false, laid := [("alum/hash.nibbles", laid_alum_hash_nibbles), ("alum/hash.constants", laid_alum_hash_constants)] }
def HashWordsMatchSpecSaid : Prop := hashWordsMatchSpecRow.holds Tryd.pinned (OpenSpec.ofChange hashWordsMatchSpecSpec)

/-- ITS FALSE NEIGHBOUR: 'it returns false'. Refute it at one input. -/
def hashWordsMatchSpecWrong : ChangeSpec := { name := "hashWordsMatchSpec", fn := fun _ => fun
  | [d] => { results := [.lit (.bool false)], args := [d] }
  | _ => none }
def HashWordsMatchSpecWrongFalsely : Prop := hashWordsMatchSpecRow.holds Tryd.pinned (OpenSpec.ofChange hashWordsMatchSpecWrong)

/-- 'alumlaw02.HashJoinMatchesSpec': WHATEVER THE INPUT: true; the input reads as it did. -/
def hashJoinMatchesSpecSpec : ChangeSpec := { name := "hashJoinMatchesSpec", fn := fun _ => fun
  | [d1, d2, d3] => { results := [.lit (.bool true)], args := [d1, d2, d3] }
  | _ => none }
def hashJoinMatchesSpecRow : OpenClaim := { program := "ytcngnpkpaliflaadoor", sum := "62b4c6da75f85835bbfc60574427e8f340de01707c3fe5254808b0278fa47086", func := "alum/alumlaw02.HashJoinMatchesSpec", spec := "hashJoinMatchesSpec", named := ["alum/hash.constants", "alum/hash.nibbles"], apart := false, laid := [("alum/hash.nibbles", laid_alum_hash_nibbles), ("alum/hash.constants", laid_alum_hash_constants)] }
def HashJoinMatchesSpecSaid : Prop := hashJoinMatchesSpecRow.holds Tryd.pinned (OpenSpec.ofChange hashJoinMatchesSpecSpec)

/-- ITS FALSE NEIGHBOUR: 'it returns false'. Refute it at one input. -/
def hashJoinMatchesSpecWrong : ChangeSpec := { name := "hashJoinMatchesSpec", fn := fun _ => fun
  | [d1, d2, d3] => { results := [.lit (.bool false)], args := [d1, d2, d3] }
  | _ => none }
def HashJoinMatchesSpecWrongFalsely : Prop := hashJoinMatchesSpecRow.holds Tryd.pinned (OpenSpec.ofChange hashJoinMatchesSpecWrong)

/-- 'alumlaw02.HashCrcJoins': WHATEVER THE INPUT: true; the input reads as it did. -/
def hashCrcJoinsSpec : ChangeSpec := { name := "hashCrcJoins", fn := fun _ => fun
  | [d1, d2, d3] => { results := [.lit (.bool true)], args := [d1, d2, d3] }
  | _ => none }
def hashCrcJoinsRow : OpenClaim := { program := "ytcngnpkpaliflaadoor", sum := "62b4c6da75f85835bbfc60574427e8f340de01707c3fe5254808b0278fa47086", func := "alum/alumlaw02.HashCrcJoins", spec := "hashCrcJoins", named := ["alum/hash.constants", "alum/hash.nibbles"], apart := false, laid := [("alum/hash.nibbles", laid_alum_hash_nibbles), ("alum/hash.constants", laid_alum_hash_constants)] }
def HashCrcJoinsSaid : Prop := hashCrcJoinsRow.holds Tryd.pinned (OpenSpec.ofChange hashCrcJoinsSpec)

/-- ITS FALSE NEIGHBOUR: 'it returns false'. Refute it at one input. -/
def hashCrcJoinsWrong : ChangeSpec := { name := "hashCrcJoins", fn := fun _ => fun
  | [d1, d2, d3] => { results := [.lit (.bool false)], args := [d1, d2, d3] }
  | _ => none }
def HashCrcJoinsWrongFalsely : Prop := hashCrcJoinsRow.holds Tryd.pinned (OpenSpec.ofChange hashCrcJoinsWrong)

/-- 'alumlaw02.HashShifts': WHATEVER THE INPUT: true; the input reads as it did. -/
def hashShiftsSpec : ChangeSpec := { name := "hashShifts", fn := fun _ => fun
  | [d1, d2, d3, d4] => { results := [.lit (.bool true)], args := [d1, d2, d3, d4] }
  | _ => none }
def hashShiftsRow : OpenClaim := { program := "ytcngnpkpaliflaadoor", sum := "62b4c6da75f85835bbfc60574427e8f340de01707c3fe5254808b0278fa47086", func := "alum/alumlaw02.HashShifts", spec := "hashShifts", named := ["alum/hash.constants", "alum/hash.nibbles"], apart := false, laid := [("alum/hash.nibbles", laid_alum_hash_nibbles), ("alum/hash.constants", laid_alum_hash_constants)] }
def HashShiftsSaid : Prop := hashShiftsRow.holds Tryd.pinned (OpenSpec.ofChange hashShiftsSpec)

/-- ITS FALSE NEIGHBOUR: 'it returns false'. Refute it at one input. -/
def hashShiftsWrong : ChangeSpec := { name := "hashShifts", fn := fun _ => fun
  | [d1, d2, d3, d4] => { results := [.lit (.bool false)], args := [d1, d2, d3, d4] }
  | _ => none }
def HashShiftsWrongFalsely : Prop := hashShiftsRow.holds Tryd.pinned (OpenSpec.ofChange hashShiftsWrong)

/-- 'alumlaw02.HashCrcLinear': WHATEVER THE INPUT: true; the input reads as it did. -/
def hashCrcLinearSpec : ChangeSpec := { name := "hashCrcLinear", fn := fun _ => fun
  | [d1, d2, d3] => { results := [.lit (.bool true)], args := [d1, d2, d3] }
  | _ => none }
def hashCrcLinearRow : OpenClaim := { program := "ytcngnpkpaliflaadoor", sum := "62b4c6da75f85835bbfc60574427e8f340de01707c3fe5254808b0278fa47086", func := "alum/alumlaw02.HashCrcLinear", spec := "hashCrcLinear", named := ["alum/hash.constants", "alum/hash.nibbles"], apart := false, laid := [("alum/hash.nibbles", laid_alum_hash_nibbles), ("alum/hash.constants", laid_alum_hash_constants)] }
def HashCrcLinearSaid : Prop := hashCrcLinearRow.holds Tryd.pinned (OpenSpec.ofChange hashCrcLinearSpec)

/-- ITS FALSE NEIGHBOUR: 'it returns false'. Refute it at one input. -/
def hashCrcLinearWrong : ChangeSpec := { name := "hashCrcLinear", fn := fun _ => fun
  | [d1, d2, d3] => { results := [.lit (.bool false)], args := [d1, d2, d3] }
  | _ => none }
def HashCrcLinearWrongFalsely : Prop := hashCrcLinearRow.holds Tryd.pinned (OpenSpec.ofChange hashCrcLinearWrong)

/-- 'alumlaw02.HashCrcBursts': WHATEVER THE INPUT: true; the input reads as it did. -/
def hashCrcBurstsSpec : ChangeSpec := { name := "hashCrcBursts", fn := fun _ => fun
  | [d1, d2, d3] => { results := [.lit (.bool true)], args := [d1, d2, d3] }
  | _ => none }
def hashCrcBurstsRow : OpenClaim := { program := "ytcngnpkpaliflaadoor", sum := "62b4c6da75f85835bbfc60574427e8f340de01707c3fe5254808b0278fa47086", func := "alum/alumlaw02.HashCrcBursts", spec := "hashCrcBursts", named := ["alum/hash.constants", "alum/hash.nibbles"], apart := false, laid := [("alum/hash.nibbles", laid_alum_hash_nibbles), ("alum/hash.constants", laid_alum_hash_constants)] }
def HashCrcBurstsSaid : Prop := hashCrcBurstsRow.holds Tryd.pinned (OpenSpec.ofChange hashCrcBurstsSpec)

/-- ITS FALSE NEIGHBOUR: 'it returns false'. Refute it at one input. -/
def hashCrcBurstsWrong : ChangeSpec := { name := "hashCrcBursts", fn := fun _ => fun
  | [d1, d2, d3] => { results := [.lit (.bool false)], args := [d1, d2, d3] }
  | _ => none }
def HashCrcBurstsWrongFalsely : Prop := hashCrcBurstsRow.holds Tryd.pinned (OpenSpec.ofChange hashCrcBurstsWrong)

/-- 'alumlaw02.HashSumMatchesSpec': WHATEVER THE INPUT: true; the input reads as it did. -/
def hashSumMatchesSpecSpec : ChangeSpec := { name := "hashSumMatchesSpec", fn := fun _ => fun
  | [d] => { results := [.lit (.bool true)], args := [d] }
  | _ => none }
def hashSumMatchesSpecRow : OpenClaim := { program := "ytcngnpkpaliflaadoor", sum := "62b4c6da75f85835bbfc60574427e8f340de01707c3fe5254808b0278fa47086", func := "alum/alumlaw02.HashSumMatchesSpec", spec := "hashSumMatchesSpec", named := ["alum/hash.constants", "alum/hash.nibbles", "alum/alumref02.constants"], apart := false, laid := [("alum/alumref02.constants", laid_alum_alumref02_constants), ("alum/hash.nibbles", laid_alum_hash_nibbles), ("alum/hash.constants", laid_alum_hash_constants)] }
def HashSumMatchesSpecSaid : Prop := hashSumMatchesSpecRow.holds Tryd.pinned (OpenSpec.ofChange hashSumMatchesSpecSpec)

/-- ITS FALSE NEIGHBOUR: 'it returns false'. Refute it at one input. -/
def hashSumMatchesSpecWrong : ChangeSpec := { name := "hashSumMatchesSpec", fn := fun _ => fun
  | [d] => { results := [.lit (.bool false)], args := [d] }
  | _ => none }
def HashSumMatchesSpecWrongFalsely : Prop := hashSumMatchesSpecRow.holds Tryd.pinned (OpenSpec.ofChange hashSumMatchesSpecWrong)

/-- 'alumlaw02.HashStreamsAgree': WHATEVER THE INPUT: true; the input reads as it did. -/
def hashStreamsAgreeSpec : ChangeSpec := { name := "hashStreamsAgree", fn := fun _ => fun
  | [d1, d2, d3] => { results := [.lit (.bool true)], args := [d1, d2, d3] }
  | _ => none }
def hashStreamsAgreeRow : OpenClaim := { program := "ytcngnpkpaliflaadoor", sum := "62b4c6da75f85835bbfc60574427e8f340de01707c3fe5254808b0278fa47086", func := "alum/alumlaw02.HashStreamsAgree", spec := "hashStreamsAgree", named := ["alum/hash.constants", "alum/hash.nibbles"], apart := false, laid := [("alum/hash.nibbles", laid_alum_hash_nibbles), ("alum/hash.constants", laid_alum_hash_constants)] }
def HashStreamsAgreeSaid : Prop := hashStreamsAgreeRow.holds Tryd.pinned (OpenSpec.ofChange hashStreamsAgreeSpec)

/-- ITS FALSE NEIGHBOUR: 'it returns false'. Refute it at one input. -/
def hashStreamsAgreeWrong : ChangeSpec := { name := "hashStreamsAgree", fn := fun _ => fun
  | [d1, d2, d3] => { results := [.lit (.bool false)], args := [d1, d2, d3] }
  | _ => none }
def HashStreamsAgreeWrongFalsely : Prop := hashStreamsAgreeRow.holds Tryd.pinned (OpenSpec.ofChange hashStreamsAgreeWrong)

/-- 'alumlaw02.HashOfMatchesSpec': WHATEVER THE INPUT: true; the input reads as it did. -/
def hashOfMatchesSpecSpec : ChangeSpec := { name := "hashOfMatchesSpec", fn := fun _ => fun
  | [d1, d2] => { results := [.lit (.bool true)], args := [d1, d2] }
  | _ => none }
def hashOfMatchesSpecRow : OpenClaim := { program := "ytcngnpkpaliflaadoor", sum := "62b4c6da75f85835bbfc60574427e8f340de01707c3fe5254808b0278fa47086", func := "alum/alumlaw02.HashOfMatchesSpec", spec := "hashOfMatchesSpec", named := ["alum/hash.constants", "alum/hash.nibbles", "alum/alumref02.constants"], apart := false, laid := [("alum/alumref02.constants", laid_alum_alumref02_constants), ("alum/hash.nibbles", laid_alum_hash_nibbles), ("alum/hash.constants", laid_alum_hash_constants)] }
def HashOfMatchesSpecSaid : Prop := hashOfMatchesSpecRow.holds Tryd.pinned (OpenSpec.ofChange hashOfMatchesSpecSpec)

/-- ITS FALSE NEIGHBOUR: 'it returns false'. Refute it at one input. -/
def hashOfMatchesSpecWrong : ChangeSpec := { name := "hashOfMatchesSpec", fn := fun _ => fun
  | [d1, d2] => { results := [.lit (.bool false)], args := [d1, d2] }
  | _ => none }
def HashOfMatchesSpecWrongFalsely : Prop := hashOfMatchesSpecRow.holds Tryd.pinned (OpenSpec.ofChange hashOfMatchesSpecWrong)

/-- 'alumlaw02.HashOfSeparates': WHATEVER THE INPUT: true; the input reads as it did. -/
def hashOfSeparatesSpec : ChangeSpec := { name := "hashOfSeparates", fn := fun _ => fun
  | [d1, d2, d3] => { results := [.lit (.bool true)], args := [d1, d2, d3] }
  | _ => none }
def hashOfSeparatesRow : OpenClaim := { program := "ytcngnpkpaliflaadoor", sum := "62b4c6da75f85835bbfc60574427e8f340de01707c3fe5254808b0278fa47086", func := "alum/alumlaw02.HashOfSeparates", spec := "hashOfSeparates", named := ["alum/hash.constants", "alum/hash.nibbles"], apart := false, laid := [("alum/hash.nibbles", laid_alum_hash_nibbles), ("alum/hash.constants", laid_alum_hash_constants)] }
def HashOfSeparatesSaid : Prop := hashOfSeparatesRow.holds Tryd.pinned (OpenSpec.ofChange hashOfSeparatesSpec)

/-- ITS FALSE NEIGHBOUR: 'it returns false'. Refute it at one input. -/
def hashOfSeparatesWrong : ChangeSpec := { name := "hashOfSeparates", fn := fun _ => fun
  | [d1, d2, d3] => { results := [.lit (.bool false)], args := [d1, d2, d3] }
  | _ => none }
def HashOfSeparatesWrongFalsely : Prop := hashOfSeparatesRow.holds Tryd.pinned (OpenSpec.ofChange hashOfSeparatesWrong)

/- THE SECOND FORM. 'bulk': how many values and letters a reading holds, each counted each time it is reached (what is shared counts as often as it is met; a slice's spare places count too). A statement '..UptoSaid' is the law's where the arguments, and the package variables that the reading takes, are together of bulk at most 1048576: NARROWER than '..Said'. Prove '..Said' where nothing that the law and all that it calls make is longer than what came in: it says more and counts as full. Else prove '..UptoSaid'. A law counts once. -/
mutual
def uptoBulk {H : Type} : DataW H → Nat
  | .lit (.string bytes) => bytes.length + 1
  | .lit _ => 1
  | .nil => 1
  | .ptr d => uptoBulk d + 1
  | .slice elems spare => uptoBulkAll elems + uptoBulkAll spare + 1
  | .agg parts => uptoBulkAll parts + 1
  | .iface _ d => uptoBulk d + 1
  | .map entries => uptoBulkEntries entries + 1
  | .held _ => 1
def uptoBulkAll {H : Type} : List (DataW H) → Nat
  | [] => 0
  | d :: r => uptoBulk d + uptoBulkAll r
def uptoBulkEntries {H : Type} : List (Lit × DataW H) → Nat
  | [] => 0
  | x :: r => uptoBulkEntry x + uptoBulkEntries r
def uptoBulkEntry {H : Type} : Lit × DataW H → Nat
  | (.string bytes, d) => bytes.length + uptoBulk d + 1
  | (_, d) => uptoBulk d + 1
 end
def uptoSmall : (H : Type) → List (DataW H) → Bool := fun _ ds => decide (uptoBulkAll ds ≤ 1048576)
def OpenSpec.upto (s : _root_.Go.ChangeSpec) : _root_.Go.OpenSpec := { _root_.Go.OpenSpec.ofChange s with cond := some uptoSmall }

/-- 'alumlaw02.HashCrcMatchesSpec', WHERE WHAT IT READS IS OF BULK AT MOST 1048576: true; the input reads as it did. -/
def hashCrcMatchesSpecUptoRow : OpenClaim := { program := "ytcngnpkpaliflaadoor", sum := "62b4c6da75f85835bbfc60574427e8f340de01707c3fe5254808b0278fa47086", func := "alum/alumlaw02.HashCrcMatchesSpec", spec := "hashCrcMatchesSpec", named := ["alum/hash.constants", "alum/hash.nibbles"], apart := false, laid := [("alum/hash.nibbles", laid_alum_hash_nibbles), ("alum/hash.constants", laid_alum_hash_constants)], narrowed := true }
def HashCrcMatchesSpecUptoSaid : Prop := hashCrcMatchesSpecUptoRow.holds Tryd.pinned (OpenSpec.upto hashCrcMatchesSpecSpec)

/-- 'alumlaw02.HashCrcStreams', WHERE WHAT IT READS IS OF BULK AT MOST 1048576: true; the input reads as it did. -/
def hashCrcStreamsUptoRow : OpenClaim := { program := "ytcngnpkpaliflaadoor", sum := "62b4c6da75f85835bbfc60574427e8f340de01707c3fe5254808b0278fa47086", func := "alum/alumlaw02.HashCrcStreams", spec := "hashCrcStreams", named := ["alum/hash.constants", "alum/hash.nibbles"], apart := false, laid := [("alum/hash.nibbles", laid_alum_hash_nibbles), ("alum/hash.constants", laid_alum_hash_constants)], narrowed := true }
def HashCrcStreamsUptoSaid : Prop := hashCrcStreamsUptoRow.holds Tryd.pinned (OpenSpec.upto hashCrcStreamsSpec)

/-- 'alumlaw02.HashWordsMatchSpec', WHERE WHAT IT READS IS OF BULK AT MOST 1048576: true; the input reads as it did. -/
def hashWordsMatchSpecUptoRow : OpenClaim := { program := "ytcngnpkpaliflaadoor", sum := "62b4c6da75f85835bbfc60574427e8f340de01707c3fe5254808b0278fa47086", func := "alum/alumlaw02.HashWordsMatchSpec", spec := "hashWordsMatchSpec", named := ["alum/hash.constants", "alum/hash.nibbles"], apart := false, laid := [("alum/hash.nibbles", laid_alum_hash_nibbles), ("alum/hash.constants", laid_alum_hash_constants)], narrowed := true }
def HashWordsMatchSpecUptoSaid : Prop := hashWordsMatchSpecUptoRow.holds Tryd.pinned (OpenSpec.upto hashWordsMatchSpecSpec)

/-- 'alumlaw02.HashJoinMatchesSpec', WHERE WHAT IT READS IS OF BULK AT MOST 1048576: true; the input reads as it did. -/
def hashJoinMatchesSpecUptoRow : OpenClaim := { program := "ytcngnpkpaliflaadoor", sum := "62b4c6da75f85835bbfc60574427e8f340de01707c3fe5254808b0278fa47086", func := "alum/alumlaw02.HashJoinMatchesSpec", spec := "hashJoinMatchesSpec", named := ["alum/hash.constants", "alum/hash.nibbles"], apart := false, laid := [("alum/hash.nibbles", laid_alum_hash_nibbles), ("alum/hash.constants", laid_alum_hash_constants)], narrowed := true }
def HashJoinMatchesSpecUptoSaid : Prop := hashJoinMatchesSpecUptoRow.holds Tryd.pinned (OpenSpec.upto hashJoinMatchesSpecSpec)

/-- 'alumlaw02.HashCrcJoins', WHERE WHAT IT READS IS OF BULK AT MOST 1048576: true; the input reads as it did. -/
def hashCrcJoinsUptoRow : OpenClaim := { program := "ytcngnpkpaliflaadoor", sum := "62b4c6da75f85835bbfc60574427e8f340de01707c3fe5254808b0278fa47086", func := "alum/alumlaw02.HashCrcJoins", spec := "hashCrcJoins", named := ["alum/hash.constants", "alum/hash.nibbles"], apart := false, laid := [("alum/hash.nibbles", laid_alum_hash_nibbles), ("alum/hash.constants", laid_alum_hash_constants)], narrowed := true }
def HashCrcJoinsUptoSaid : Prop := hashCrcJoinsUptoRow.holds Tryd.pinned (OpenSpec.upto hashCrcJoinsSpec)

/-- 'alumlaw02.HashShifts', WHERE WHAT IT READS IS OF BULK AT MOST 1048576: true; the input reads as it did. -/
def hashShiftsUptoRow : OpenClaim := { program := "ytcngnpkpaliflaadoor", sum := "62b4c6da75f85835bbfc60574427e8f340de01707c3fe5254808b0278fa47086", func := "alum/alumlaw02.HashShifts", spec := "hashShifts", named := ["alum/hash.constants", "alum/hash.nibbles"], apart := false, laid := [("alum/hash.nibbles", laid_alum_hash_nibbles), ("alum/hash.constants", laid_alum_hash_constants)], narrowed := true }
def HashShiftsUptoSaid : Prop := hashShiftsUptoRow.holds Tryd.pinned (OpenSpec.upto hashShiftsSpec)

/-- 'alumlaw02.HashCrcLinear', WHERE WHAT IT READS IS OF BULK AT MOST 1048576: true; the input reads as it did. -/
def hashCrcLinearUptoRow : OpenClaim := { program := "ytcngnpkpaliflaadoor", sum := "62b4c6da75f85835bbfc60574427e8f340de01707c3fe5254808b0278fa47086", func := "alum/alumlaw02.HashCrcLinear", spec := "hashCrcLinear", named := ["alum/hash.constants", "alum/hash.nibbles"], apart := false, laid := [("alum/hash.nibbles", laid_alum_hash_nibbles), ("alum/hash.constants", laid_alum_hash_constants)], narrowed := true }
def HashCrcLinearUptoSaid : Prop := hashCrcLinearUptoRow.holds Tryd.pinned (OpenSpec.upto hashCrcLinearSpec)

/-- 'alumlaw02.HashCrcBursts', WHERE WHAT IT READS IS OF BULK AT MOST 1048576: true; the input reads as it did. -/
def hashCrcBurstsUptoRow : OpenClaim := { program := "ytcngnpkpaliflaadoor", sum := "62b4c6da75f85835bbfc60574427e8f340de01707c3fe5254808b0278fa47086", func := "alum/alumlaw02.HashCrcBursts", spec := "hashCrcBursts", named := ["alum/hash.constants", "alum/hash.nibbles"], apart := false, laid := [("alum/hash.nibbles", laid_alum_hash_nibbles), ("alum/hash.constants", laid_alum_hash_constants)], narrowed := true }
def HashCrcBurstsUptoSaid : Prop := hashCrcBurstsUptoRow.holds Tryd.pinned (OpenSpec.upto hashCrcBurstsSpec)

/-- 'alumlaw02.HashSumMatchesSpec', WHERE WHAT IT READS IS OF BULK AT MOST 1048576: true; the input reads as it did. -/
def hashSumMatchesSpecUptoRow : OpenClaim := { program := "ytcngnpkpaliflaadoor", sum := "62b4c6da75f85835bbfc60574427e8f340de01707c3fe5254808b0278fa47086", func := "alum/alumlaw02.HashSumMatchesSpec", spec := "hashSumMatchesSpec", named := ["alum/hash.constants", "alum/hash.nibbles", "alum/alumref02.constants"], apart := false, laid := [("alum/alumref02.constants", laid_alum_alumref02_constants), ("alum/hash.nibbles", laid_alum_hash_nibbles), ("alum/hash.constants", laid_alum_hash_constants)], narrowed := true }
def HashSumMatchesSpecUptoSaid : Prop := hashSumMatchesSpecUptoRow.holds Tryd.pinned (OpenSpec.upto hashSumMatchesSpecSpec)

/-- 'alumlaw02.HashStreamsAgree', WHERE WHAT IT READS IS OF BULK AT MOST 1048576: true; the input reads as it did. -/
def hashStreamsAgreeUptoRow : OpenClaim := { program := "ytcngnpkpaliflaadoor", sum := "62b4c6da75f85835bbfc60574427e8f340de01707c3fe5254808b0278fa47086", func := "alum/alumlaw02.HashStreamsAgree", spec := "hashStreamsAgree", named := ["alum/hash.constants", "alum/hash.nibbles"], apart := false, laid := [("alum/hash.nibbles", laid_alum_hash_nibbles), ("alum/hash.constants", laid_alum_hash_constants)], narrowed := true }
def HashStreamsAgreeUptoSaid : Prop := hashStreamsAgreeUptoRow.holds Tryd.pinned (OpenSpec.upto hashStreamsAgreeSpec)

/-- 'alumlaw02.HashOfMatchesSpec', WHERE WHAT IT READS IS OF BULK AT MOST 1048576: true; the input reads as it did. -/
def hashOfMatchesSpecUptoRow : OpenClaim := { program := "ytcngnpkpaliflaadoor", sum := "62b4c6da75f85835bbfc60574427e8f340de01707c3fe5254808b0278fa47086", func := "alum/alumlaw02.HashOfMatchesSpec", spec := "hashOfMatchesSpec", named := ["alum/hash.constants", "alum/hash.nibbles", "alum/alumref02.constants"], apart := false, laid := [("alum/alumref02.constants", laid_alum_alumref02_constants), ("alum/hash.nibbles", laid_alum_hash_nibbles), ("alum/hash.constants", laid_alum_hash_constants)], narrowed := true }
def HashOfMatchesSpecUptoSaid : Prop := hashOfMatchesSpecUptoRow.holds Tryd.pinned (OpenSpec.upto hashOfMatchesSpecSpec)

/-- 'alumlaw02.HashOfSeparates', WHERE WHAT IT READS IS OF BULK AT MOST 1048576: true; the input reads as it did. -/
def hashOfSeparatesUptoRow : OpenClaim := { program := "ytcngnpkpaliflaadoor", sum := "62b4c6da75f85835bbfc60574427e8f340de01707c3fe5254808b0278fa47086", func := "alum/alumlaw02.HashOfSeparates", spec := "hashOfSeparates", named := ["alum/hash.constants", "alum/hash.nibbles"], apart := false, laid := [("alum/hash.nibbles", laid_alum_hash_nibbles), ("alum/hash.constants", laid_alum_hash_constants)], narrowed := true }
def HashOfSeparatesUptoSaid : Prop := hashOfSeparatesUptoRow.holds Tryd.pinned (OpenSpec.upto hashOfSeparatesSpec)

end Rows
end Go.Proofs.YtcngnpkpaliflaaDoor
