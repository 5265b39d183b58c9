/-
  Plain mathematics of chapter 20: tables as values, and what is a name. No condition.
-/
import Derived.WalkKit
namespace Go.Proofs.Ytgimkipekoabbaa

structure Col where
  name : List UInt8
  kind : Int
  null : Bool
deriving DecidableEq, Inhabited
structure Ix where
  name : List UInt8
  cols : List Int
  uniq : Bool
deriving DecidableEq, Inhabited
structure Val where
  kind : Int
  n : Int
  s : List UInt8
deriving DecidableEq, Inhabited
structure Chk where
  col : Int
  op : Int
  val : Val
deriving DecidableEq, Inhabited
structure Tab where
  name : List UInt8
  cols : List Col
  ixs : List Ix
  chks : List Chk
deriving DecidableEq, Inhabited

/-- The words that are no names. -/
def reservedWords : List (List UInt8) := [[97, 100, 100], [97, 110, 100], [97, 115], [97, 115, 99], [98, 101, 103, 105, 110], [98, 111, 111, 108], [98, 121], [99, 104, 101, 99, 107], [99, 111, 108, 117, 109, 110], [99, 111, 109, 109, 105, 116], [99, 111, 117, 110, 116], [99, 114, 101, 97, 116, 101], [100, 101, 108, 101, 116, 101], [100, 101, 115, 99], [100, 105, 115, 116, 105, 110, 99, 116], [100, 114, 111, 112], [102, 97, 108, 115, 101], [102, 114, 111, 109], [103, 114, 111, 117, 112], [105, 110, 100, 101, 120], [105, 110, 115, 101, 114, 116], [105, 110, 116], [105, 110, 116, 111], [105, 115], [106, 111, 105, 110], [107, 101, 121], [108, 105, 109, 105, 116], [109, 97, 120], [109, 105, 110], [110, 111, 116], [110, 117, 108, 108], [111, 110], [111, 110, 108, 121], [111, 114], [111, 114, 100, 101, 114], [114, 101, 97, 100], [114, 101, 108, 101, 97, 115, 101], [114, 111, 108, 108, 98, 97, 99, 107], [115, 97, 118, 101, 112, 111, 105, 110, 116], [115, 101, 108, 101, 99, 116], [115, 101, 114, 105, 97, 108, 105, 122, 97, 98, 108, 101], [115, 101, 116], [115, 117, 109], [116, 97, 98, 108, 101], [116, 101, 120, 116], [116, 111], [116, 114, 117, 101], [117, 110, 105, 113, 117, 101], [117, 112, 100, 97, 116, 101], [118, 97, 108, 117, 101, 115], [119, 104, 101, 114, 101]]
def reservedB (s : List UInt8) : Bool := decide (s ∈ reservedWords)
def letterB (c : UInt8) : Bool := decide (97 ≤ c.toNat ∧ c.toNat ≤ 122)
/-- A byte that names hold. -/
def charB (c : UInt8) : Bool := letterB c || decide (48 ≤ c.toNat ∧ c.toNat ≤ 57) || decide (c.toNat = 95)
/-- A name. -/
def nameB (s : List UInt8) : Bool := decide (0 < s.length) && decide (s.length ≤ 16) && !reservedB s && decide (97 ≤ (s.getD 0 0).toNat) && s.all charB
end Go.Proofs.Ytgimkipekoabbaa
