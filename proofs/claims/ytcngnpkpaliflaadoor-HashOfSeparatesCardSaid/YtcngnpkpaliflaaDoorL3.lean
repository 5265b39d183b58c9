/-
  The walks of HashCrcJoins and HashCrcLinear: each returns true and keeps what was there. No condition.
-/
import Derived.Test.YtcngnpkpaliflaaDoorL2
import Derived.Test.YtcngnpkpaliflaaDoorMk
namespace Go.Proofs.YtcngnpkpaliflaaDoor
open Go.RowKit

/-- The bits of a message. -/
def bitsOf (l : List UInt8) : List Bool := l.flatMap fun c => bits8 c.toNat
theorem bits8_length (n : Nat) : (bits8 n).length = 8 := rfl
theorem bitsOf_length (l : List UInt8) : (bitsOf l).length = 8 * l.length := by
  induction l with
  | nil => rfl
  | cons c l ih => rw [bitsOf, List.flatMap_cons, List.length_append]; unfold bitsOf at ih; rw [ih, bits8_length, List.length_cons]; omega
theorem feed_bits (r : BitVec 40) (l : List UInt8) : feed r l = stps r (bitsOf l) := by
  induction l generalizing r with
  | nil => rfl
  | cons c l ih => rw [feed_cons, ih]; show _ = stps r (bits8 c.toNat ++ bitsOf l); rw [stps_append]

theorem stps_split (r : BitVec 40) (l : List Bool) : stps r l = mulX l.length r ^^^ stps 0#40 l := by
  have h := stps_xor (List.replicate l.length false) l r 0#40 (by simp)
  rw [BitVec.xor_zero] at h
  have e : List.zipWith (fun a b => a ^^ b) (List.replicate l.length false) l = l := by
    induction l with
    | nil => rfl
    | cons b l ih => rw [List.length_cons, List.replicate_succ, List.zipWith_cons_cons, Bool.false_xor, ih (by
        have := stps_xor (List.replicate l.length false) l r 0#40 (by simp)
        rwa [BitVec.xor_zero] at this)]
  rw [e] at h
  exact h

theorem feed_split (r : BitVec 40) (l : List UInt8) : feed r l = mulX (8 * l.length) r ^^^ feed 0#40 l := by
  rw [feed_bits, feed_bits, stps_split, bitsOf_length]

theorem crc_bv (l : List UInt8) : (crc l : Int) = ((feed ones40 l ^^^ ones40).toNat : Int) := rfl
/-- The check of two messages is their checks joined. -/
theorem crc_append (l m : List UInt8) : crc (l ++ m) = join (crc l) (crc m) m.length := by
  unfold crc join
  rw [lo40_toNat, lo40_toNat, feed_append, feed_split (feed ones40 l) m, feed_split ones40 m, mulX_xor]
  congr 1
  generalize mulX (8 * m.length) (feed ones40 l) = x
  generalize mulX (8 * m.length) ones40 = y
  generalize feed 0#40 m = z
  rw [BitVec.xor_assoc x y, BitVec.xor_assoc y z, ← BitVec.xor_assoc y y, BitVec.xor_self, BitVec.zero_xor, BitVec.xor_assoc]

theorem xor4' (a b c o : BitVec 40) : (a ^^^ o) ^^^ (b ^^^ o) ^^^ (c ^^^ o) = (a ^^^ b ^^^ c) ^^^ o := by
  apply BitVec.eq_of_getLsbD_eq
  intro i hi
  simp only [BitVec.getLsbD_xor]
  cases a.getLsbD i <;> cases b.getLsbD i <;> cases c.getLsbD i <;> cases o.getLsbD i <;> rfl

theorem zip_append {α : Type} (f : α → α → α) (a b c d : List α) (h : a.length = b.length) : List.zipWith f (a ++ c) (b ++ d) = List.zipWith f a b ++ List.zipWith f c d := List.zipWith_append h
theorem bits8_xor (x y : Nat) : bits8 (x ^^^ y) = List.zipWith (fun a b => a ^^ b) (bits8 x) (bits8 y) := by
  simp only [bits8, Nat.testBit_xor, List.zipWith_cons_cons, List.zipWith_nil_left]
theorem bitsOf_zip : ∀ (l m : List UInt8), l.length = m.length → bitsOf (List.zipWith (fun a b => a ^^^ b) l m) = List.zipWith (fun a b => a ^^ b) (bitsOf l) (bitsOf m)
  | [], [], _ => rfl
  | a :: l, b :: m, h => by
    rw [List.zipWith_cons_cons, bitsOf, bitsOf, bitsOf, List.flatMap_cons, List.flatMap_cons, List.flatMap_cons, zip_append _ _ _ _ _ (by rw [bits8_length, bits8_length]), UInt8.toNat_xor, bits8_xor]
    congr 1
    exact bitsOf_zip l m (by simpa using h)
theorem feed_zip (l m : List UInt8) (h : l.length = m.length) (r s : BitVec 40) : feed (r ^^^ s) (List.zipWith (fun a b => a ^^^ b) l m) = feed r l ^^^ feed s m := by
  rw [feed_bits, feed_bits, feed_bits, bitsOf_zip l m h, stps_xor _ _ _ _ (by rw [bitsOf_length, bitsOf_length, h])]

theorem xorB_zip (a b : List UInt8) (h : a.length = b.length) : xorB a b = List.zipWith (fun a b => a ^^^ b) a b := by
  apply List.ext_getElem
  · simp [xorB, h]
  · intro i h1 h2
    simp [xorB] at h1
    simp [xorB, show i < b.length by omega, h1, List.getD]
theorem crc_linear (l m n : List UInt8) (h1 : l.length = m.length) (h2 : l.length = n.length) : crc (xorB (xorB l m) n) = crc l ^^^ crc m ^^^ crc n := by
  have e1 := xorB_zip l m h1
  have hl1 : (xorB l m).length = l.length := xorB_length l m
  rw [xorB_zip _ _ (by rw [hl1]; exact h2), e1]
  unfold crc
  have hl3 : (List.zipWith (fun a b => a ^^^ b) l m).length = n.length := by rw [List.length_zipWith]; omega
  have f := feed_zip (List.zipWith (fun a b => a ^^^ b) l m) n hl3 (ones40 ^^^ ones40) ones40
  rw [feed_zip l m h1, BitVec.xor_self, BitVec.zero_xor] at f
  rw [f, ← BitVec.toNat_xor, ← BitVec.toNat_xor, xor4']
end Go.Proofs.YtcngnpkpaliflaaDoor
