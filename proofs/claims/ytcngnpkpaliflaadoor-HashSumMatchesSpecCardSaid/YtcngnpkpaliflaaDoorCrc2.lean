/-
  Plain mathematics of chapter 2: the check by bits and by half bytes. No condition.
-/
import Derived.Test.YtcngnpkpaliflaaDoorCrc
namespace Go.Proofs.YtcngnpkpaliflaaDoor

def bits4 (n : Nat) : List Bool := [n.testBit 3, n.testBit 2, n.testBit 1, n.testBit 0]
def bits8 (n : Nat) : List Bool := [n.testBit 7, n.testBit 6, n.testBit 5, n.testBit 4, n.testBit 3, n.testBit 2, n.testBit 1, n.testBit 0]
theorem bits8_split (n : Nat) : bits8 n = bits4 (n / 16) ++ bits4 (n % 16) := by
  have h1 : ∀ i, (n / 16).testBit i = n.testBit (i + 4) := fun i => by
    rw [show (16 : Nat) = 2 ^ 4 from rfl, Nat.testBit_div_two_pow]
  have h2 : ∀ i, i < 4 → (n % 16).testBit i = n.testBit i := fun i hi => by
    rw [show (16 : Nat) = 2 ^ 4 from rfl, Nat.testBit_mod_two_pow]; simp [hi]
  simp [bits8, bits4, h1, h2]

def nibT : List Nat := [0, 75628553, 151257106, 226885659, 302514212, 378142765, 453771318, 529399871, 605028424, 546439233, 756285530, 697696339, 907542636, 848953445, 1058799742, 1000210551]

theorem stp_low {x : BitVec 40} (h : x.getLsbD 39 = false) : stp x false = x <<< 1 := by
  unfold stp
  rw [BitVec.msb_eq_getLsbD_last, h]; simp

theorem stps_low (r : BitVec 40) : stps ((r <<< 4) >>> 4) [false, false, false, false] = r <<< 4 := by
  have g : ∀ i, ((r <<< 4) >>> 4).getLsbD i = (decide (i < 36) && r.getLsbD i) := fun i => by
    rw [BitVec.getLsbD_ushiftRight, BitVec.getLsbD_shiftLeft]
    rw [show 4 + i - 4 = i from by omega]
    by_cases h : i < 36
    · simp [h]; intro _; omega
    · simp [h]; intro h2; omega
  have s : ∀ (k i : Nat), (((r <<< 4) >>> 4) <<< k).getLsbD i = (decide (i < 40) && !decide (i < k) && (decide (i - k < 36) && r.getLsbD (i - k))) := fun k i => by
    rw [BitVec.getLsbD_shiftLeft, g]
  have e1 : stp ((r <<< 4) >>> 4) false = ((r <<< 4) >>> 4) <<< 1 := stp_low (by rw [g]; simp)
  have e2 : stp (((r <<< 4) >>> 4) <<< 1) false = ((r <<< 4) >>> 4) <<< 2 := by rw [stp_low (by rw [s]; simp), ← BitVec.shiftLeft_add]
  have e3 : stp (((r <<< 4) >>> 4) <<< 2) false = ((r <<< 4) >>> 4) <<< 3 := by rw [stp_low (by rw [s]; simp), ← BitVec.shiftLeft_add]
  have e4 : stp (((r <<< 4) >>> 4) <<< 3) false = ((r <<< 4) >>> 4) <<< 4 := by rw [stp_low (by rw [s]; simp), ← BitVec.shiftLeft_add]
  rw [stps_cons, stps_cons, stps_cons, stps_cons, stps_nil, e1, e2, e3, e4]
  apply BitVec.eq_of_getLsbD_eq
  intro i hi
  rw [s, BitVec.getLsbD_shiftLeft]
  by_cases h : i < 4
  · simp [h]
  · rw [decide_eq_true (show i - 4 < 36 by omega)]; simp

theorem split_hi (r : BitVec 40) : r = ((r <<< 4) >>> 4) ^^^ ((r >>> 36) <<< 36) := by
  apply BitVec.eq_of_getLsbD_eq
  intro i hi
  rw [BitVec.getLsbD_xor, BitVec.getLsbD_ushiftRight, BitVec.getLsbD_shiftLeft, BitVec.getLsbD_shiftLeft, BitVec.getLsbD_ushiftRight, show 4 + i - 4 = i from by omega]
  by_cases h : i < 36
  · rw [decide_eq_true (show 4 + i < 40 by omega)]; simp [h]
  · rw [decide_eq_false (show ¬ 4 + i < 40 by omega), show 36 + (i - 36) = i from by omega]; simp [h, hi]

theorem hi_tab : ∀ h n : Fin 16, stps ((BitVec.ofNat 40 h.val) <<< 36) (bits4 n.val) = BitVec.ofNat 40 (nibT.getD (h.val ^^^ n.val) 0) := by decide +kernel

theorem zip_bits4 (n : Nat) : List.zipWith (fun a b => a ^^ b) [false, false, false, false] (bits4 n) = bits4 n := by simp [bits4]

theorem nibT_lt : ∀ i : Fin 16, nibT.getD i.val 0 < 1099511627776 := by decide
theorem xor16 {a b : Nat} (ha : a < 16) (hb : b < 16) : a ^^^ b < 16 := Nat.xor_lt_two_pow (n := 4) ha hb

/-- A half byte by the table. -/
theorem nib_eq (r : BitVec 40) (n : Nat) (hn : n < 16) : (stps r (bits4 n)).toNat = ((r.toNat * 16) % 1099511627776) ^^^ nibT.getD ((r.toNat / 68719476736) ^^^ n) 0 := by
  have hr := r.isLt
  have hh : r.toNat / 68719476736 < 16 := by omega
  have e : stps r (bits4 n) = (r <<< 4) ^^^ BitVec.ofNat 40 (nibT.getD ((r.toNat / 68719476736) ^^^ n) 0) := by
    conv => lhs; rw [split_hi r, ← zip_bits4 n]
    rw [stps_xor [false, false, false, false] (bits4 n) _ _ rfl, stps_low]
    have := hi_tab ⟨r.toNat / 68719476736, hh⟩ ⟨n, hn⟩
    simp only at this
    rw [← this]
    congr 3
    apply BitVec.eq_of_toNat_eq
    rw [BitVec.toNat_ushiftRight, BitVec.toNat_ofNat, Nat.shiftRight_eq_div_pow]
    omega
  rw [e, BitVec.toNat_xor, BitVec.toNat_shiftLeft, BitVec.toNat_ofNat, Nat.shiftLeft_eq, Nat.mod_eq_of_lt (a := nibT.getD _ 0)]
  exact nibT_lt ⟨_, xor16 hh hn⟩

/-- The register behind a message, and the check. -/
def feed (r : BitVec 40) (l : List UInt8) : BitVec 40 := l.foldl (fun r c => stps r (bits8 c.toNat)) r
theorem feed_nil (r : BitVec 40) : feed r [] = r := rfl
theorem feed_cons (r : BitVec 40) (c : UInt8) (l : List UInt8) : feed r (c :: l) = feed (stps r (bits8 c.toNat)) l := rfl
theorem feed_append (r : BitVec 40) (l m : List UInt8) : feed r (l ++ m) = feed (feed r l) m := List.foldl_append
theorem feed_snoc (r : BitVec 40) (l : List UInt8) (c : UInt8) : feed r (l ++ [c]) = stps (feed r l) (bits8 c.toNat) := by rw [feed_append]; rfl
def ones40 : BitVec 40 := 1099511627775#40
def crc (l : List UInt8) : Nat := (feed ones40 l ^^^ ones40).toNat
theorem crc_lt (l : List UInt8) : crc l < 1099511627776 := (feed ones40 l ^^^ ones40).isLt
theorem crc_xor (l : List UInt8) : (feed ones40 l).toNat ^^^ 1099511627775 = crc l := by unfold crc; rw [BitVec.toNat_xor]; rfl
end Go.Proofs.YtcngnpkpaliflaaDoor
