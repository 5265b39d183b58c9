/-
  Plain mathematics of chapter 2: a burst of at most 40 bits changes the check. No condition.
-/
import Derived.Test.YtcngnpkpaliflaaDoorL3
namespace Go.Proofs.YtcngnpkpaliflaaDoor

/-- Bits as the highest ones of a register. -/
def top : List Bool → BitVec 40
  | [] => 0#40
  | b :: p => (if b then 0x8000000000#40 else 0#40) ^^^ (top p >>> 1)
theorem top_bit (p : List Bool) (i : Nat) (hi : i < 40) : (top p).getLsbD i = p.getD (39 - i) false := by
  induction p generalizing i with
  | nil => simp [top]
  | cons b p ih =>
    rw [top, BitVec.getLsbD_xor, BitVec.getLsbD_ushiftRight]
    by_cases h : i = 39
    · subst h
      have h1 : (top p).getLsbD (1 + 39) = false := BitVec.getLsbD_of_ge _ _ (by omega)
      rw [h1, Nat.sub_self, List.getD_cons_zero]
      have key : ∀ b : Bool, ((if b then 0x8000000000#40 else 0#40).getLsbD 39 ^^ false) = b := by decide
      exact key b
    · have hx : (if b then 0x8000000000#40 else 0#40).getLsbD i = false := by
        have key : ∀ j : Fin 39, (0x8000000000#40).getLsbD j.val = false := by decide
        cases b
        · simp
        · exact key ⟨i, by omega⟩
      rw [hx, Bool.false_xor, ih (1 + i) (by omega), show 39 - i = (39 - (1 + i)) + 1 from by omega, List.getD_cons_succ]
theorem top_msb (b : Bool) (p : List Bool) : (top (b :: p)).msb = b := by
  rw [BitVec.msb_eq_getLsbD_last, top_bit _ _ (by omega)]; rfl
theorem top_shl (b : Bool) (p : List Bool) (hp : p.length ≤ 39) : top (b :: p) <<< 1 = top p := by
  apply BitVec.eq_of_getLsbD_eq
  intro i hi
  rw [BitVec.getLsbD_shiftLeft, top_bit p i hi]
  by_cases h : i = 0
  · subst h
    rw [List.getD_eq_getElem?_getD, List.getElem?_eq_none (by omega)]; simp
  · rw [top_bit _ _ (by omega), show 39 - (i - 1) = (39 - i) + 1 from by omega, List.getD_cons_succ]
    simp [hi, h]
theorem stps_top (p : List Bool) (hp : p.length ≤ 40) (s : BitVec 40) : stps s p = mulX p.length (s ^^^ top p) := by
  induction p generalizing s with
  | nil => simp [top, stps_nil, mulX_zero]
  | cons b p ih =>
    rw [List.length_cons] at hp
    rw [stps_cons, ih (by omega), List.length_cons, mulX_succ]
    congr 1
    have e : stp (s ^^^ top (b :: p)) (b ^^ b) = stp s b ^^^ stp (top (b :: p)) b := stp_xor _ _ _ _
    rw [Bool.xor_self] at e
    rw [e]
    congr 1
    unfold stp
    rw [top_msb, Bool.xor_self, top_shl b p (by omega)]; simp
theorem top_zero {p : List Bool} (hp : p.length ≤ 40) (h : top p = 0#40) : ∀ b ∈ p, b = false := by
  intro b hb
  obtain ⟨i, hi, rfl⟩ := List.mem_iff_getElem.1 hb
  have := top_bit p (39 - i) (by omega)
  rw [h, show 39 - (39 - i) = i from by omega, List.getD_eq_getElem?_getD, List.getElem?_eq_getElem hi] at this
  simpa using this.symm
theorem stps_burst (f r : Nat) (p : List Bool) (hp : p.length ≤ 40) : stps 0#40 (List.replicate f false ++ p ++ List.replicate r false) = 0#40 ↔ ∀ b ∈ p, b = false := by
  have e1 : stps 0#40 (List.replicate f false) = 0#40 := mulX_z f
  rw [stps_append, stps_append, e1, stps_top p hp, BitVec.zero_xor]
  show mulX r (mulX p.length (top p)) = _ ↔ _
  constructor
  · intro h
    have h1 : mulX r (mulX p.length (top p)) = mulX r 0#40 := by rw [h, mulX_z]
    have h2 : mulX p.length (top p) = mulX p.length 0#40 := by rw [mulX_inj h1, mulX_z]
    exact top_zero hp (mulX_inj h2)
  · intro h
    have h0 : top p = 0#40 := by
      apply BitVec.eq_of_getLsbD_eq
      intro i hi
      rw [top_bit p i hi, List.getD_eq_getElem?_getD]
      cases hx : p[39 - i]? with
      | none => simp
      | some b => simp [h b (List.mem_of_getElem? hx)]
    rw [h0, mulX_z, mulX_z]

/-- The bits that differ: from place f on, the first k bits of the pattern. -/
def mask (n f P k : Nat) : List Bool := List.replicate f false ++ (List.range k).map (fun j => P.testBit j) ++ List.replicate (8 * n - f - k) false
theorem mask_length (n f P k : Nat) (h : f + k ≤ 8 * n) : (mask n f P k).length = 8 * n := by
  simp [mask]; omega
/-- Some bit of the first k of the pattern is set. -/
def anyB (P k : Nat) : Bool := (List.range k).any fun j => P.testBit j

/-- The messages that differ by a mask of at most 40 bits have the same check only if the mask is empty. -/
theorem crc_burst (l m : List UInt8) (f P k : Nat) (hk : k ≤ 40) (h : bitsOf m = List.zipWith (fun a b => a ^^ b) (bitsOf l) (mask l.length f P k)) (hf : f + k ≤ 8 * l.length) :
    (crc l = crc m) ↔ anyB P k = false := by
  have hl : (bitsOf l).length = (mask l.length f P k).length := by rw [bitsOf_length, mask_length _ _ _ _ hf]
  have hx : feed ones40 m = feed ones40 l ^^^ stps 0#40 (mask l.length f P k) := by
    have := stps_xor (bitsOf l) (mask l.length f P k) ones40 0#40 hl
    rw [BitVec.xor_zero] at this
    rw [feed_bits, h, this, feed_bits]
  have hb := stps_burst f (8 * l.length - f - k) ((List.range k).map fun j => P.testBit j) (by simp; exact hk)
  have ha : anyB P k = false ↔ ∀ b ∈ (List.range k).map (fun j => P.testBit j), b = false := by
    unfold anyB
    rw [List.any_eq_false]
    simp
  rw [ha, ← hb]
  unfold crc
  rw [hx]
  constructor
  · intro h
    have h2 := BitVec.eq_of_toNat_eq h
    have h3 := congrArg (fun v => feed ones40 l ^^^ (v ^^^ ones40)) h2
    simp only [BitVec.xor_assoc, BitVec.xor_self, BitVec.xor_zero] at h3
    rw [← BitVec.xor_assoc, BitVec.xor_self, BitVec.zero_xor] at h3
    exact h3.symm
  · intro h
    have h' : stps 0#40 (mask l.length f P k) = 0#40 := h
    rw [h', BitVec.xor_zero]
end Go.Proofs.YtcngnpkpaliflaaDoor
