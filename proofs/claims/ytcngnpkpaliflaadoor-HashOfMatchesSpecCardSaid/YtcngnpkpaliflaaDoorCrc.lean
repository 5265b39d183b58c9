/-
  Plain mathematics of chapter 2: the register of the check as a vector of 40 bits; its steps are linear; multiplication. No condition.
-/
import Derived.WalkKit
namespace Go.Proofs.YtcngnpkpaliflaaDoor

/-- One bit of a message, as the specification has it. -/
def stp (r : BitVec 40) (b : Bool) : BitVec 40 := (r <<< 1) ^^^ (if r.msb ^^ b then 0x0004820009#40 else 0#40)

theorem ite_xor (a b : Bool) (p : BitVec 40) : (if a ^^ b then p else 0#40) = (if a then p else 0#40) ^^^ (if b then p else 0#40) := by
  cases a <;> cases b <;> simp

theorem shl_xor (a b : BitVec 40) (n : Nat) : (a ^^^ b) <<< n = (a <<< n) ^^^ (b <<< n) := by
  apply BitVec.eq_of_getLsbD_eq
  intro i hi
  simp only [BitVec.getLsbD_shiftLeft, BitVec.getLsbD_xor]
  cases decide (i < 40) <;> cases decide (i < n) <;> simp

theorem xor4 (a b c d : BitVec 40) : (a ^^^ b) ^^^ (c ^^^ d) = (a ^^^ c) ^^^ (b ^^^ d) := by
  rw [BitVec.xor_assoc, BitVec.xor_assoc, ← BitVec.xor_assoc b c d, BitVec.xor_comm b c, BitVec.xor_assoc c b d]

theorem stp_xor (r s : BitVec 40) (a b : Bool) : stp (r ^^^ s) (a ^^ b) = stp r a ^^^ stp s b := by
  unfold stp
  rw [shl_xor, show ((r ^^^ s).msb ^^ (a ^^ b)) = ((r.msb ^^ a) ^^ (s.msb ^^ b)) from by
    rw [BitVec.msb_xor]; cases r.msb <;> cases s.msb <;> cases a <;> cases b <;> rfl, ite_xor, xor4]

theorem stp_zero : stp 0#40 false = 0#40 := by decide

/-- A list of bits, one after the other. -/
def stps (r : BitVec 40) (l : List Bool) : BitVec 40 := l.foldl stp r
theorem stps_nil (r : BitVec 40) : stps r [] = r := rfl
theorem stps_cons (r : BitVec 40) (b : Bool) (l : List Bool) : stps r (b :: l) = stps (stp r b) l := rfl
theorem stps_append (r : BitVec 40) (l m : List Bool) : stps r (l ++ m) = stps (stps r l) m := List.foldl_append

theorem stps_xor : ∀ (l m : List Bool) (r s : BitVec 40), l.length = m.length → stps (r ^^^ s) (List.zipWith (fun a b => a ^^ b) l m) = stps r l ^^^ stps s m
  | [], [], r, s, _ => rfl
  | a :: l, b :: m, r, s, h => by
    rw [List.zipWith_cons_cons, stps_cons, stps_cons, stps_cons, stp_xor]
    exact stps_xor l m _ _ (by simpa using h)

/-- x times, and its powers. -/
def mulX (n : Nat) (r : BitVec 40) : BitVec 40 := stps r (List.replicate n false)
theorem mulX_zero (r : BitVec 40) : mulX 0 r = r := rfl
theorem mulX_succ (n : Nat) (r : BitVec 40) : mulX (n + 1) r = mulX n (stp r false) := rfl
theorem mulX_add (m n : Nat) (r : BitVec 40) : mulX (m + n) r = mulX n (mulX m r) := by
  unfold mulX; rw [← List.replicate_append_replicate, stps_append]
theorem mulX_one (r : BitVec 40) : mulX 1 r = stp r false := rfl
theorem mulX_comm (m n : Nat) (r : BitVec 40) : mulX m (mulX n r) = mulX n (mulX m r) := by
  rw [← mulX_add, ← mulX_add, Nat.add_comm]

theorem zip_false (n : Nat) : List.zipWith (fun a b => a ^^ b) (List.replicate n false) (List.replicate n false) = List.replicate n false := by
  induction n with
  | zero => rfl
  | succ n ih => rw [List.replicate_succ, List.zipWith_cons_cons, ih]; rfl
theorem mulX_xor (n : Nat) (r s : BitVec 40) : mulX n (r ^^^ s) = mulX n r ^^^ mulX n s := by
  unfold mulX
  have h := stps_xor (List.replicate n false) (List.replicate n false) r s rfl
  rwa [zip_false] at h
theorem mulX_z (n : Nat) : mulX n 0#40 = 0#40 := by
  induction n with
  | zero => rfl
  | succ n ih => rw [mulX_succ, stp_zero, ih]

/-- x is a unit: its inverse. -/
def divX (r : BitVec 40) : BitVec 40 := if r.getLsbD 0 then ((r ^^^ 0x0004820009#40) >>> 1) ^^^ 0x8000000000#40 else r >>> 1
theorem stp_inj0 (r : BitVec 40) (h : stp r false = 0#40) : r = 0#40 := by
  unfold stp at h
  rw [Bool.xor_false] at h
  cases hm : r.msb with
  | true =>
    rw [hm, if_pos rfl] at h
    have := congrArg (fun v => BitVec.getLsbD v 0) h
    simp at this
  | false =>
    rw [hm] at h
    simp only [Bool.false_eq_true, if_false, BitVec.xor_zero] at h
    apply BitVec.eq_of_getLsbD_eq
    intro i hi
    by_cases h39 : i = 39
    · subst h39
      rw [BitVec.msb_eq_getLsbD_last] at hm
      simpa using hm
    · have := congrArg (fun v => BitVec.getLsbD v (i + 1)) h
      simp only [BitVec.getLsbD_shiftLeft] at this
      have h2 : i + 1 < 40 := by omega
      simpa [h2] using this
theorem stp_inj {r s : BitVec 40} (h : stp r false = stp s false) : r = s := by
  have : stp (r ^^^ s) false = 0#40 := by
    have := stp_xor r s false false
    rw [Bool.xor_false] at this
    rw [this, h, BitVec.xor_self]
  have := congrArg (fun v => v ^^^ s) (stp_inj0 _ this)
  simpa [BitVec.xor_assoc] using this
theorem mulX_inj {n : Nat} {r s : BitVec 40} (h : mulX n r = mulX n s) : r = s := by
  induction n generalizing r s with
  | zero => exact h
  | succ n ih => exact stp_inj (ih (by simpa only [mulX_succ] using h))

/-- Multiplication: the sum of a times x^i over the bits i of b, the highest ones first. -/
def mulTo (a b : BitVec 40) : Nat → BitVec 40
  | 0 => 0#40
  | k + 1 => stp (mulTo a b k) false ^^^ (if b.getLsbD (39 - k) then a else 0#40)
def mul (a b : BitVec 40) : BitVec 40 := mulTo a b 40

/-- The sum of a times x^i over the bits i < n of b. -/
def low (a b : BitVec 40) : Nat → BitVec 40
  | 0 => 0#40
  | n + 1 => low a b n ^^^ (if b.getLsbD n then mulX n a else 0#40)

theorem mulX_ite (n : Nat) (c : Bool) (a : BitVec 40) : mulX n (if c then a else 0#40) = if c then mulX n a else 0#40 := by
  cases c
  · exact mulX_z n
  · rfl

theorem low_mulTo (a b : BitVec 40) : ∀ n, n ≤ 40 → low a b 40 = low a b (40 - n) ^^^ mulX (40 - n) (mulTo a b n)
  | 0, _ => by rw [mulTo, mulX_z, BitVec.xor_zero]
  | n + 1, h => by
    rw [low_mulTo a b n (by omega), show 40 - n = 40 - (n + 1) + 1 from by omega, low, mulTo, mulX_xor, show 39 - n = 40 - (n + 1) from by omega, mulX_ite, mulX_succ, BitVec.xor_assoc]
    congr 1
    exact BitVec.xor_comm _ _
theorem mul_low (a b : BitVec 40) : mul a b = low a b 40 := by
  have := low_mulTo a b 40 (Nat.le_refl _)
  rw [this]
  show _ = 0#40 ^^^ mulX 0 (mulTo a b 40)
  rw [mulX_zero, BitVec.zero_xor]; rfl

theorem low_xor (a a' b : BitVec 40) : ∀ n, low (a ^^^ a') b n = low a b n ^^^ low a' b n
  | 0 => by simp [low]
  | n + 1 => by
    rw [low, low, low, low_xor a a' b n, mulX_xor]
    cases b.getLsbD n
    · simp
    · simp only [if_true]; rw [xor4]
theorem low_xor_right (a b b' : BitVec 40) : ∀ n, low a (b ^^^ b') n = low a b n ^^^ low a b' n
  | 0 => by simp [low]
  | n + 1 => by
    rw [low, low, low, low_xor_right a b b' n, BitVec.getLsbD_xor, ite_xor, xor4]
theorem low_mulX (m : Nat) (a b : BitVec 40) : ∀ n, low (mulX m a) b n = mulX m (low a b n)
  | 0 => by simp [low, mulX_z]
  | n + 1 => by rw [low, low, low_mulX m a b n, mulX_xor, mulX_ite, mulX_comm]
theorem low_z (b : BitVec 40) : ∀ n, low 0#40 b n = 0#40
  | 0 => rfl
  | n + 1 => by rw [low, low_z b n, mulX_z]; simp

theorem mul_xor (a a' b : BitVec 40) : mul (a ^^^ a') b = mul a b ^^^ mul a' b := by simp only [mul_low, low_xor]
theorem mul_xor_right (a b b' : BitVec 40) : mul a (b ^^^ b') = mul a b ^^^ mul a b' := by simp only [mul_low, low_xor_right]
theorem mul_mulX (m : Nat) (a b : BitVec 40) : mul (mulX m a) b = mulX m (mul a b) := by simp only [mul_low, low_mulX]
theorem mul_z (b : BitVec 40) : mul 0#40 b = 0#40 := by rw [mul_low, low_z]

/-- 1 times b is b. -/
theorem low_one (b : BitVec 40) : ∀ n, n ≤ 40 → ∀ i, i < 40 → (low 1#40 b n).getLsbD i = (decide (i < n) && b.getLsbD i)
  | 0, _, i, _ => by simp [low]
  | n + 1, h, i, hi => by
    have hx : mulX n 1#40 = 1#40 <<< n := by
      have : ∀ k : Fin 40, mulX k.val 1#40 = 1#40 <<< k.val := by decide
      exact this ⟨n, by omega⟩
    rw [low, BitVec.getLsbD_xor, low_one b n (by omega) i hi, hx]
    by_cases hin : i = n
    · subst hin
      cases hb : b.getLsbD i <;> simp [hi]
    · have h1 : (1#40 <<< n).getLsbD i = false := by
        rw [BitVec.getLsbD_shiftLeft]
        by_cases hl : i < n
        · simp [hl]
        · have : i - n ≠ 0 := by omega
          simp [BitVec.getLsbD_one, this]
      cases hb : b.getLsbD n
      · simp only [Bool.false_eq_true, if_false, BitVec.getLsbD_zero, Bool.xor_false]
        rw [show decide (i < n) = decide (i < n + 1) from by rw [decide_eq_decide]; omega]
      · simp only [if_true, h1, Bool.xor_false]
        rw [show decide (i < n) = decide (i < n + 1) from by rw [decide_eq_decide]; omega]
theorem one_mul' (b : BitVec 40) : mul 1#40 b = b := by
  rw [mul_low]
  apply BitVec.eq_of_getLsbD_eq
  intro i hi
  rw [low_one b 40 (Nat.le_refl _) i hi]; simp [hi]

/-- A linear map that commutes with x is the multiplication by what it makes of 1. -/
theorem mul_of_comm (f : BitVec 40 → BitVec 40) (hx : ∀ a b, f (a ^^^ b) = f a ^^^ f b) (hz : f 0#40 = 0#40) (hc : ∀ n a, f (mulX n a) = mulX n (f a)) (b : BitVec 40) : f b = mul (f 1#40) b := by
  have h : ∀ n, f (low 1#40 b n) = low (f 1#40) b n := by
    intro n
    induction n with
    | zero => exact hz
    | succ n ih =>
      rw [low, low, hx, ih]
      cases b.getLsbD n
      · simp [hz]
      · simp [hc]
  have := h 40
  rwa [← mul_low, ← mul_low, one_mul'] at this

theorem mul_one' (a : BitVec 40) : mul a 1#40 = a := by
  have h : ∀ n, n < 40 → low a 1#40 (n + 1) = a := by
    intro n
    induction n with
    | zero => intro _; simp [low, mulX_zero]
    | succ n ih => intro hn; rw [low, ih (by omega)]; simp [BitVec.getLsbD_one]
  rw [mul_low]; exact h 39 (by omega)

theorem mul_comm' (a b : BitVec 40) : mul a b = mul b a := by
  have h := mul_of_comm (fun v => mul v a) (fun x y => mul_xor x y a) (mul_z a) (fun n x => mul_mulX n x a) b
  have h3 : mul b a = mul (mul 1#40 a) b := h
  rw [h3, one_mul']
theorem mul_assoc' (a b c : BitVec 40) : mul (mul a b) c = mul a (mul b c) := by
  have h2 := mul_of_comm (fun v => mul a (mul b v)) (fun x y => by simp only [mul_xor_right]) (by show mul a (mul b _) = _; rw [mul_comm' b, mul_z, mul_comm' a, mul_z])
    (fun n x => by show mul a (mul b _) = mulX n (mul a (mul b x)); rw [mul_comm' b, mul_mulX, mul_comm' a, mul_mulX, mul_comm' x, mul_comm' _ a]) c
  have h3 : mul a (mul b c) = mul (mul a (mul b 1#40)) c := h2
  rw [mul_one'] at h3
  exact h3.symm
theorem mulX_mul (n : Nat) (a : BitVec 40) : mulX n a = mul a (mulX n 1#40) := by
  rw [mul_comm', mul_mulX, one_mul']
end Go.Proofs.YtcngnpkpaliflaaDoor
