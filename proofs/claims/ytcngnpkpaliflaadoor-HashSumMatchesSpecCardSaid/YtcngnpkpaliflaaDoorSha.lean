/-
  Plain mathematics of chapter 2: SHA-256 as a function of lists. No condition.
-/
import Derived.WalkKit
namespace Go.Proofs.YtcngnpkpaliflaaDoor

/-- Right rotation of a word by n places, 0 < n < 32. -/
def rot (x : UInt32) (n : Nat) : UInt32 := UInt32.ofNat (x.toNat / 2 ^ n ||| (x.toNat * 2 ^ (32 - n)) % 4294967296)

/-- The hash value: eight words. -/
structure S8 where
  a : UInt32
  b : UInt32
  c : UInt32
  d : UInt32
  e : UInt32
  f : UInt32
  g : UInt32
  h : UInt32
deriving DecidableEq

def S8.list (s : S8) : List UInt32 := [s.a, s.b, s.c, s.d, s.e, s.f, s.g, s.h]
theorem S8.list_length (s : S8) : s.list.length = 8 := rfl
theorem S8.list_inj {s t : S8} (h : s.list = t.list) : s = t := by
  cases s; cases t; simp [S8.list] at h ⊢; exact h

/-- The initial value and the round constants. -/
def iv : S8 := ⟨0x6a09e667, 0xbb67ae85, 0x3c6ef372, 0xa54ff53a, 0x510e527f, 0x9b05688c, 0x1f83d9ab, 0x5be0cd19⟩
def kN : List Nat := [
  0x428a2f98, 0x71374491, 0xb5c0fbcf, 0xe9b5dba5, 0x3956c25b, 0x59f111f1, 0x923f82a4, 0xab1c5ed5,
  0xd807aa98, 0x12835b01, 0x243185be, 0x550c7dc3, 0x72be5d74, 0x80deb1fe, 0x9bdc06a7, 0xc19bf174,
  0xe49b69c1, 0xefbe4786, 0x0fc19dc6, 0x240ca1cc, 0x2de92c6f, 0x4a7484aa, 0x5cb0a9dc, 0x76f988da,
  0x983e5152, 0xa831c66d, 0xb00327c8, 0xbf597fc7, 0xc6e00bf3, 0xd5a79147, 0x06ca6351, 0x14292967,
  0x27b70a85, 0x2e1b2138, 0x4d2c6dfc, 0x53380d13, 0x650a7354, 0x766a0abb, 0x81c2c92e, 0x92722c85,
  0xa2bfe8a1, 0xa81a664b, 0xc24b8b70, 0xc76c51a3, 0xd192e819, 0xd6990624, 0xf40e3585, 0x106aa070,
  0x19a4c116, 0x1e376c08, 0x2748774c, 0x34b0bcb5, 0x391c0cb3, 0x4ed8aa4a, 0x5b9cca4f, 0x682e6ff3,
  0x748f82ee, 0x78a5636f, 0x84c87814, 0x8cc70208, 0x90befffa, 0xa4506ceb, 0xbef9a3f7, 0xc67178f2]
def kAt (t : Nat) : UInt32 := UInt32.ofNat (kN.getD t 0)

def big1 (e : UInt32) : UInt32 := rot e 6 ^^^ rot e 11 ^^^ rot e 25
def big0 (a : UInt32) : UInt32 := rot a 2 ^^^ rot a 13 ^^^ rot a 22
def cho (e f g : UInt32) : UInt32 := (e &&& f) ^^^ ((e ^^^ 0xffffffff) &&& g)
def maj (a b c : UInt32) : UInt32 := (a &&& b) ^^^ (a &&& c) ^^^ (b &&& c)
def sm0 (p : UInt32) : UInt32 := rot p 7 ^^^ rot p 18 ^^^ (UInt32.ofNat (p.toNat / 8))
def sm1 (q : UInt32) : UInt32 := rot q 17 ^^^ rot q 19 ^^^ (UInt32.ofNat (q.toNat / 1024))

/-- A round. -/
def tx (v : S8) (k w : UInt32) : UInt32 := v.h + big1 v.e + cho v.e v.f v.g + k + w
def ty (v : S8) : UInt32 := big0 v.a + maj v.a v.b v.c
def rnd (v : S8) (k w : UInt32) : S8 := ⟨tx v k w + ty v, v.a, v.b, v.c, v.d + tx v k w, v.e, v.f, v.g⟩

/-- Four bytes as a word. -/
def word (b : List UInt8) (i : Nat) : UInt32 := UInt32.ofNat ((b.getD i 0).toNat * 16777216 + (b.getD (i + 1) 0).toNat * 65536 + (b.getD (i + 2) 0).toNat * 256 + (b.getD (i + 3) 0).toNat)

/-- The schedule of a block, word by word. -/
def wAt (b : List UInt8) (p : List UInt32) (t : Nat) : UInt32 := if t < 16 then word b (4 * t) else p.getD (t - 16) 0 + sm0 (p.getD (t - 15) 0) + p.getD (t - 7) 0 + sm1 (p.getD (t - 2) 0)
def schedTo (b : List UInt8) : Nat → List UInt32
  | 0 => []
  | t + 1 => schedTo b t ++ [wAt b (schedTo b t) t]
def sched (b : List UInt8) : List UInt32 := schedTo b 64
theorem schedTo_length (b : List UInt8) (t : Nat) : (schedTo b t).length = t := by
  induction t with
  | zero => rfl
  | succ t ih => rw [schedTo, List.length_append, ih]; rfl

/-- The rounds of a block. -/
def rndTo (s : S8) (w : List UInt32) : Nat → S8
  | 0 => s
  | t + 1 => rnd (rndTo s w t) (kAt t) (w.getD t 0)
def add8 (s v : S8) : S8 := ⟨s.a + v.a, s.b + v.b, s.c + v.c, s.d + v.d, s.e + v.e, s.f + v.f, s.g + v.g, s.h + v.h⟩
def comp (s : S8) (b : List UInt8) : S8 := add8 s (rndTo s (sched b) 64)

/-- The value behind n blocks of a message. -/
def absorb (m : List UInt8) : Nat → S8
  | 0 => iv
  | n + 1 => comp (absorb m n) ((m.drop (64 * n)).take 64)
theorem absorb_append (m t : List UInt8) (n : Nat) (h : 64 * n ≤ m.length) : absorb (m ++ t) n = absorb m n := by
  induction n with
  | zero => rfl
  | succ n ih =>
    rw [absorb, absorb, ih (by omega), List.drop_append_of_le_length (by omega), List.take_append_of_le_length (by rw [List.length_drop]; omega)]

/-- A number as eight bytes, the highest first. -/
def be8 (n : Nat) : List UInt8 := (List.range 8).map fun i => UInt8.ofNat (n / 2 ^ (56 - 8 * i))
def zeros (n : Nat) : Nat := (119 - n % 64) % 64
def padding (n : Nat) : List UInt8 := 128 :: (List.replicate (zeros n) 0 ++ be8 (8 * n))
def padded (m : List UInt8) : List UInt8 := m ++ padding m.length
theorem be8_length (n : Nat) : (be8 n).length = 8 := by simp [be8]
theorem padding_length (n : Nat) : (padding n).length = zeros n + 9 := by simp [padding, be8_length]
theorem padded_mod (m : List UInt8) : (padded m).length % 64 = 0 := by
  unfold padded; rw [List.length_append, padding_length]; unfold zeros; omega

/-- The bytes of the hash value. -/
def out32 (s : S8) : List UInt8 := (List.range 32).map fun i => UInt8.ofNat ((s.list.getD (i / 4) 0).toNat / 2 ^ (24 - 8 * (i % 4)))
theorem out32_length (s : S8) : (out32 s).length = 32 := by simp [out32]
def sha (m : List UInt8) : List UInt8 := out32 (absorb (padded m) ((padded m).length / 64))
theorem sha_length (m : List UInt8) : (sha m).length = 32 := out32_length _

/-- Known answers. -/
def abcHash : List UInt8 := [0xba, 0x78, 0x16, 0xbf, 0x8f, 0x01, 0xcf, 0xea, 0x41, 0x41, 0x40, 0xde, 0x5d, 0xae, 0x22, 0x23, 0xb0, 0x03, 0x61, 0xa3, 0x96, 0x17, 0x7a, 0x9c, 0xb4, 0x10, 0xff, 0x61, 0xf2, 0x00, 0x15, 0xad]
theorem sha_abc : sha [97, 98, 99] = abcHash := by decide +kernel
theorem sha_one : (sha [1]).take 16 = [0x4b, 0xf5, 0x12, 0x2f, 0x34, 0x45, 0x54, 0xc5, 0x3b, 0xde, 0x2e, 0xbb, 0x8c, 0xd2, 0xb7, 0xe3] := by decide +kernel
end Go.Proofs.YtcngnpkpaliflaaDoor
