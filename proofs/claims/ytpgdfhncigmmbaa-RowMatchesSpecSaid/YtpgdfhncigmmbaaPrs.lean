/-
  Plain mathematics of chapter 20: what Parse reads. No condition.
-/
import Derived.Test.YtpgdfhncigmmbaaF20
namespace Go.Proofs.Ytpgdfhncigmmbaa
open Go.RowKit

def lim40 : Int := 1099511627776
/-- The next word, less than a limit. -/
def rdW (lim : Int) : List Int → Option (Int × List Int)
  | [] => none
  | n :: l => if n < 0 ∨ lim ≤ n then none else some (n, l)
/-- The first i bytes of a word, the highest first. -/
def byteAt (w : Int) (i : Nat) : UInt8 := UInt8.ofNat (w.toNat / 256 ^ (4 - i))
def bytesTo (w : Int) (i : Nat) : List UInt8 := (List.range i).map (byteAt w)
/-- The bytes of k words. -/
def rdB (l : List Int) : Nat → Option (List UInt8 × List Int)
  | 0 => some ([], l)
  | k + 1 => (rdB l k).bind fun p => (rdW lim40 p.2).map fun q => (p.1 ++ bytesTo q.1 5, q.2)
/-- A text of n bytes. -/
def rdT (n : Nat) (l : List Int) : Option (List UInt8 × List Int) := (rdB l (nWords n)).bind fun p => if (p.1.drop n).all (fun b => decide (b.toNat = 0)) then some (p.1.take n, p.2) else none
def rdV (kind : Int) (l : List Int) : Option (Val × List Int) :=
  if kind = 1 then (rdW lim40 l).map fun q => (⟨1, q.1 - 549755813888, []⟩, q.2)
  else if kind = 3 then (rdW 2 l).map fun q => (⟨3, q.1, []⟩, q.2)
  else (rdW 41 l).bind fun q => (rdT q.1.toNat q.2).map fun p => (⟨kind, 0, p.1⟩, p.2)
def rdC (l : List Int) : Option (Col × List Int) := (rdW 256 l).bind fun q => (rdT (q.1 / 8).toNat q.2).map fun p => (⟨p.1, q.1 % 4, decide (q.1 / 4 % 2 = 1)⟩, p.2)
/-- The lowest n digits, base 16, of a number. -/
def digits (c : Int) (n : Nat) : List Int := (List.range n).map fun i => c / ((16 ^ i : Nat) : Int) % 16
def rdI (l : List Int) : Option (Ix × List Int) := (rdW 1024 l).bind fun q => (rdW lim40 q.2).bind fun c => (rdT (q.1 / 32).toNat c.2).bind fun p =>
  if c.1 / ((16 ^ (q.1 / 2 % 16).toNat : Nat) : Int) = 0 then some (⟨p.1, digits c.1 (q.1 / 2 % 16).toNat, decide (q.1 % 2 = 1)⟩, p.2) else none
def rdK (cols : List Col) (l : List Int) : Option (Chk × List Int) := (rdW 512 l).bind fun q =>
  if (cols.length : Int) ≤ q.1 % 16 then none else (rdV (cols.getD (q.1 % 16).toNat default).kind q.2).map fun p => (⟨q.1 % 16, q.1 / 16, p.1⟩, p.2)
def rdMany {α : Type} (f : List Int → Option (α × List Int)) (l : List Int) : Nat → Option (List α × List Int)
  | 0 => some ([], l)
  | k + 1 => (rdMany f l k).bind fun p => (f p.2).map fun q => (p.1 ++ [q.1], q.2)
/-- The table that a list of words says, if it says one. -/
def parseT (l : List Int) : Option Tab :=
  (rdW 131072 l).bind fun h => (rdT (h.1 / 4096).toNat h.2).bind fun nm => (rdMany rdC nm.2 (h.1 % 16).toNat).bind fun cs => (rdMany rdI cs.2 (h.1 / 16 % 16).toNat).bind fun xs =>
    (rdMany (rdK cs.1) xs.2 (h.1 / 256 % 16).toNat).bind fun ks => if ks.2 = [] ∧ checkT ⟨nm.1, cs.1, xs.1, ks.1⟩ = 0 then some ⟨nm.1, cs.1, xs.1, ks.1⟩ else none

theorem rdW_some {lim n : Int} {l l' : List Int} (h : rdW lim l = some (n, l')) : l = n :: l' ∧ 0 ≤ n ∧ n < lim := by
  cases l with
  | nil => cases h
  | cons m l =>
    simp only [rdW] at h
    split at h
    · cases h
    · simp only [Option.some.injEq, Prod.mk.injEq] at h
      obtain ⟨rfl, rfl⟩ := h
      exact ⟨rfl, by omega, by omega⟩
theorem rdW_none {lim : Int} {l : List Int} (h : rdW lim l = none) : l = [] ∨ ∃ n l', l = n :: l' ∧ (n < 0 ∨ lim ≤ n) := by
  cases l with
  | nil => exact .inl rfl
  | cons m l =>
    refine .inr ⟨m, l, rfl, ?_⟩
    simp only [rdW] at h
    split at h
    · assumption
    · cases h
theorem rdW_cons {lim n : Int} {l : List Int} (h0 : 0 ≤ n) (h1 : n < lim) : rdW lim (n :: l) = some (n, l) := by
  simp only [rdW]; rw [if_neg (by omega)]
theorem bytesTo_len (w : Int) (i : Nat) : (bytesTo w i).length = i := by simp [bytesTo]
theorem bytesTo_succ (w : Int) (i : Nat) : bytesTo w (i + 1) = bytesTo w i ++ [byteAt w i] := by simp [bytesTo, List.range_succ]
theorem digits_len (c : Int) (n : Nat) : (digits c n).length = n := by simp [digits]
theorem digits_succ (c : Int) (n : Nat) : digits c (n + 1) = digits c n ++ [c / ((16 ^ n : Nat) : Int) % 16] := by simp [digits, List.range_succ]
theorem rdB_len {l : List Int} : ∀ {k : Nat} {p : List UInt8 × List Int}, rdB l k = some p → p.1.length = 5 * k
  | 0, p, h => by simp only [rdB, Option.some.injEq] at h; subst h; rfl
  | k + 1, p, h => by
    unfold rdB at h
    obtain ⟨q, h1, h2⟩ := Option.bind_eq_some_iff.1 h
    obtain ⟨r, h3, rfl⟩ := Option.map_eq_some_iff.1 h2
    rw [List.length_append, rdB_len h1, bytesTo_len]; omega
theorem rdT_len {l : List Int} {n : Nat} {p : List UInt8 × List Int} (h : rdT n l = some p) : p.1.length = n := by
  unfold rdT at h
  obtain ⟨q, h1, h2⟩ := Option.bind_eq_some_iff.1 h
  split at h2
  · simp only [Option.some.injEq] at h2; subst h2
    rw [List.length_take, rdB_len h1]; unfold nWords; omega
  · cases h2
theorem rdMany_len {α : Type} {f : List Int → Option (α × List Int)} {l : List Int} : ∀ {k : Nat} {p : List α × List Int}, rdMany f l k = some p → p.1.length = k
  | 0, p, h => by simp only [rdMany, Option.some.injEq] at h; subst h; rfl
  | k + 1, p, h => by
    unfold rdMany at h
    obtain ⟨q, h1, h2⟩ := Option.bind_eq_some_iff.1 h
    obtain ⟨r, h3, rfl⟩ := Option.map_eq_some_iff.1 h2
    rw [List.length_append, rdMany_len h1]; rfl
end Go.Proofs.Ytpgdfhncigmmbaa
