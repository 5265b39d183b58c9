/-
  Plain mathematics of the stream: what it holds behind a message, and one step of Add. No condition.
-/
import Derived.Test.YtcngnpkpaliflaaDoorSha
namespace Go.Proofs.YtcngnpkpaliflaaDoor

/-- The stream s, held, n holds the message m. -/
structure Has (m : List UInt8) (s : S8) (held : List UInt8) (n : Nat) : Prop where
  words : s = absorb m (m.length / 64)
  len : held.length = 64
  rest : held.take (m.length % 64) = m.drop (64 * (m.length / 64))
  total : n = m.length % 18446744073709551616

theorem Has.begin : Has [] iv (List.replicate 64 0) 0 := ⟨rfl, by simp, rfl, rfl⟩

theorem Has.mod {m : List UInt8} {s : S8} {held : List UInt8} {n : Nat} (h : Has m s held n) : n % 64 = m.length % 64 := by
  rw [h.total]; omega

/-- The block's bytes behind a copy of p to place f. -/
def laid (held p : List UInt8) (f : Nat) : List UInt8 := held.take f ++ p ++ held.drop (f + p.length)
theorem laid_length (held p : List UInt8) (f : Nat) (h : held.length = 64) (hf : f + p.length ≤ 64) : (laid held p f).length = 64 := by
  simp [laid, h]; omega

theorem Has.part {m : List UInt8} {s : S8} {held : List UInt8} {n : Nat} (h : Has m s held n) (p : List UInt8) (hp : m.length % 64 + p.length < 64) : Has (m ++ p) s (laid held p (m.length % 64)) ((n + p.length) % 18446744073709551616) := by
  have hd : (m.length + p.length) / 64 = m.length / 64 := by omega
  have hm : (m.length + p.length) % 64 = m.length % 64 + p.length := by omega
  refine ⟨?_, laid_length _ _ _ h.len (by omega), ?_, ?_⟩
  · rw [List.length_append, hd, absorb_append _ _ _ (by omega)]; exact h.words
  · have ht : (held.take (m.length % 64)).length = m.length % 64 := by rw [List.length_take, h.len]; omega
    rw [List.length_append, hd, hm, List.drop_append_of_le_length (by omega), ← h.rest]
    unfold laid
    rw [List.take_append_of_le_length (by rw [List.length_append, ht]; omega), List.take_of_length_le (by rw [List.length_append, ht]; omega)]
  · rw [List.length_append, h.total]; omega

theorem Has.full {m : List UInt8} {s : S8} {held : List UInt8} {n : Nat} (h : Has m s held n) (p : List UInt8) (hp : m.length % 64 + p.length = 64) : Has (m ++ p) (comp s (laid held p (m.length % 64))) (laid held p (m.length % 64)) ((n + p.length) % 18446744073709551616) := by
  have hd : (m.length + p.length) / 64 = m.length / 64 + 1 := by omega
  have hm : (m.length + p.length) % 64 = 0 := by omega
  refine ⟨?_, laid_length _ _ _ h.len (by omega), ?_, ?_⟩
  · rw [List.length_append, hd, absorb, absorb_append _ _ _ (by omega), ← h.words]
    congr 1
    rw [List.drop_append_of_le_length (by omega), ← h.rest]
    unfold laid
    have ht : (held.take (m.length % 64)).length = m.length % 64 := by rw [List.length_take, h.len]; omega
    have hz : held.drop (m.length % 64 + p.length) = [] := List.drop_eq_nil_of_le (by rw [h.len]; omega)
    have hk : (held.take (m.length % 64) ++ p).take 64 = held.take (m.length % 64) ++ p := List.take_of_length_le (by rw [List.length_append, ht]; omega)
    rw [hz, List.append_nil, hk]
  · rw [List.length_append, hd, hm, List.take_zero, List.drop_eq_nil_of_le (by rw [List.length_append]; omega)]
  · rw [List.length_append, h.total]; omega

/-- The stream behind the padded message answers the message's hash. -/
theorem Has.sha {m : List UInt8} {s : S8} {held : List UInt8} {n : Nat} (h : Has (padded m) s held n) : out32 s = sha m := by
  rw [h.words]; rfl
end Go.Proofs.YtcngnpkpaliflaaDoor
