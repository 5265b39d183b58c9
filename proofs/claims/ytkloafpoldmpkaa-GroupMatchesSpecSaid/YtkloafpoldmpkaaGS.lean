/-
  Plain mathematics of chapter 28: a group as a value, and what its calls do. No condition.
-/
import Derived.WalkKit
namespace Go.Proofs.Ytkloafpoldmpkaa

/-- A waiting transaction. -/
structure Nd where
  tx : Int
  words : Int
  tick : Int
deriving DecidableEq, Inhabited

/-- A group. -/
structure GS where
  most : Int
  room : Int
  delay : Int
  stamp : Int
  q : List Nd
  opn : Bool
  first : Int
  txs : List Int

/-- The words of the first i that wait. -/
def GS.sumW (S : GS) (i : Nat) : Int := ((S.q.take i).map Nd.words).sum
theorem GS.sumW_zero (S : GS) : S.sumW 0 = 0 := by simp [GS.sumW]
theorem GS.sumW_succ (S : GS) (i : Nat) (h : i < S.q.length) : S.sumW (i + 1) = S.sumW i + (S.q.getD i default).words := by
  unfold GS.sumW
  have e : S.q.getD i default = S.q[i] := by rw [List.getD_eq_getElem?_getD, List.getElem?_eq_getElem h]; rfl
  rw [List.take_succ_eq_append_getElem h, e, List.map_append, List.sum_append, List.map_cons, List.map_nil, List.sum_cons, List.sum_nil, Int.add_zero]

/-- The front goes on behind place i. -/
def GS.goes (S : GS) (i : Nat) : Bool := decide (i < S.q.length) && decide ((i : Int) < S.most) && decide (S.sumW i + (S.q.getD i default).words ≤ S.room)
def GS.frontFrom (S : GS) : Nat → Nat → Nat
  | 0, i => i
  | f + 1, i => if S.goes i then S.frontFrom f (i + 1) else i
/-- The length of the front. -/
def GS.front (S : GS) : Nat := S.frontFrom S.q.length 0
theorem GS.goes_lt {S : GS} {i : Nat} (h : S.goes i = true) : i < S.q.length := by
  unfold GS.goes at h; simp at h; exact h.1.1
theorem GS.frontFrom_is (S : GS) : ∀ (f i k : Nat), i ≤ k → (∀ j, i ≤ j → j < k → S.goes j = true) → S.goes k = false → k ≤ i + f → S.frontFrom f i = k
  | 0, i, k, h1, _, _, h4 => by unfold GS.frontFrom; omega
  | f + 1, i, k, h1, h2, h3, h4 => by
    unfold GS.frontFrom
    by_cases he : i = k
    · subst he; rw [h3]; rfl
    · rw [h2 i (Nat.le_refl _) (by omega)]
      exact S.frontFrom_is f (i + 1) k (by omega) (fun j h5 h6 => h2 j (by omega) h6) h3 (by omega)
theorem GS.front_is (S : GS) {k : Nat} (h2 : ∀ j, j < k → S.goes j = true) (h3 : S.goes k = false) : S.front = k := by
  refine S.frontFrom_is S.q.length 0 k (Nat.zero_le _) (fun j _ h => h2 j h) h3 ?_
  by_cases h0 : k = 0
  · omega
  · have := GS.goes_lt (h2 (k - 1) (by omega)); omega
theorem GS.front_exists (S : GS) : ∃ k, (∀ j, j < k → S.goes j = true) ∧ S.goes k = false ∧ k ≤ S.q.length := by
  have h : ∀ n, (∀ j, j < n → S.goes j = true) ∨ ∃ k, k < n ∧ (∀ j, j < k → S.goes j = true) ∧ S.goes k = false := by
    intro n
    induction n with
    | zero => exact .inl (fun j h => by omega)
    | succ n ih =>
      rcases ih with h | ⟨k, hk, h⟩
      · cases hg : S.goes n
        · exact .inr ⟨n, by omega, h, hg⟩
        · refine .inl (fun j hj => ?_)
          by_cases e : j = n
          · subst e; exact hg
          · exact h j (by omega)
      · exact .inr ⟨k, by omega, h⟩
  rcases h (S.q.length + 1) with h | ⟨k, hk, h1, h2⟩
  · have := GS.goes_lt (h S.q.length (by omega)); omega
  · exact ⟨k, h1, h2, by omega⟩
theorem GS.front_le (S : GS) : S.front ≤ S.q.length := by
  obtain ⟨k, h1, h2, h3⟩ := S.front_exists
  rw [S.front_is h1 h2]; exact h3
theorem GS.front_goes (S : GS) : (∀ j, j < S.front → S.goes j = true) ∧ S.goes S.front = false := by
  obtain ⟨k, h1, h2, h3⟩ := S.front_exists
  rw [S.front_is h1 h2]; exact ⟨h1, h2⟩

/-- A batch is due. -/
def GS.due (S : GS) (tick : Int) : Bool := !S.opn && decide (0 < S.q.length) && (decide ((S.front : Int) = S.most) || decide (S.front < S.q.length) || decide ((S.q.getD 0 default).tick + S.delay ≤ tick))

/-- A transaction asks: what is left, and the answer. -/
def GS.ask (S : GS) (tx words tick : Int) : GS × Int :=
  if words < 1 ∨ tick < 0 ∨ 1099511627776 < tick then (S, 1)
  else if tx ∈ S.q.map Nd.tx ∨ tx ∈ S.txs then (S, 6)
  else if S.room < words ∨ 1073741824 < S.stamp + S.q.length then (S, 2)
  else ({ S with q := S.q ++ [⟨tx, words, tick⟩] }, 0)
/-- A batch is cut (where one is due). -/
def GS.cut (S : GS) : GS := { S with q := S.q.drop S.front, stamp := S.stamp + S.front, opn := true, first := S.stamp, txs := (S.q.take S.front).map Nd.tx }
/-- The open batch is closed. -/
def GS.done (S : GS) : GS := { S with opn := false, first := 0, txs := [] }
/-- The place of a waiting transaction. -/
def GS.place (S : GS) (tx : Int) : Nat := S.q.findIdx (fun n => n.tx == tx)
def GS.drop (S : GS) (tx : Int) : GS := { S with q := S.q.eraseIdx (S.place tx) }

/-- What all groups are. -/
structure GS.OK (S : GS) : Prop where
  most : 1 ≤ S.most ∧ S.most ≤ 64
  room : 1 ≤ S.room ∧ S.room ≤ 1048576
  delay : 0 ≤ S.delay ∧ S.delay ≤ 1048576
  stamp : 1 ≤ S.stamp ∧ S.stamp + S.q.length ≤ 1073741825
  q : ∀ n ∈ S.q, (1 ≤ n.words ∧ n.words ≤ S.room) ∧ (0 ≤ n.tick ∧ n.tick ≤ 1099511627776) ∧ (-9223372036854775808 ≤ n.tx ∧ n.tx ≤ 9223372036854775807)
  first : 0 ≤ S.first ∧ S.first ≤ 1073741825
  txs : S.txs.length ≤ 64 ∧ ∀ x ∈ S.txs, -9223372036854775808 ≤ x ∧ x ≤ 9223372036854775807
  nodup : (S.q.map Nd.tx).Nodup

def GS.new (most room delay next : Int) : GS := ⟨most, room, delay, next, [], false, 0, []⟩
def right (most room delay next : Int) : Bool := decide (1 ≤ most ∧ most ≤ 64 ∧ 1 ≤ room ∧ room ≤ 1048576 ∧ 0 ≤ delay ∧ delay ≤ 1048576 ∧ 1 ≤ next ∧ next ≤ 1073741824)
theorem GS.new_ok {most room delay next : Int} (h : right most room delay next = true) : (GS.new most room delay next).OK := by
  have h' := of_decide_eq_true h
  exact ⟨by simp [GS.new]; omega, by simp [GS.new]; omega, by simp [GS.new]; omega, by simp [GS.new]; omega, by simp [GS.new], by simp [GS.new], by simp [GS.new], by simp [GS.new]⟩
theorem GS.ask_ok {S : GS} (h : S.OK) {tx words tick : Int} (ht : -9223372036854775808 ≤ tx ∧ tx ≤ 9223372036854775807) : (S.ask tx words tick).1.OK := by
  unfold GS.ask
  split
  · exact h
  · split
    · exact h
    · split
      · exact h
      · rename_i h1 h2 h3
        refine ⟨h.most, h.room, h.delay, ?_, ?_, h.first, h.txs, ?_⟩
        · have := h.stamp; simp; omega
        · intro n hn
          simp only [List.mem_append, List.mem_singleton] at hn
          rcases hn with hn | rfl
          · exact h.q n hn
          · simp; omega
        · simp only [List.map_append, List.map_cons, List.map_nil]
          rw [List.nodup_append]
          refine ⟨h.nodup, by simp, fun a ha b hb e => ?_⟩
          simp only [List.mem_singleton] at hb
          subst hb; subst e
          exact h2 (.inl ha)
theorem GS.front_most {S : GS} (h : S.OK) : (S.front : Int) ≤ S.most := by
  by_cases h0 : S.front = 0
  · have := h.most; omega
  · have := S.front_goes.1 (S.front - 1) (by omega)
    unfold GS.goes at this; simp at this; omega
theorem GS.cut_ok {S : GS} (h : S.OK) : S.cut.OK := by
  have hf := S.front_le
  have hm := GS.front_most h
  refine ⟨h.most, h.room, h.delay, ?_, fun n hn => h.q n (List.mem_of_mem_drop hn), ?_, ?_, ?_⟩
  · have := h.stamp; simp [GS.cut]; omega
  · have := h.stamp; simp [GS.cut]; omega
  · refine ⟨by have := h.most; simp [GS.cut]; omega, fun x hx => ?_⟩
    simp only [GS.cut, List.mem_map] at hx
    obtain ⟨n, hn, rfl⟩ := hx
    exact (h.q n (List.mem_of_mem_take hn)).2.2
  · simp only [GS.cut, List.map_drop]
    exact h.nodup.sublist (List.drop_sublist _ _)
theorem GS.done_ok {S : GS} (h : S.OK) : S.done.OK := ⟨h.most, h.room, h.delay, h.stamp, h.q, by simp [GS.done], by simp [GS.done], h.nodup⟩
theorem GS.drop_ok {S : GS} (h : S.OK) (tx : Int) : (S.drop tx).OK := by
  refine ⟨h.most, h.room, h.delay, ?_, fun n hn => h.q n (List.mem_of_mem_eraseIdx hn), h.first, h.txs, ?_⟩
  · have h1 := h.stamp
    have h2 : (S.q.eraseIdx (S.place tx)).length ≤ S.q.length := (List.eraseIdx_sublist _ _).length_le
    simp only [GS.drop]; omega
  · simp only [GS.drop]
    exact h.nodup.sublist ((List.eraseIdx_sublist _ _).map _)
end Go.Proofs.Ytkloafpoldmpkaa
