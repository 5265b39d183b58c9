/-
  append onto a slice without room ('b[:len(b):len(b)]'). No condition.
-/
import Derived.Test.YtgimkipekoabbaaMemE
namespace Go.Proofs.Ytgimkipekoabbaa
open Go.RowKit

theorem run_append_full {P : Program} (w : World) (t tx ty e : TypeId) {z : Value} {size bytes : Nat} (hT : SlT P t e z size bytes) (htx : P.underlying tx = some (.slice e) ∨ P.underlying tx = some .string)
    (a : Option Addr) (n : Nat) (xs : List Value) (hrd : Rd w a n n size xs) (x : Value) (m : Nat) (news : List Value) (hsrc : Src P w x m size news)
    (hbytes : (n + m) * bytes ≤ 140737488355328) (h63 : n + m ≤ maxLen) :
    ∃ a' cap' w', (Builtin.append_ #[t, tx] ty #[.slice a n n, x]).run P w = .ok (.slice a' (n + m) cap') w' ∧ Rd w' a' (n + m) cap' size (xs ++ news) ∧ Below w.heap.size w w' := by
  obtain ⟨i, hi, hz, hs, hby⟩ := info_parts hT.info
  have hlo := hsrc.lenOf
  have hce := hsrc.cells
  have hcd := hsrc.cellsDrew
  have hl := hsrc.len
  have hsmall : n + m ≤ 9223372036854775807 := by simp only [maxLen] at h63; omega
  have hlen : (xs ++ news).length = (n + m) * size := by rw [List.length_append, hrd.hlen, hl, Nat.add_mul]
  have hfo : (Builtin.firstCells size n (.slice a n n)).run P w.drew = .ok xs.toArray w.drew := by
    cases a with
    | none => rw [run_firstCells_none, hrd.hnil rfl]
    | some ad => exact run_firstCells_some w.drew size n ad n n xs hrd.hlen (by simpa using hrd.hcell ad rfl)
  by_cases hm : m = 0
  · subst hm
    have hn : news = [] := List.eq_nil_of_length_eq_zero (by simpa using hl)
    subst hn
    refine ⟨a, n, w, ?_, by simpa using hrd, Below.refl _ _⟩
    have hst : ∀ ad : Addr, (storeCells ad []).run P w = .ok () w := fun ad => by simp [storeCells]
    cases a <;> rcases htx with htx | htx <;> simp [Builtin.append_, run_underlying hT.ht, run_underlying htx, sizeOf, typeInfo, hi, hs, hlo, hce, hst]
  · have hroom : ¬ (n + m ≤ n) := by omega
    have h48 : ¬ (281474976710656 < Builtin.nextslicecap (n + m) n * i.bytes) := by
      have := growslice_fits (need := n + m) (old := n) (bytes := i.bytes) (by omega) (by rw [hby]; exact hbytes); omega
    have h63' : ¬ (9223372036854775807 < ((n : Int) + (m : Int))) := by omega
    have hge := grownCap_ge w (n + m) n e
    have hcm : grownCap w (n + m) n e ≤ maxLen := grownCap_le_maxLen w (n + m) n e h63
    refine ⟨some ⟨w.heap.size, 0, none⟩, grownCap w (n + m) n e, w.drew.alloc (.cells (xs.toArray ++ news.toArray ++ Builtin.zeroCells z.cells (grownCap w (n + m) n e - (n + m))) e), ?_, ⟨hlen, hge, hcm, fun h => (by cases h), fun ad ha j u hu => ?_⟩, ((Below.refl _ _).drew).alloc (by simp) _⟩
    · rcases htx with htx | htx <;>
        (simp [Builtin.append_, run_underlying hT.ht, run_underlying htx, sizeOf, typeInfo, zeroValue, hi, hz, hs, hlo, hroom, h63', h48, Question.forced, hfo, hcd, newRow, grownCap]
         congr 2; apply Array.ext'; simp [List.append_assoc])
    · simp only [Option.some.injEq] at ha; subst ha
      refine block_cells (heap_alloc_new w.drew _) 0 (xs ++ news) (fun j hj => ?_) j u hu
      rw [Nat.zero_add, Array.getElem?_append_left (by simp at hj ⊢; omega)]
      simp [List.getElem?_append]

/-- append onto a slice without room. -/
theorem wpList_append_full {P : Program} {w : World} {ops : Array Oper} {rest : List Oper} {o : Oper} {a : Act} {Q : Exit → Act → World → Prop} (hgd : Region.wanted o (yielded ops a.tmps) = true) (s x : Operand) (t tx : TypeId)
    (ho : o.op = .call { callee := .builtin .append, args := #[s, x], argTypes := #[t, tx] })
    {e : TypeId} {z : Value} {size bytes : Nat} (hT : SlT P t e z size bytes) (htx : P.underlying tx = some (.slice e) ∨ P.underlying tx = some .string)
    {a0 : Option Addr} {n : Nat} {xs : List Value} (hs : a.eval s = .slice a0 n n) (hrd : Rd w a0 n n size xs)
    {xv : Value} {m : Nat} {news : List Value} (hx : a.eval x = xv) (hsrc : Src P w xv m size news)
    (hbytes : (n + m) * bytes ≤ 140737488355328) (h63 : n + m ≤ maxLen)
    (h : ∀ a' cap' w', Rd w' a' (n + m) cap' size (xs ++ news) → Below w.heap.size w w' → wpList P ops Q rest (a.put o.dst (.slice a' (n + m) cap')) w') : wpList P ops Q (o :: rest) a w := by
  refine BigFrame.wpList_want hgd fun K hK => ?_
  obtain ⟨a', cap', w', hr, h2, h3⟩ := run_append_full (P := P) w t tx o.type e hT htx a0 n xs hrd xv m news hsrc hbytes h63
  unfold Oper.wp execOp
  simp only [ho, resolve, invoke, builtin, Sem.run_bind, Sem.run_pure, Result.andThen_ok, List.map_toArray, List.map_cons, List.map_nil, hs, hx, hr]
  exact hK _ _ (h a' cap' w' h2 h3)
end Go.Proofs.Ytgimkipekoabbaa
