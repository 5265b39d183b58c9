/-
  append where there is room, clear of a part behind the end: an own row. No condition.
-/
import Derived.Test.YtgimkipekoabbaaWAddI
namespace Go.Proofs.Ytgimkipekoabbaa
open Go.RowKit

/-- The first k elements of an own row are an own row. -/
theorem own_pre {w : World} {base e size n cap : Nat} {a : Option Addr} {xs : List Value} (h : w.ownsRow base e size (.slice a n cap) n xs) (k : Nat) (hk : k ≤ n) (ha : a ≠ none) : w.ownsRow base e size (.slice a k cap) k (xs.take (k * size)) := by
  rcases h.2 with ⟨hv, h0⟩ | ⟨g, c, cur, hv, hb, hh, hnc, hcm, hcs, ht⟩
  · simp only [Value.slice.injEq] at hv; exact absurd hv.1 ha
  · simp only [Value.slice.injEq] at hv
    obtain ⟨rfl, _, rfl⟩ := hv
    have hle : k * size ≤ n * size := Nat.mul_le_mul_right _ hk
    refine ⟨by rw [List.length_take, h.1]; omega, .inr ⟨g, cap, cur, rfl, hb, hh, by omega, hcm, hcs, ?_⟩⟩
    rw [← ht, List.take_take, Nat.min_eq_left hle]

theorem run_append_room {P : Program} (w : World) (base : Nat) (t tx ty e : TypeId) {z : Value} {size bytes : Nat} (hT : SlT P t e z size bytes) (htx : P.underlying tx = some (.slice e))
    (a : Option Addr) (n cap : Nat) (xs : List Value) (hown : w.ownsRow base e size (.slice a n cap) n xs) (x : Value) (m : Nat) (news : List Value) (hsrc : Src P w x m size news) (hroom : n + m ≤ cap) :
    ∃ w', (Builtin.append_ #[t, tx] ty #[.slice a n cap, x]).run P w = .ok (.slice a (n + m) cap) w' ∧ w'.ownsRow base e size (.slice a (n + m) cap) (n + m) (xs ++ news) ∧ w.grownBy w' (Value.slice a n cap).ownBlock := by
  obtain ⟨i, hi, hz, hsz, hby⟩ := info_parts hT.info
  subst hsz
  have hl := hsrc.len
  have hlo := hsrc.lenOf
  have hce := hsrc.cells
  have hlen : (xs ++ news).length = (n + m) * i.size := by rw [List.length_append, hown.1, hl, Nat.add_mul]
  rcases hown.2 with ⟨hv, h0⟩ | ⟨g, cap1, cur, hv, hbg, hg, hnc, hcm, hcs, htake⟩
  · simp only [Value.slice.injEq] at hv
    obtain ⟨rfl, rfl, rfl⟩ := hv
    have hm0 : m = 0 := by omega
    subst hm0
    have hn : news = [] := List.eq_nil_of_length_eq_zero (by simpa using hl)
    subst hn
    refine ⟨w, ?_, ?_, ⟨rfl, rfl, rfl, Nat.le_refl _, fun _ _ _ => rfl⟩⟩
    · simp [Builtin.append_, run_underlying hT.ht, run_underlying htx, sizeOf, typeInfo, hi, hlo, hce]
    · have hx : xs = [] := List.eq_nil_of_length_eq_zero (by simpa using hown.1)
      subst hx
      exact World.ownsRow_nil w base e i.size
  · simp only [Value.slice.injEq] at hv
    obtain ⟨rfl, _, rfl⟩ := hv
    have hfit : n * i.size + news.length ≤ cur.size := by rw [hl, hcs, ← Nat.add_mul]; exact Nat.mul_le_mul_right _ hroom
    have hst := run_storeCells_at P g (n * i.size) e news 0 cur w hg (by simpa using hfit) hsrc.one
    simp only [Nat.add_zero] at hst
    refine ⟨_, ?_, ⟨hlen, .inr ⟨g, cap, _, rfl, hbg, setRow_heap w g cur (cur.toList.take (n * i.size) ++ news ++ cur.toList.drop (n * i.size + news.length)).toArray e _ hg, hroom, hcm, ?_, ?_⟩⟩, ⟨rfl, rfl, rfl, by simp, fun k _ hk => setRow_other w g k _ (fun e => hk (by simp [Value.ownBlock, e]))⟩⟩
    · simp [Builtin.append_, run_underlying hT.ht, run_underlying htx, sizeOf, typeInfo, hi, hlo, hroom, hce, Addr.add_lit, hst]
    · simp only [List.size_toArray, List.length_append, List.length_take, List.length_drop, Array.length_toList]
      omega
    · rw [htake, ← hlen]
      exact List.take_left

theorem oper_append_room {P : Program} {w : World} {ops : Array Oper} {o : Oper} {a : Act} {K : Act → World → Prop} {Q : Exit → Act → World → Prop} (hgd : Region.wanted o (yielded ops a.tmps) = true) (s x : Operand) (t tx : TypeId)
    (ho : o.op = .call { callee := .builtin .append, args := #[s, x], argTypes := #[t, tx] })
    {e : TypeId} {z : Value} {size bytes : Nat} (hT : SlT P t e z size bytes) (htx : P.underlying tx = some (.slice e))
    {base : Nat} {a0 : Option Addr} {n cap : Nat} {xs : List Value} (hs : a.eval s = .slice a0 n cap) (hown : w.ownsRow base e size (.slice a0 n cap) n xs)
    {xv : Value} {m : Nat} {news : List Value} (hx : a.eval x = xv) (hsrc : Src P w xv m size news) (hroom : n + m ≤ cap)
    (h : ∀ w', w'.ownsRow base e size (.slice a0 (n + m) cap) (n + m) (xs ++ news) → w.grownBy w' (Value.slice a0 n cap).ownBlock → K (a.put o.dst (.slice a0 (n + m) cap)) w') :
    if Region.wanted o (yielded ops a.tmps) = true then Oper.wp P o a w K Q else K (a.put o.dst undef) w := by
  rw [if_pos hgd]
  obtain ⟨w', hr, h2, h3⟩ := run_append_room (P := P) w base t tx o.type e hT htx a0 n cap xs hown xv m news hsrc hroom
  unfold Oper.wp execOp
  simp only [ho, resolve, invoke, builtin, Sem.run_bind, Sem.run_pure, Result.andThen_ok, List.map_toArray, List.map_cons, List.map_nil, hs, hx, hr]
  exact h w' h2 h3

/-- clear of elements behind the end of an own row, within its capacity. -/
theorem run_clear_tail {P : Program} (w : World) (base : Nat) (t ty e : TypeId) {z : Value} {size bytes : Nat} (hT : SlT P t e z size bytes) (hz1 : ∀ u ∈ z.cells.toList, u.oneCell' = true)
    {g n cap : Nat} {xs : List Value} (hown : w.ownsRow base e size (.slice (some ⟨g, 0, none⟩) n cap) n xs) (m c : Nat) (hm : 0 < m) (hmc : n + m ≤ cap) :
    ∃ w', (Builtin.clear_ #[t] ty #[.slice (some ⟨g, n * size, none⟩) m c]).run P w = .ok (.tuple #[]) w' ∧ w'.ownsRow base e size (.slice (some ⟨g, 0, none⟩) n cap) n xs ∧ w.grownBy w' (some g) := by
  obtain ⟨i, hi, hz, hsz, hby⟩ := info_parts hT.info
  have hzl := zerosOf_len z m
  rw [hT.hz] at hzl
  have h1 : ∀ u ∈ zerosOf z m, u.oneCell' = true := by
    intro u hu
    unfold zerosOf Builtin.zeroCells at hu
    simp only [Array.toList_map, List.mem_map, Array.toList_range] at hu
    obtain ⟨j, hj, rfl⟩ := hu
    by_cases h0 : z.cells.size = 0
    · rw [h0] at hj; simp at hj
    · have hlt : j % z.cells.size < z.cells.size := Nat.mod_lt _ (by omega)
      have : z.cells[j % z.cells.size]! = z.cells[j % z.cells.size] := by simp [hlt]
      rw [this]
      exact hz1 _ (by simp)
  rcases hown.2 with ⟨hv, h0⟩ | ⟨g', cap1, cur, hv, hbg, hg, hnc, hcm, hcs, htake⟩
  · simp at hv
  · simp only [Value.slice.injEq, Option.some.injEq, Addr.mk.injEq, and_true, true_and] at hv
    obtain ⟨rfl, rfl⟩ := hv
    have hle : n * size + m * size ≤ cap * size := by rw [← Nat.add_mul]; exact Nat.mul_le_mul_right _ hmc
    have hst := run_storeCells_at P g (n * size) e (zerosOf z m) 0 cur w hg (by rw [hzl, hcs]; omega) h1
    simp only [Nat.add_zero] at hst
    obtain ⟨k, rfl⟩ : ∃ k, m = k + 1 := ⟨m - 1, by omega⟩
    refine ⟨_, ?_, ⟨hown.1, .inr ⟨g, cap, _, rfl, hbg, setRow_heap w g cur (cur.toList.take (n * size) ++ zerosOf z (k + 1) ++ cur.toList.drop (n * size + (zerosOf z (k + 1)).length)).toArray e _ hg, hnc, hcm, ?_, ?_⟩⟩, ⟨rfl, rfl, rfl, by simp, fun j _ hj => setRow_other w g j _ (fun e => hj (by simp [e]))⟩⟩
    · have hst2 : (storeCells ⟨g, n * size, none⟩ (Builtin.zeroCells z.cells (k + 1)).toList).run P w = _ := hst
      simp [Builtin.clear_, run_underlying hT.ht, zeroValue, typeInfo, hi, hz, hst2]
    · simp only [List.size_toArray, List.length_append, List.length_take, List.length_drop, Array.length_toList]
      omega
    · rw [htake, List.append_assoc, List.take_append_of_le_length (by rw [hown.1]; exact Nat.le_refl _), List.take_of_length_le (by rw [hown.1]; exact Nat.le_refl _)]

theorem wpList_clear_tail {P : Program} {w : World} {ops : Array Oper} {rest : List Oper} {o : Oper} {a : Act} {Q : Exit → Act → World → Prop} (hgd : Region.wanted o (yielded ops a.tmps) = true) (s : Operand) (t : TypeId)
    (ho : o.op = .call { callee := .builtin .clear, args := #[s], argTypes := #[t] }) (hdst : o.dst = none)
    {e : TypeId} {z : Value} {size bytes : Nat} (hT : SlT P t e z size bytes) (hz1 : ∀ u ∈ z.cells.toList, u.oneCell' = true)
    {base g n cap off : Nat} {xs : List Value} (hown : w.ownsRow base e size (.slice (some ⟨g, 0, none⟩) n cap) n xs) {m c : Nat} (hs : a.eval s = .slice (some ⟨g, off, none⟩) m c) (hoff : off = n * size) (hm : 0 < m) (hmc : n + m ≤ cap)
    (h : ∀ w', w'.ownsRow base e size (.slice (some ⟨g, 0, none⟩) n cap) n xs → w.grownBy w' (some g) → wpList P ops Q rest a w') : wpList P ops Q (o :: rest) a w := by
  refine BigFrame.wpList_want hgd fun K hK => ?_
  subst hoff
  obtain ⟨w', hr, h2, h3⟩ := run_clear_tail (P := P) w base t o.type e hT hz1 hown m c hm hmc
  unfold Oper.wp execOp
  simp only [ho, resolve, invoke, builtin, Sem.run_bind, Sem.run_pure, Result.andThen_ok, List.map_toArray, List.map_cons, List.map_nil, hs, hr]
  have hp : ∀ v, a.put o.dst v = a := fun v => by rw [hdst]; rfl
  show K (a.put o.dst _) _
  rw [hp]
  exact hK _ _ (h w' h2 h3)
end Go.Proofs.Ytgimkipekoabbaa
