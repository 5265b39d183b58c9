/-
  Sets of integers as maps from int to bool that the call itself makes. No condition.
-/
import Derived.Test.YtgimkipekoabbaaBut
namespace Go.Proofs.Ytgimkipekoabbaa
open Go.RowKit Go.Maps

def In64 (x : Int) : Prop := -9223372036854775808 ≤ x ∧ x ≤ 9223372036854775807
theorem wf64 {x : Int} (h : In64 x) : (Lit.int .i64 x).wf = true := WalkArith.wf_i64 h

section
variable {P : Program} {k e t : TypeId}

theorem _root_.Go.World.ownsMap.tight {H : Type} {R : Value → Option (DataW H × List MemPlace)} {w : World} {b n : Nat} {D : DataW H} (h : w.ownsMap P k R b n D) : w.ownsMap P k R b (Maps.size D) D := by
  obtain ⟨es, clock, hb, F, _, rfl⟩ := h
  exact ⟨es, clock, hb, F, by simp [Maps.size, length_sorted], rfl⟩

/-- Block b is a map that holds true at the keys ks, and nothing else. -/
structure SetM (P : Program) (k e : TypeId) (w : World) (b : Nat) (ks : List Int) : Prop where
  nodup : ks.Nodup
  own : ∃ D : DataW Unit, w.ownsMap P k (plainElem P e) b ks.length D ∧ Maps.size D = ks.length ∧ ∀ x, In64 x → Maps.has D (.int .i64 x) = decide (x ∈ ks) ∧ D.atKey (.int .i64 x) (.lit (.bool false)) = .lit (.bool (decide (x ∈ ks)))

theorem SetM.eq {w w' : World} {b : Nat} {ks : List Int} (h : SetM P k e w b ks) (he : w'.heap[b]? = w.heap[b]?) : SetM P k e w' b ks := by
  obtain ⟨hn, D, ⟨es, clock, hb, F, hs, hD⟩, h2, h3⟩ := h
  exact ⟨hn, D, ⟨es, clock, he.trans hb, F, hs, hD⟩, h2, h3⟩
theorem SetM.lt {w : World} {b : Nat} {ks : List Int} (h : SetM P k e w b ks) : b < w.heap.size := by
  obtain ⟨hn, D, h1, _⟩ := h; exact h1.lt
theorem SetM.but {F : List Nat} {w w' : World} {b : Nat} {ks : List Int} (h : SetM P k e w b ks) (hb : But F w w') (hm : b ∉ F) : SetM P k e w' b ks := h.eq (hb.block b h.lt hm)

theorem SetM.made (w : World) : SetM P k e (w.alloc (.map #[] 0)) w.heap.size [] :=
  ⟨List.nodup_nil, .map [], World.ownsMap_made w P k _, rfl, fun x _ => ⟨by simp [Maps.has], by simp [DataW.atKey]⟩⟩

variable (hk : P.underlying k = some (.int .i64)) (he : P.underlying e = some .bool) (ht : P.underlying t = some (.map k e)) (hz : ∀ w, (zeroValue e).run P w = .ok (.bool false) w)
include hk ht

include he hz in
theorem SetM.look {w : World} {b : Nat} {ks : List Int} (h : SetM P k e w b ks) {x : Int} (hx : In64 x) : (Instr.lookup t (.map (some b)) (.int .i64 x) false).run P w = .ok (.bool (decide (x ∈ ks))) w := by
  obtain ⟨_, D, h1, _, h3⟩ := h
  obtain ⟨v, ps, hrun, hv⟩ := h1.lookup (int_keyed hk) ht (hz w) (plainElem_bool he false) (keyOf_int_mk hk (wf64 hx))
  rw [(h3 x hx).2] at hv
  rw [hrun]
  have : v = .bool (decide (x ∈ ks)) := by
    unfold plainElem at hv
    rw [he] at hv
    cases v <;> simp at hv
    rw [hv.1]
  rw [this]

omit hk in
theorem SetM.len {w : World} {b : Nat} {ks : List Int} (h : SetM P k e w b ks) (ty : TypeId) : (Builtin.len_ #[t] ty #[.map (some b)]).run P w = .ok (.int .i64 (ks.length : Int)) w := by
  obtain ⟨_, D, h1, h2, _⟩ := h
  rw [h1.len ht ty, h2]

include he in
theorem SetM.store {w : World} {b : Nat} {ks : List Int} (h : SetM P k e w b ks) {x : Int} (hx : In64 x) (hnew : x ∉ ks) (hn : ks.length < maxLen) :
    ∃ w', (Instr.mapUpdate t (.map (some b)) (.int .i64 x) (.bool true)).run P w = .ok () w' ∧ SetM P k e w' b (ks ++ [x]) ∧ w.mapTurned w' b := by
  obtain ⟨hnd, D, h1, h2, h3⟩ := h
  obtain ⟨w', hrun, h4, h5⟩ := h1.store (int_keyed hk) ht hn (keyOf_int_mk hk (wf64 hx)) (plainElem_bool he true)
  have hsz : Maps.size (D.put (.int .i64 x) (.lit (.bool true))) = ks.length + 1 := by
    rw [size_put (h1.tidy (int_keyed hk)), (h3 x hx).1, h2]; simp [hnew]
  refine ⟨w', hrun, ⟨?_, D.put (.int .i64 x) (.lit (.bool true)), ?_, ?_, ?_⟩, h5⟩
  · rw [List.nodup_append]; exact ⟨hnd, by simp, by intro a ha b hb e; simp at hb; subst hb; subst e; exact hnew ha⟩
  · have := h4.tight; rw [hsz] at this; simpa using this
  · rw [hsz]; simp
  · intro y hy
    by_cases hxy : y = x
    · subst hxy
      rw [has_put_same h1.isMap (by simp [WideAt.IsKeyLit]), atKey_put_same h1.isMap (by simp [WideAt.IsKeyLit])]
      simp
    · have hne : (Lit.int .i64 y) ≠ (Lit.int .i64 x) := by intro h; injection h with _ h2; exact hxy h2
      rw [has_put_other hne, atKey_put_other hne, (h3 y hy).1, (h3 y hy).2]
      simp [hxy]

theorem SetM.drop {w : World} {b : Nat} {ks : List Int} (h : SetM P k e w b ks) {x : Int} (hx : In64 x) (ty : TypeId) :
    ∃ w', (Builtin.delete_ #[t, k] ty #[.map (some b), .int .i64 x]).run P w = .ok (.tuple #[]) w' ∧ SetM P k e w' b (ks.erase x) ∧ w.mapTurned w' b := by
  obtain ⟨hnd, D, h1, h2, h3⟩ := h
  obtain ⟨w', hrun, h4, h5⟩ := h1.drop (int_keyed hk) ht (keyOf_int_mk hk (wf64 hx)) ty
  have hsz : Maps.size (D.del (.int .i64 x)) = (ks.erase x).length := by
    have := size_del (k := .int .i64 x) (h1.tidy (int_keyed hk))
    rw [(h3 x hx).1, h2] at this
    rw [List.length_erase]
    by_cases hm : x ∈ ks
    · simp [hm] at this ⊢; omega
    · simp [hm] at this ⊢; omega
  refine ⟨w', hrun, ⟨hnd.erase _, D.del (.int .i64 x), ?_, hsz, ?_⟩, h5⟩
  · have := h4.tight; rw [hsz] at this; exact this
  · intro y hy
    by_cases hxy : y = x
    · subst hxy
      rw [has_del_same, atKey_del_same]
      simp [hnd.mem_erase_iff]
    · have hne : (Lit.int .i64 y) ≠ (Lit.int .i64 x) := by intro h; injection h with _ h2; exact hxy h2
      rw [has_del_other hne, atKey_del_other hne, (h3 y hy).1, (h3 y hy).2]
      simp [hnd.mem_erase_iff, hxy]
end
end Go.Proofs.Ytgimkipekoabbaa
