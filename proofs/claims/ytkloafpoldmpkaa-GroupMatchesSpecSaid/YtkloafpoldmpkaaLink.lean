/-
  A node laid behind the last one of a group. No condition.
-/
import Derived.Test.YtkloafpoldmpkaaNew
namespace Go.Proofs.Ytkloafpoldmpkaa
open Go.RowKit

/-- Where the pointer to node k lies. -/
def endAt (g : Nat) (bs : List Nat) : Nat → Addr
  | 0 => ⟨g, 4, none⟩
  | k + 1 => ⟨bs.getD k 0, 3, none⟩

theorem Grp.node_ne {w : World} {g m : Nat} {bs : List Nat} {ta : Option Addr} {tc : Nat} {S : GS} (h : Grp w g m bs ta tc S) {i j b c : Nat} (hb : bs[i]? = some b) (hc : bs[j]? = some c) (hij : i ≠ j) : b ≠ c := by
  have hn := (List.nodup_cons.1 (List.nodup_cons.1 h.nodup).2).2
  intro e; subst e
  obtain ⟨h1, h2⟩ := List.getElem?_eq_some_iff.1 hb
  obtain ⟨h3, h4⟩ := List.getElem?_eq_some_iff.1 hc
  exact hij ((List.getElem_inj hn).1 (h2.trans h4.symm))
theorem Grp.node_g {w : World} {g m : Nat} {bs : List Nat} {ta : Option Addr} {tc : Nat} {S : GS} (h : Grp w g m bs ta tc S) {i b : Nat} (hb : bs[i]? = some b) : b ≠ g ∧ b ≠ m := by
  have h1 := List.nodup_cons.1 h.nodup
  have h2 := List.nodup_cons.1 h1.2
  have hm := List.mem_of_getElem? hb
  exact ⟨fun e => by subst e; exact h1.1 (List.mem_cons_of_mem _ hm), fun e => by subst e; exact h2.1 hm⟩
theorem Grp.gm {w : World} {g m : Nat} {bs : List Nat} {ta : Option Addr} {tc : Nat} {S : GS} (h : Grp w g m bs ta tc S) : g ≠ m := by
  have h1 := List.nodup_cons.1 h.nodup
  intro e; subst e; exact h1.1 (List.mem_cons_self ..)

/-- The cell there. -/
theorem Grp.endCell {w : World} {g m : Nat} {bs : List Nat} {ta : Option Addr} {tc : Nat} {S : GS} (h : Grp w g m bs ta tc S) : ∀ k, k ≤ S.q.length → w.cell? (endAt g bs k) = some (ptrOf bs[k]?) ∧ w.frozen? (endAt g bs k) = false ∧ (endAt g bs k).block ∈ fpOf g m bs ta ∧ (endAt g bs k).block ≠ m
  | 0, _ => ⟨h.blk.cellOf (i := 4) rfl, h.blk.free 4, by simp [endAt, fpOf], h.gm⟩
  | k + 1, hk => by
    obtain ⟨b, h1, h2⟩ := h.node k (by omega)
    have e : bs.getD k 0 = b := by rw [List.getD_eq_getElem?_getD, h1]; rfl
    rw [show endAt g bs (k + 1) = ⟨b, 3, none⟩ from by rw [← e]; rfl]
    exact ⟨h2.cellOf (i := 3) rfl, h2.free 3, by simp [fpOf, List.mem_of_getElem? h1], (h.node_g h1).2⟩

theorem Grp.push {w wc : World} {g m : Nat} {bs : List Nat} {ta : Option Addr} {tc : Nat} {S : GS} (h : Grp w g m bs ta tc S) (nd : Nd) (hok : ({ S with q := S.q ++ [nd] } : GS).OK)
    (hmap : SetM Try.prog 3 4 wc m (S.q.map Nd.tx ++ [nd.tx]))
    (ht : ((w.alloc (.cells (ndVals nd (.pointer none)).toArray 69)).setCell (endAt g bs S.q.length) (ptrOf (some w.heap.size))).mapTurned wc m) :
    Grp wc g m (bs ++ [w.heap.size]) ta tc { S with q := S.q ++ [nd] } := by
  have hkeep : ∀ k, k < w.heap.size → k ≠ m → k ≠ (endAt g bs S.q.length).block → wc.heap[k]? = w.heap[k]? := fun k hk h1 h2 => by
    rw [ht.grown.block k (by show k < ((w.alloc _).heap.modify _ _).size; rw [Array.size_modify]; simp; omega) (fun e => h1 (Option.some.inj e)), Below.heap_setCell _ _ _ _ h2, Below.heap_alloc _ _ _ hk]
  have hend := h.endCell S.q.length (Nat.le_refl _)
  have hml := h.map.lt
  have hgl := h.blk.lt
  have hendlt : (endAt g bs S.q.length).block < w.heap.size := cell_block_lt hend.1
  have hnew : Blk wc w.heap.size 69 (ndVals nd (.pointer none)) := by
    have h1 : Blk (w.alloc (.cells (ndVals nd (.pointer none)).toArray 69)) w.heap.size 69 (ndVals nd (.pointer none)) := Blk.new rfl rfl
    have h2 := h1.other (p := endAt g bs S.q.length) (by omega) (ptrOf (some w.heap.size))
    exact h2.eq (ht.grown.block _ (by show _ < ((w.alloc _).heap.modify _ _).size; rw [Array.size_modify]; simp) (fun e => by have := Option.some.inj e; omega))
  have hturn : ∀ {b : Nat} {ty : TypeId} {cs : List Value}, b ≠ m → Blk ((w.alloc (.cells (ndVals nd (.pointer none)).toArray 69)).setCell (endAt g bs S.q.length) (ptrOf (some w.heap.size))) b ty cs → Blk wc b ty cs := fun hb hB =>
    hB.eq (ht.grown.block _ hB.lt (fun e => hb (Option.some.inj e)))
  have hlast : bs[S.q.length]? = none := h.last _ (Nat.le_refl _)
  have happ : ∀ i, i < S.q.length → (bs ++ [w.heap.size])[i]? = bs[i]? := fun i hi => List.getElem?_append_left (by rw [h.blen]; exact hi)
  have hn : (bs ++ [w.heap.size])[S.q.length]? = some w.heap.size := by rw [List.getElem?_append_right (by rw [h.blen]; exact Nat.le_refl _), h.blen, Nat.sub_self]; rfl
  have hn1 : (bs ++ [w.heap.size])[S.q.length + 1]? = none := by rw [List.getElem?_eq_none]; rw [List.length_append, h.blen]; simp
  refine ⟨?_, fun i hi => ?_, by rw [List.length_append, List.length_append, h.blen]; rfl, by rw [List.map_append]; exact hmap, ?_, ?_, ?_, hok⟩
  · cases hq : S.q.length with
    | zero =>
      have h1 := (h.blk.alloc (.cells (ndVals nd (.pointer none)).toArray 69)).set 4 (ptrOf (some w.heap.size))
      rw [hq] at hturn hn
      have := hturn h.gm h1
      unfold grpVals at this ⊢
      rw [hn]
      exact this
    | succ n =>
      obtain ⟨b, hb1, _⟩ := h.node n (by omega)
      have e : (endAt g bs S.q.length).block = b := by rw [hq]; show bs.getD n 0 = b; rw [List.getD_eq_getElem?_getD, hb1]; rfl
      have h1 := h.blk.eq (hkeep g hgl h.gm (by rw [e]; exact (h.node_g hb1).1.symm))
      unfold grpVals at h1 ⊢
      rw [happ 0 (by omega)]
      exact h1
  · rw [List.length_append] at hi
    simp only [List.length_cons, List.length_nil] at hi
    by_cases hi2 : i < S.q.length
    · obtain ⟨b, hb1, hb2⟩ := h.nodes i hi2
      refine ⟨b, by rw [happ i hi2]; exact hb1, ?_⟩
      rw [List.getElem_append_left hi2]
      have hg := h.node_g hb1
      by_cases hi3 : i + 1 = S.q.length
      · have e : endAt g bs S.q.length = ⟨b, 3, none⟩ := by rw [← hi3]; show (⟨bs.getD i 0, 3, none⟩ : Addr) = _; rw [List.getD_eq_getElem?_getD, hb1]; rfl
        have h1 := (hb2.alloc (.cells (ndVals nd (.pointer none)).toArray 69)).set 3 (ptrOf (some w.heap.size))
        rw [e] at hturn
        have := hturn hg.2 h1
        rw [hi3, hn]
        exact this
      · have hne : b ≠ (endAt g bs S.q.length).block := by
          obtain ⟨n, hn2⟩ : ∃ n, S.q.length = n + 1 := ⟨S.q.length - 1, by omega⟩
          obtain ⟨c, hc1, _⟩ := h.node n (by omega)
          have e : (endAt g bs S.q.length).block = c := by rw [hn2]; show bs.getD n 0 = c; rw [List.getD_eq_getElem?_getD, hc1]; rfl
          rw [e]
          exact h.node_ne hb1 hc1 (by omega)
        have h1 := hb2.eq (hkeep b hb2.lt hg.2 hne)
        rw [happ (i + 1) (by omega)]
        exact h1
    · have hie : i = S.q.length := by omega
      subst hie
      refine ⟨w.heap.size, hn, ?_⟩
      rw [List.getElem_append_right (Nat.le_refl _), hn1]
      simp only [Nat.sub_self, List.getElem_cons_zero]
      exact hnew
  · refine ⟨h.txs.hlen, h.txs.hcap, h.txs.hmax, h.txs.hnil, fun ad ha j u hu => ?_⟩
    have hc := h.txs.hcell ad ha j u hu
    have hl := cell_block_lt hc
    have hs := (h.tsep ad ha).1
    rw [add_block] at hl
    rw [cell_eq (w := w) ?_]
    · exact hc
    · rw [add_block]
      refine hkeep _ hl (fun e => hs (by rw [e]; simp)) (fun e => ?_)
      cases hq : S.q.length with
      | zero => rw [hq] at e; exact hs (by rw [e]; simp [endAt])
      | succ n =>
        obtain ⟨c, hc1, _⟩ := h.node n (by omega)
        have e2 : (endAt g bs S.q.length).block = c := by rw [hq]; show bs.getD n 0 = c; rw [List.getD_eq_getElem?_getD, hc1]; rfl
        rw [e2] at e
        exact hs (by rw [e]; simp [List.mem_of_getElem? hc1])
  · have hx : w.heap.size ∉ g :: m :: bs := by
      intro hm
      simp only [List.mem_cons] at hm
      rcases hm with hm | hm | hm
      · omega
      · omega
      · obtain ⟨i, hi, he⟩ := List.getElem_of_mem hm
        obtain ⟨b, hb1, hb2⟩ := h.nodes i (by rw [← h.blen]; exact hi)
        rw [List.getElem?_eq_getElem hi, Option.some.injEq] at hb1
        have := hb2.lt; omega
    have e : g :: m :: (bs ++ [w.heap.size]) = (g :: m :: bs) ++ [w.heap.size] := rfl
    rw [e, List.nodup_append]
    refine ⟨h.nodup, by simp, fun a ha b hb hab => ?_⟩
    simp only [List.mem_singleton] at hb
    subst hb; subst hab; exact hx ha
  · intro ad ha
    obtain ⟨hs, hlt⟩ := h.tsep ad ha
    have hgs := ht.grown.size
    refine ⟨fun hm => ?_, Nat.lt_of_lt_of_le hlt (Nat.le_trans (by show _ ≤ ((w.alloc _).heap.modify _ _).size; rw [Array.size_modify]; simp) hgs)⟩
    have e : g :: m :: (bs ++ [w.heap.size]) = (g :: m :: bs) ++ [w.heap.size] := rfl
    rw [e, List.mem_append] at hm
    rcases hm with hm | hm
    · exact hs hm
    · simp only [List.mem_singleton] at hm
      omega
end Go.Proofs.Ytkloafpoldmpkaa
