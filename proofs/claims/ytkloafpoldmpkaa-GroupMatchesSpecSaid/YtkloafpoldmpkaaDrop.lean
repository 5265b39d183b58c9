/-
  A node taken out of a group; the walk of a group's Drop. No condition.
-/
import Derived.Test.YtkloafpoldmpkaaOpen2
namespace Go.Proofs.Ytkloafpoldmpkaa
open Go.RowKit

theorem Grp.pull {w wc : World} {g m : Nat} {bs : List Nat} {ta : Option Addr} {tc : Nat} {S : GS} (h : Grp w g m bs ta tc S) (k : Nat) (hk : k < S.q.length) (hok : ({ S with q := S.q.eraseIdx k } : GS).OK)
    (hmap : SetM Try.prog 3 4 wc m ((S.q.eraseIdx k).map Nd.tx))
    (ht : (w.setCell (endAt g bs k) (ptrOf bs[k + 1]?)).mapTurned wc m) :
    Grp wc g m (bs.eraseIdx k) ta tc { S with q := S.q.eraseIdx k } := by
  have hkeep : ∀ j, j < w.heap.size → j ≠ m → j ≠ (endAt g bs k).block → wc.heap[j]? = w.heap[j]? := fun j hj h1 h2 => by
    rw [ht.grown.block j (by show j < (w.heap.modify _ _).size; rw [Array.size_modify]; exact hj) (fun e => h1 (Option.some.inj e)), Below.heap_setCell _ _ _ _ h2]
  have hgl := h.blk.lt
  have hblen := h.blen
  have hturn : ∀ {b : Nat} {ty : TypeId} {cs : List Value}, b ≠ m → Blk (w.setCell (endAt g bs k) (ptrOf bs[k + 1]?)) b ty cs → Blk wc b ty cs := fun hb hB =>
    hB.eq (ht.grown.block _ hB.lt (fun e => hb (Option.some.inj e)))
  have her : ∀ i, (bs.eraseIdx k)[i]? = if i < k then bs[i]? else bs[i + 1]? := fun i => List.getElem?_eraseIdx ..
  refine ⟨?_, fun i hi => ?_, ?_, hmap, ?_, ?_, ?_, hok⟩
  · cases k with
    | zero =>
      have := hturn h.gm (h.blk.set 4 (ptrOf bs[0 + 1]?))
      unfold grpVals at this ⊢
      rw [her 0]
      exact this
    | succ n =>
      obtain ⟨b, hb1, _⟩ := h.node n (by omega)
      have e : (endAt g bs (n + 1)).block = b := by show bs.getD n 0 = b; rw [List.getD_eq_getElem?_getD, hb1]; rfl
      have h1 := h.blk.eq (hkeep g hgl h.gm (by rw [e]; exact (h.node_g hb1).1.symm))
      unfold grpVals at h1 ⊢
      rw [her 0, if_pos (by omega)]
      exact h1
  · have hi' : i < S.q.length - 1 := by
      have := hi
      simp only [List.length_eraseIdx, hk, ↓reduceIte] at this
      exact this
    by_cases hik : i < k
    · obtain ⟨b, hb1, hb2⟩ := h.nodes i (by omega)
      have hg := h.node_g hb1
      refine ⟨b, by rw [her i, if_pos hik]; exact hb1, ?_⟩
      have eq0 : (S.q.eraseIdx k)[i]'hi = S.q[i] := by rw [List.getElem_eraseIdx, dif_pos hik]
      show Blk wc b 69 (ndVals ((S.q.eraseIdx k)[i]'hi) _)
      rw [eq0, her (i + 1)]
      by_cases hi3 : i + 1 = k
      · subst hi3
        have e : endAt g bs (i + 1) = ⟨b, 3, none⟩ := by show (⟨bs.getD i 0, 3, none⟩ : Addr) = _; rw [List.getD_eq_getElem?_getD, hb1]; rfl
        have h1 := hb2.set 3 (ptrOf bs[i + 1 + 1]?)
        rw [e] at hturn
        have := hturn hg.2 h1
        rw [if_neg (by omega)]
        exact this
      · have hne : b ≠ (endAt g bs k).block := by
          obtain ⟨n, rfl⟩ : ∃ n, k = n + 1 := ⟨k - 1, by omega⟩
          obtain ⟨c, hc1, _⟩ := h.node n (by omega)
          have e : (endAt g bs (n + 1)).block = c := by show bs.getD n 0 = c; rw [List.getD_eq_getElem?_getD, hc1]; rfl
          rw [e]
          exact h.node_ne hb1 hc1 (by omega)
        rw [if_pos (by omega)]
        exact hb2.eq (hkeep b hb2.lt hg.2 hne)
    · obtain ⟨b, hb1, hb2⟩ := h.nodes (i + 1) (by omega)
      have hg := h.node_g hb1
      refine ⟨b, by rw [her i, if_neg hik]; exact hb1, ?_⟩
      have eq0 : (S.q.eraseIdx k)[i]'hi = S.q[i + 1] := by rw [List.getElem_eraseIdx, dif_neg hik]
      show Blk wc b 69 (ndVals ((S.q.eraseIdx k)[i]'hi) _)
      rw [eq0, her (i + 1), if_neg (by omega)]
      have hne : b ≠ (endAt g bs k).block := by
        cases k with
        | zero => exact hg.1
        | succ n =>
          obtain ⟨c, hc1, _⟩ := h.node n (by omega)
          have e : (endAt g bs (n + 1)).block = c := by show bs.getD n 0 = c; rw [List.getD_eq_getElem?_getD, hc1]; rfl
          rw [e]
          exact h.node_ne hb1 hc1 (by omega)
      exact hb2.eq (hkeep b hb2.lt hg.2 hne)
  · simp only [List.length_eraseIdx, hblen]
  · refine ⟨h.txs.hlen, h.txs.hcap, h.txs.hmax, h.txs.hnil, fun ad ha j u hu => ?_⟩
    have hc := h.txs.hcell ad ha j u hu
    have hl := cell_block_lt hc
    have hs := (h.tsep ad ha).1
    rw [add_block] at hl
    rw [cell_eq (w := w) ?_]
    · exact hc
    · rw [add_block]
      refine hkeep _ hl (fun e => hs (by rw [e]; simp)) (fun e => ?_)
      cases k with
      | zero => exact hs (by rw [e]; simp [endAt])
      | succ n =>
        obtain ⟨c, hc1, _⟩ := h.node n (by omega)
        have e2 : (endAt g bs (n + 1)).block = c := by show bs.getD n 0 = c; rw [List.getD_eq_getElem?_getD, hc1]; rfl
        rw [e2] at e
        exact hs (by rw [e]; simp [List.mem_of_getElem? hc1])
  · exact h.nodup.sublist (((List.eraseIdx_sublist _ _).cons_cons _).cons_cons _)
  · intro ad ha
    obtain ⟨hs, hlt⟩ := h.tsep ad ha
    have hgs := ht.grown.size
    refine ⟨fun hm => hs ?_, Nat.lt_of_lt_of_le hlt (Nat.le_trans (by show _ ≤ (w.heap.modify _ _).size; rw [Array.size_modify]; exact Nat.le_refl _) hgs)⟩
    exact (((List.eraseIdx_sublist bs k).cons_cons m).cons_cons g).subset hm

theorem place_eq (S : GS) (tx : Int) (k : Nat) (hk : k < S.q.length) (hne : ∀ j, j < k → (S.q.getD j default).tx ≠ tx) (he : (S.q.getD k default).tx = tx) : S.place tx = k := by
  have hD : ∀ (j : Nat) (hj : j < S.q.length), S.q.getD j default = S.q[j] := fun j hj => by rw [List.getD_eq_getElem?_getD, List.getElem?_eq_getElem hj]; rfl
  unfold GS.place
  rw [List.findIdx_eq hk]
  refine ⟨by rw [hD k hk] at he; simpa using he, fun j hj => ?_⟩
  have := hne j hj
  rw [hD j (by omega)] at this
  simpa using this
theorem place_none (S : GS) (tx : Int) (hne : tx ∉ S.q.map Nd.tx) : S.drop tx = S := by
  unfold GS.drop
  have : S.place tx = S.q.length := by
    unfold GS.place
    refine List.findIdx_eq_length_of_false (fun x hx => ?_)
    simp only [beq_eq_false_iff_ne]
    exact fun e => hne (List.mem_map.2 ⟨x, hx, e⟩)
  rw [this, List.eraseIdx_of_length_le (Nat.le_refl _)]
theorem erase_tx (S : GS) (tx : Int) (k : Nat) (hk : k < S.q.length) (hn : (S.q.map Nd.tx).Nodup) (he : (S.q.getD k default).tx = tx) : (S.q.map Nd.tx).erase tx = (S.q.eraseIdx k).map Nd.tx := by
  have hD : S.q.getD k default = S.q[k] := by rw [List.getD_eq_getElem?_getD, List.getElem?_eq_getElem hk]; rfl
  rw [hD] at he
  have hi : (S.q.map Nd.tx).idxOf tx = k := by
    have := hn.idxOf_getElem k (by rw [List.length_map]; exact hk)
    rw [List.getElem_map, he] at this
    exact this
  rw [List.erase_eq_eraseIdx_of_idxOf hi]
  apply List.ext_getElem?
  intro i
  simp only [List.getElem?_eraseIdx, List.getElem?_map]
  split <;> rfl

set_option maxRecDepth 20000 in
set_option maxHeartbeats 2000000 in
theorem drop_any {w : World} {g m : Nat} {bs : List Nat} {ta : Option Addr} {tc : Nat} {S : GS} (h : Grp w g m bs ta tc S) (tx : Int) (hx : In64 tx) :
    Calls Try.prog 22 #[.pointer (some ⟨g, 0, none⟩), .int .i64 tx] w (RetG (.bool (decide (tx ∈ S.q.map Nd.tx))) g m bs ta (S.drop tx) w) := by
  have HG := Box.mk h; clear h
  go_enter Try.func22, Try.ntmps22
  go_wp2_with fail
  go_loopw [5] (fun v wr => ∃ k : Nat, k ≤ S.q.length ∧ v = .pointer (some (endAt g bs k)) ∧ (∀ j, j < k → (S.q.getD j default).tx ≠ tx) ∧ wr = w) (fun v _ => S.q.length - posOf bs v)
  case atStart => exact ⟨0, Nat.zero_le _, rfl, fun j h => by omega, rfl⟩
  case round =>
    obtain ⟨k, hk, rfl, hne, rfl⟩ := hrel
    have HNE := Box.mk hne; clear hne
    obtain ⟨e1, e2, e3, e4⟩ := HG.out.endCell k hk
    have hpos := Box.mk (posOf_end HG.out k hk)
    have HE := Box.mk (show endAt g bs (k + 1) = ⟨bs.getD k 0, 3, none⟩ from rfl)
    by_cases hl : k < S.q.length
    · obtain ⟨b, hb1, hb2⟩ := HG.out.node k hl
      have hpos2 := Box.mk (posOf_end HG.out (k + 1) hl)
      have hbd := Box.mk (show bs.getD k 0 = b from by rw [List.getD_eq_getElem?_getD, hb1]; rfl)
      rw [show ptrOf bs[k]? = .pointer (some ⟨b, 0, none⟩) from by rw [hb1]; rfl] at e1
      have d0 := hb2.cellOf (i := 0) rfl
      have d3 := hb2.cellOf (i := 3) rfl
      by_cases hxx : (S.q.getD k default).tx = tx
      · have hin : In64 tx := hx
        have hpl := Box.mk (place_eq S tx k hl HNE.out hxx)
        have htxm : decide (tx ∈ S.q.map Nd.tx) = true := by
          refine decide_eq_true (List.mem_map.2 ⟨S.q.getD k default, ?_, hxx⟩)
          rw [List.getD_eq_getElem?_getD, List.getElem?_eq_getElem hl]; exact List.getElem_mem hl
        have HM := Box.mk htxm; clear htxm
        have her := Box.mk (erase_tx S tx k hl HG.out.ok.nodup hxx)
        rw [hxx] at d0
        obtain ⟨po, hpo⟩ : ∃ po, ptrOf bs[k + 1]? = .pointer po := ⟨_, rfl⟩
        have hlt := cell_block_lt e1
        have c5 : (wr.setCell (endAt g bs k) (.pointer po)).cell? ⟨g, 5, none⟩ = some (.map (some m)) := by
          have hb := HG.out.blk
          cases k with
          | zero => exact (hb.set 4 _).cellOf (i := 5) rfl
          | succ n =>
            obtain ⟨b2, hb3, _⟩ := HG.out.node n (by omega)
            have e : endAt g bs (n + 1) = ⟨b2, 3, none⟩ := by show (⟨bs.getD n 0, 3, none⟩ : Addr) = _; rw [List.getD_eq_getElem?_getD, hb3]; rfl
            rw [e]
            exact (hb.other (p := ⟨b2, 3, none⟩) (HG.out.node_g hb3).1.symm _).cellOf (i := 5) rfl
        have hm1 : SetM Try.prog 3 4 (wr.setCell (endAt g bs k) (.pointer po)) m (S.q.map Nd.tx) := HG.out.map.eq (Below.heap_setCell _ _ _ _ (Ne.symm e4))
        obtain ⟨wc, hrun, hm2, hturn⟩ := hm1.drop ty3 ty60 hin 0
        have BU2 : But (fpOf g m bs ta) wr wc := (((But.refl _ wr).setCell (.inl e3) _).turned hturn (.inl (by simp [fpOf])))
        have hok : ({ S with q := S.q.eraseIdx k } : GS).OK := by
          have := GS.drop_ok HG.out.ok tx
          unfold GS.drop at this
          rw [hpl.out] at this
          exact this
        rw [her.out] at hm2
        rw [← hpo] at hturn
        have HF := Box.mk (HG.out.pull k hl hok hm2 hturn)
        have HBU := Box.mk BU2
        rw [hpo] at d3
        clear hm1 hm2 hturn BU2 hok
        generalize (S.q.getD k default) = nd at *
        generalize endAt g bs k = ad at *
        go_wp2_with fail
        go_ret
        refine ⟨bs.eraseIdx k, ta, tc, by rw [HM.out]; rfl, by unfold GS.drop; rw [hpl.out]; exact HF.out, HBU.out, fun x hx => .inl ?_⟩
        simp only [fpOf, List.mem_cons, List.mem_append] at hx ⊢
        rcases hx with h | h | h | h
        · exact .inl h
        · exact .inr (.inl h)
        · exact .inr (.inr (.inl ((List.eraseIdx_sublist _ _).subset h)))
        · exact .inr (.inr (.inr h))
      · have hxx' : ((S.q.getD k default).tx == tx) = false := by simp only [beq_eq_false_iff_ne]; exact hxx
        have HX := Box.mk hxx; clear hxx
        generalize hnd : (S.q.getD k default) = nd at *
        have HND := Box.mk hnd; clear hnd
        generalize endAt g bs k = ad at *
        go_wp2_with fail
        go_roundw
        case rel => exact ⟨k + 1, hl, by rw [HE.out, hbd.out], fun j hj => by
          by_cases e : j = k
          · subst e; rw [HND.out]; exact HX.out
          · exact HNE.out j (by omega), trivial⟩
        case measure => rw [hpos.out, ← hbd.out, ← HE.out, hpos2.out]; omega
    · have hnone := HG.out.last k (by omega)
      rw [show ptrOf bs[k]? = .pointer none from by rw [hnone]; rfl] at e1
      have hnm : tx ∉ S.q.map Nd.tx := by
        intro hm
        obtain ⟨n, hn, he⟩ := List.mem_map.1 hm
        obtain ⟨j, hj, rfl⟩ := List.getElem_of_mem hn
        exact HNE.out j (by omega) (by rw [List.getD_eq_getElem?_getD, List.getElem?_eq_getElem hj]; exact he)
      have HM := Box.mk hnm; clear hnm
      generalize endAt g bs k = ad at *
      go_wp2_with fail
      go_ret
      rw [place_none S tx HM.out, decide_eq_false HM.out]
      exact RetG.same HG.out rfl 0
end Go.Proofs.Ytkloafpoldmpkaa
