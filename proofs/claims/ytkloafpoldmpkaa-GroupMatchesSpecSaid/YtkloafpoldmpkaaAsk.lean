/-
  The walk of a group's Ask. No condition.
-/
import Derived.Test.YtkloafpoldmpkaaLink
namespace Go.Proofs.Ytkloafpoldmpkaa
open Go.RowKit

theorem ty3 : Try.prog.underlying 3 = some (.int .i64) := by kernel_rfl
theorem ty4 : Try.prog.underlying 4 = some .bool := by kernel_rfl
theorem ty60 : Try.prog.underlying 60 = some (.map 3 4) := by kernel_rfl
theorem zero4 (w : World) : (zeroValue 4).run Try.prog w = .ok (.bool false) w := by kernel_rfl

/-- The place that a pointer to a pointer has. -/
def posOf (bs : List Nat) : Value → Nat
  | .pointer (some ad) => if ad.off = 4 then 0 else bs.idxOf ad.block + 1
  | _ => 0
theorem posOf_end {w : World} {g m : Nat} {bs : List Nat} {ta : Option Addr} {tc : Nat} {S : GS} (h : Grp w g m bs ta tc S) : ∀ k, k ≤ S.q.length → posOf bs (.pointer (some (endAt g bs k))) = k
  | 0, _ => rfl
  | k + 1, hk => by
    have hn := (List.nodup_cons.1 (List.nodup_cons.1 h.nodup).2).2
    have hkl : k < bs.length := by rw [h.blen]; omega
    show (if (3 : Nat) = 4 then 0 else bs.idxOf (bs.getD k 0) + 1) = k + 1
    rw [if_neg (by decide), List.getD_eq_getElem?_getD, List.getElem?_eq_getElem hkl]
    simp [hn.idxOf_getElem]

/-- What a call on a group leaves. -/
def RetG (v : Value) (g m : Nat) (bs : List Nat) (ta : Option Addr) (S' : GS) (w : World) (e : Ending) (w' : World) : Prop :=
  ∃ bs' ta' tc', e = .returned v ∧ Grp w' g m bs' ta' tc' S' ∧ But (fpOf g m bs ta) w w' ∧ ∀ x ∈ fpOf g m bs' ta', x ∈ fpOf g m bs ta ∨ w.heap.size ≤ x
theorem RetG.same {w : World} {g m : Nat} {bs : List Nat} {ta : Option Addr} {tc : Nat} {S : GS} (h : Grp w g m bs ta tc S) {v : Value} {e : Ending} (he : e = .returned v) (n : Nat) : RetG v g m bs ta S w e (w.drewN n) :=
  ⟨bs, ta, tc, he, h.drewN n, (But.refl _ w).drewN n, fun _ h => .inl h⟩

set_option maxRecDepth 20000 in
set_option maxHeartbeats 2000000 in
theorem ask_any {w : World} {g m : Nat} {bs : List Nat} {ta : Option Addr} {tc : Nat} {S : GS} (h : Grp w g m bs ta tc S) (tx words tick : Int) (hx : In64 tx) :
    Calls Try.prog 10 #[.pointer (some ⟨g, 0, none⟩), .int .i64 tx, .int .i64 words, .int .i64 tick] w (RetG (.int .i64 (S.ask tx words tick).2) g m bs ta (S.ask tx words tick).1 w) := by
  have HG := Box.mk h
  have c1 := h.blk.cellOf (i := 1) rfl
  have c3 := h.blk.cellOf (i := 3) rfl
  have c5 := h.blk.cellOf (i := 5) rfl
  have c8 := h.blk.cellOf (i := 8) rfl
  clear h
  by_cases hbad : words < 1 ∨ tick < 0 ∨ 1099511627776 < tick
  · rw [show S.ask tx words tick = (S, 1) from by unfold GS.ask; rw [if_pos hbad]]
    have hc : words < 1 ∨ (1 ≤ words ∧ tick < 0) ∨ (1 ≤ words ∧ 0 ≤ tick ∧ 1099511627776 < tick) := by omega
    clear hbad
    rcases hc with h | ⟨h1, h⟩ | ⟨h1, h2, h⟩
    all_goals
      go_enter Try.func10, Try.ntmps10
      go_wp2_with fail
      go_ret
      exact RetG.same HG.out rfl 0
  · have ha1 : 1 ≤ words := by omega
    have ha2 : 0 ≤ tick := by omega
    have ha3 : tick ≤ 1099511627776 := by omega
    have HB := Box.mk hbad; clear hbad
    have hlook := HG.out.map.look ty3 ty4 ty60 zero4 hx
    by_cases htw : tx ∈ S.q.map Nd.tx
    · rw [show S.ask tx words tick = (S, 6) from by unfold GS.ask; rw [if_neg HB.out, if_pos (Or.inl htw)]]
      rw [decide_eq_true htw] at hlook
      clear htw
      go_enter Try.func10, Try.ntmps10
      go_wp2_with fail
      go_ret
      exact RetG.same HG.out rfl 0
    · rw [decide_eq_false htw] at hlook
      have hcon := Box.mk (contains_any S.txs tx ta S.txs.length tc w HG.out.txs)
      by_cases htb : tx ∈ S.txs
      · rw [show S.ask tx words tick = (S, 6) from by unfold GS.ask; rw [if_neg HB.out, if_pos (Or.inr htb)]]
        rw [decide_eq_true htb] at hcon
        go_enter Try.func10, Try.ntmps10
        go_wp2_with fail
        refine hcon.out.mono ?_
        rintro e w1 ⟨rfl, rfl⟩
        go_wp2_with fail
        go_ret
        exact RetG.same HG.out rfl 0
      · rw [decide_eq_false htb] at hcon
        have hntw : ¬ (tx ∈ S.q.map Nd.tx ∨ tx ∈ S.txs) := fun h => h.elim htw htb
        have HT := Box.mk hntw
        have hlen : ∀ n, (Builtin.len_ #[60] 3 #[.map (some m)]).run Try.prog (w.drewN n) = .ok (.int .i64 (S.q.length : Int)) (w.drewN n) := fun n => by
          have := (HG.out.drewN n).map.len ty60 3
          rw [List.length_map] at this; exact this
        have hst := HG.out.ok.stamp
        by_cases hr : S.room < words
        · rw [show S.ask tx words tick = (S, 2) from by unfold GS.ask; rw [if_neg HB.out, if_neg HT.out, if_pos (Or.inl hr)]]
          go_enter Try.func10, Try.ntmps10
          go_wp2_with fail
          refine hcon.out.mono ?_
          rintro e w1 ⟨rfl, rfl⟩
          go_wp2_with fail
          go_quiet (fail)
          go_wp2_with fail
          go_ret
          exact RetG.same HG.out rfl _
        · by_cases hs : 1073741824 < S.stamp + S.q.length
          · rw [show S.ask tx words tick = (S, 2) from by unfold GS.ask; rw [if_neg HB.out, if_neg HT.out, if_pos (Or.inr hs)]]
            have hr' : decide (S.room < words) = false := decide_eq_false hr
            go_enter Try.func10, Try.ntmps10
            go_wp2_with fail
            refine hcon.out.mono ?_
            rintro e w1 ⟨rfl, rfl⟩
            go_wp2_with fail
            go_quiet (fail)
            go_wp2_with fail
            go_ret
            exact RetG.same HG.out rfl _
          · have hr' : decide (S.room < words) = false := decide_eq_false hr
            rw [show S.ask tx words tick = ({ S with q := S.q ++ [⟨tx, words, tick⟩] }, 0) from by unfold GS.ask; rw [if_neg HB.out, if_neg HT.out, if_neg (by omega)]]
            go_enter Try.func10, Try.ntmps10
            go_wp2_with fail
            refine hcon.out.mono ?_
            rintro e w1 ⟨rfl, rfl⟩
            go_wp2_with fail
            go_quiet (fail)
            have G0 := Box.mk (HG.out.drewN nq)
            have BU := (But.refl (fpOf g m bs ta) w1).drewN nq
            clear c1 c3 c5 c8 hlook hlen hcon HG
            generalize w1.drewN nq = w0 at *
            go_wp2_with fail
            go_loopw [9] (fun v wr => ∃ k : Nat, k ≤ S.q.length ∧ v = .pointer (some (endAt g bs k)) ∧ wr = w0) (fun v _ => S.q.length - posOf bs v)
            case atStart => exact ⟨0, Nat.zero_le _, rfl, rfl⟩
            case round =>
              obtain ⟨k, hk, rfl, rfl⟩ := hrel
              obtain ⟨e1, e2, e3, e4⟩ := G0.out.endCell k hk
              have hpos := Box.mk (posOf_end G0.out k hk)
              have HE := Box.mk (show endAt g bs (k + 1) = ⟨bs.getD k 0, 3, none⟩ from rfl)
              by_cases hl : k < S.q.length
              · obtain ⟨b, hb1, hb2⟩ := G0.out.node k hl
                have hpos2 := Box.mk (posOf_end G0.out (k + 1) hl)
                have hbd := Box.mk (show bs.getD k 0 = b from by rw [List.getD_eq_getElem?_getD, hb1]; rfl)
                rw [show ptrOf bs[k]? = .pointer (some ⟨b, 0, none⟩) from by rw [hb1]; rfl] at e1
                generalize endAt g bs k = ad at *
                go_wp2_with fail
                go_roundw
                case rel => exact ⟨k + 1, hl, by rw [HE.out, hbd.out], trivial⟩
                case measure => rw [hpos.out, ← hbd.out, ← HE.out, hpos2.out]; omega
              · have hkq : k = S.q.length := by omega
                subst hkq
                have hnone := G0.out.last S.q.length (Nat.le_refl _)
                rw [show ptrOf bs[S.q.length]? = .pointer none from by rw [hnone]; rfl] at e1
                have hlt := cell_block_lt e1
                have hml := G0.out.map.lt
                have ea : ∀ o, (wr.alloc o).cell? (endAt g bs S.q.length) = some (.pointer none) := fun o => (cell_eq (Below.heap_alloc _ _ _ hlt)).trans e1
                have ef : ∀ o, (wr.alloc o).frozen? (endAt g bs S.q.length) = false := fun o => (World.frozen?_of_block (Below.heap_alloc _ _ _ hlt)).trans e2
                have c5 : ((wr.alloc (.cells #[.int .i64 tx, .int .i64 words, .int .i64 tick, .pointer none] 69)).setCell (endAt g bs S.q.length) (.pointer (some ⟨wr.heap.size, 0, none⟩))).cell? ⟨g, 5, none⟩ = some (.map (some m)) := by
                  have hb := G0.out.blk.alloc (.cells #[.int .i64 tx, .int .i64 words, .int .i64 tick, .pointer none] 69)
                  cases hq : S.q.length with
                  | zero => exact (hb.set 4 _).cellOf (i := 5) rfl
                  | succ n =>
                    obtain ⟨b, hb1, _⟩ := G0.out.node n (by omega)
                    have e : endAt g bs (n + 1) = ⟨b, 3, none⟩ := by show (⟨bs.getD n 0, 3, none⟩ : Addr) = _; rw [List.getD_eq_getElem?_getD, hb1]; rfl
                    rw [e]
                    exact (hb.other (p := ⟨b, 3, none⟩) (G0.out.node_g hb1).1.symm _).cellOf (i := 5) rfl
                have hm1 : SetM Try.prog 3 4 ((wr.alloc (.cells #[.int .i64 tx, .int .i64 words, .int .i64 tick, .pointer none] 69)).setCell (endAt g bs S.q.length) (.pointer (some ⟨wr.heap.size, 0, none⟩))) m (S.q.map Nd.tx) :=
                  G0.out.map.eq ((Below.heap_setCell _ _ _ _ (Ne.symm e4)).trans (Below.heap_alloc _ _ _ hml))
                obtain ⟨wc, hrun, hm2, hturn⟩ := hm1.store ty3 ty4 ty60 hx htw (by rw [List.length_map]; unfold maxLen; omega)
                have BU2 : But (fpOf g m bs ta) w1 wc := (((BU.alloc _).setCell (.inl e3) _).turned hturn (.inl (by simp [fpOf])))
                have hok : ({ S with q := S.q ++ [⟨tx, words, tick⟩] } : GS).OK := by
                  have := GS.ask_ok (words := words) (tick := tick) G0.out.ok hx
                  rw [show S.ask tx words tick = ({ S with q := S.q ++ [⟨tx, words, tick⟩] }, 0) from by unfold GS.ask; rw [if_neg HB.out, if_neg HT.out, if_neg (by omega)]] at this
                  exact this
                have HF := Box.mk (G0.out.push ⟨tx, words, tick⟩ hok hm2 hturn)
                have HBU := Box.mk BU2
                have HSZ := Box.mk (show w1.heap.size ≤ wr.heap.size from BU.size)
                clear hm1 hm2 hturn BU BU2 hok
                generalize endAt g bs S.q.length = ad at *
                go_wp2_with fail
                go_ret
                exact ⟨bs ++ [wr.heap.size], ta, tc, rfl, HF.out, HBU.out, fun x hx => by
                  simp only [fpOf, List.mem_cons, List.mem_append] at hx ⊢
                  rcases hx with h | h | (h | h) | h
                  · exact .inl (.inl h)
                  · exact .inl (.inr (.inl h))
                  · exact .inl (.inr (.inr (.inl h)))
                  · simp only [List.not_mem_nil, or_false] at h; subst h; exact .inr HSZ.out
                  · exact .inl (.inr (.inr (.inr h)))⟩
end Go.Proofs.Ytkloafpoldmpkaa
