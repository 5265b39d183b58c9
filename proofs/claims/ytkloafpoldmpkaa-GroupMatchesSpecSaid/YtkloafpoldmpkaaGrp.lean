/-
  How a group lies in memory. No condition.
-/
import Derived.Test.YtkloafpoldmpkaaRows
import Derived.Test.YtkloafpoldmpkaaGS
import Derived.Test.YtkloafpoldmpkaaImap
import Derived.Test.YtkloafpoldmpkaaOps
import Derived.Deep.QuietTactic
import Derived.StillTailTactics
namespace Go.Proofs.Ytkloafpoldmpkaa
open Go.RowKit

def ptrOf (o : Option Nat) : Value := .pointer (o.map fun b => ⟨b, 0, none⟩)
def grpVals (S : GS) (m : Nat) (bs : List Nat) (ta : Option Addr) (tc : Nat) : List Value :=
  [.int .i64 S.most, .int .i64 S.room, .int .i64 S.delay, .int .i64 S.stamp, ptrOf bs[0]?, .map (some m), .bool S.opn, .int .i64 S.first, .slice ta S.txs.length tc]
def ndVals (n : Nd) (nx : Value) : List Value := [.int .i64 n.tx, .int .i64 n.words, .int .i64 n.tick, nx]

/-- Block g is a group: its map, its nodes' blocks, its batch's slice. -/
structure Grp (w : World) (g m : Nat) (bs : List Nat) (ta : Option Addr) (tc : Nat) (S : GS) : Prop where
  blk : Blk w g 63 (grpVals S m bs ta tc)
  nodes : ∀ i (h : i < S.q.length), ∃ b, bs[i]? = some b ∧ Blk w b 69 (ndVals S.q[i] (ptrOf bs[i + 1]?))
  blen : bs.length = S.q.length
  map : SetM Try.prog 3 4 w m (S.q.map Nd.tx)
  txs : Rd w ta S.txs.length tc 1 (intVals S.txs)
  nodup : (g :: m :: bs).Nodup
  tsep : ∀ ad, ta = some ad → ad.block ∉ g :: m :: bs ∧ ad.block < w.heap.size
  ok : S.OK

/-- The blocks of a group. -/
def fpOf (g m : Nat) (bs : List Nat) (ta : Option Addr) : List Nat := g :: m :: (bs ++ (ta.map Addr.block).toList)

theorem Grp.but {w w' : World} {g m : Nat} {bs : List Nat} {ta : Option Addr} {tc : Nat} {S : GS} (h : Grp w g m bs ta tc S) {F : List Nat} (hb : But F w w') (hF : ∀ x ∈ fpOf g m bs ta, x ∉ F) : Grp w' g m bs ta tc S := by
  refine ⟨h.blk.but hb (hF g (by simp [fpOf])), fun i hi => ?_, h.blen, h.map.but hb (hF m (by simp [fpOf])), ?_, h.nodup, fun ad ha => ⟨(h.tsep ad ha).1, Nat.lt_of_lt_of_le (h.tsep ad ha).2 hb.size⟩, h.ok⟩
  · obtain ⟨b, hb1, hb2⟩ := h.nodes i hi
    exact ⟨b, hb1, hb2.but hb (hF b (by simp [fpOf, List.mem_of_getElem? hb1]))⟩
  · refine ⟨h.txs.hlen, h.txs.hcap, h.txs.hmax, h.txs.hnil, fun ad ha j u hu => ?_⟩
    have hc := h.txs.hcell ad ha j u hu
    have hl := cell_block_lt hc
    rw [cell_eq (w := w) (hb.block _ hl (hF _ (by rw [add_block, ha]; simp [fpOf])))]
    exact hc
theorem Grp.below {w w' : World} {g m : Nat} {bs : List Nat} {ta : Option Addr} {tc : Nat} {S : GS} (h : Grp w g m bs ta tc S) (hb : Below w.heap.size w w') : Grp w' g m bs ta tc S :=
  h.but (But.ofBelow (F := []) hb) (fun _ _ h => by cases h)
theorem Grp.drewN {w : World} {g m : Nat} {bs : List Nat} {ta : Option Addr} {tc : Nat} {S : GS} (h : Grp w g m bs ta tc S) (n : Nat) : Grp (w.drewN n) g m bs ta tc S :=
  h.below ⟨rfl, rfl, rfl, Nat.le_refl _, fun _ _ => rfl⟩
theorem Grp.node {w : World} {g m : Nat} {bs : List Nat} {ta : Option Addr} {tc : Nat} {S : GS} (h : Grp w g m bs ta tc S) (i : Nat) (hi : i < S.q.length) :
    ∃ b, bs[i]? = some b ∧ Blk w b 69 (ndVals (S.q.getD i default) (ptrOf bs[i + 1]?)) := by
  obtain ⟨b, h1, h2⟩ := h.nodes i hi
  exact ⟨b, h1, by rw [List.getD_eq_getElem?_getD, List.getElem?_eq_getElem hi]; exact h2⟩
theorem Grp.last {w : World} {g m : Nat} {bs : List Nat} {ta : Option Addr} {tc : Nat} {S : GS} (h : Grp w g m bs ta tc S) (i : Nat) (hi : S.q.length ≤ i) : bs[i]? = none := by
  rw [List.getElem?_eq_none]; rw [h.blen]; exact hi

/-- What a call that only reads leaves. -/
def RetQ (v : Value) (w : World) (e : Ending) (w' : World) : Prop := e = .returned v ∧ ∃ n, w' = w.drewN n

set_option maxRecDepth 20000 in
set_option maxHeartbeats 1000000 in
theorem front_any {w : World} {g m : Nat} {bs : List Nat} {ta : Option Addr} {tc : Nat} {S : GS} (h : Grp w g m bs ta tc S) :
    Calls Try.prog 32 #[.pointer (some ⟨g, 0, none⟩)] w (RetQ (.tuple #[.int .i64 S.front, ptrOf bs[S.front]?]) w) := by
  have c0 := h.blk.cellOf (i := 0) rfl
  have c1 := h.blk.cellOf (i := 1) rfl
  have c4 := h.blk.cellOf (i := 4) rfl
  have hOK := Box.mk h.ok
  have HG := Box.mk h; clear h
  go_enter Try.func32, Try.ntmps32
  go_wp2_with fail
  go_quiet (fail)
  go_wp2_with fail
  go_loopw [4, 5, 6] (fun i x r wr => ∃ k : Nat, k ≤ S.q.length ∧ (∀ j, j < k → S.goes j = true) ∧ i = .int .i64 k ∧ x = .int .i64 (S.sumW k) ∧ r = ptrOf bs[k]? ∧ 0 ≤ S.sumW k ∧ S.sumW k ≤ 1048576 ∧ ∃ n, wr = w.drewN n) (fun i _ _ _ => S.q.length - (intOf i).toNat)
  case atStart => exact ⟨0, Nat.zero_le _, fun j h => by omega, rfl, by rw [S.sumW_zero], rfl, by rw [S.sumW_zero]; omega, by rw [S.sumW_zero]; omega, _, rfl⟩
  case round =>
    obtain ⟨k, hk, hgo, rfl, rfl, rfl, hs0, hs1, n, rfl⟩ := hrel
    have HGO := Box.mk hgo; clear hgo
    by_cases hl : k < S.q.length
    · obtain ⟨b, hb1, hb2⟩ := HG.out.node k hl
      have hq := HG.out.ok.q (S.q.getD k default) (by rw [List.getD_eq_getElem?_getD, List.getElem?_eq_getElem hl]; exact List.getElem_mem hl)
      have hs := Box.mk (S.sumW_succ k hl)
      have hge := Box.mk (show S.goes k = (decide ((k : Int) < S.most) && decide (S.sumW k + (S.q.getD k default).words ≤ S.room)) from by unfold GS.goes; simp [hl])
      have hm64 := HG.out.ok.most
      have hr20 := HG.out.ok.room
      have d1 := hb2.cellOf (i := 1) rfl
      have d3 := hb2.cellOf (i := 3) rfl
      rw [show ptrOf bs[k]? = .pointer (some ⟨b, 0, none⟩) from by rw [hb1]; rfl]
      generalize (S.q.getD k default) = nd at *
      generalize S.sumW k = sk at *
      obtain ⟨⟨hw1, hw2⟩, _, _⟩ := hq
      by_cases hm : (k : Int) < S.most
      · by_cases hw : sk + nd.words ≤ S.room
        · have hgk : S.goes k = true := by rw [hge.out]; simp [hm, hw]
          go_wp2_with fail
          go_quiet (fail)
          go_wp2_with fail
          go_roundw
          case rel => exact ⟨k + 1, by omega, fun j hj => by
            by_cases e : j = k
            · subst e; exact hgk
            · exact HGO.out j (by omega), by go_num, by rw [hs.out], rfl, by rw [hs.out]; omega, by rw [hs.out]; omega, _, rfl⟩
          case measure => simp [intOf]; omega
        · have hgk : S.goes k = false := by rw [hge.out]; simp [hw]
          have hw' : decide (sk + nd.words ≤ S.room) = false := decide_eq_false hw
          have hf := Box.mk (S.front_is HGO.out hgk)
          go_wp2_with fail
          go_quiet (fail)
          go_wp2_with fail
          go_ret2
          exact ⟨by rw [hf.out, hb1]; rfl, _, World.drewN_drewN _ _ _⟩
      · have hgk : S.goes k = false := by rw [hge.out]; simp [hm]
        have hm' : decide ((k : Int) < S.most) = false := decide_eq_false hm
        have hf := Box.mk (S.front_is HGO.out hgk)
        go_wp2_with fail
        go_quiet (fail)
        go_wp2_with fail
        go_ret2
        exact ⟨by rw [hf.out, hb1]; rfl, _, World.drewN_drewN _ _ _⟩
    · have hgk : S.goes k = false := by unfold GS.goes; simp [hl]
      have hf := Box.mk (S.front_is HGO.out hgk)
      have hb1 := HG.out.last k (by omega)
      rw [show ptrOf bs[k]? = .pointer none from by rw [hb1]; rfl]
      go_wp2_with fail
      go_quiet (fail)
      go_wp2_with fail
      go_ret2
      exact ⟨by rw [hf.out, hb1]; rfl, _, World.drewN_drewN _ _ _⟩

set_option maxRecDepth 20000 in
set_option maxHeartbeats 1000000 in
theorem due_any {w : World} {g m : Nat} {bs : List Nat} {ta : Option Addr} {tc : Nat} {S : GS} (h : Grp w g m bs ta tc S) (tick : Int) :
    Calls Try.prog 13 #[.pointer (some ⟨g, 0, none⟩), .int .i64 tick] w (RetQ (.bool (S.due tick)) w) := by
  have c0 := h.blk.cellOf (i := 0) rfl
  have c2 := h.blk.cellOf (i := 2) rfl
  have c4 := h.blk.cellOf (i := 4) rfl
  have c6 := h.blk.cellOf (i := 6) rfl
  have HG := Box.mk h; clear h
  have HF := Box.mk (fun n => front_any (HG.out.drewN n))
  have hdue := Box.mk (show S.due tick = (!S.opn && decide (0 < S.q.length) && (decide ((S.front : Int) = S.most) || decide (S.front < S.q.length) || decide ((S.q.getD 0 default).tick + S.delay ≤ tick))) from rfl)
  cases ho : S.opn
  · rw [ho] at c6
    by_cases hl : 0 < S.q.length
    · obtain ⟨b, hb1, hb2⟩ := HG.out.node 0 hl
      rw [show ptrOf bs[0]? = .pointer (some ⟨b, 0, none⟩) from by rw [hb1]; rfl] at c4
      have hq := HG.out.ok.q (S.q.getD 0 default) (by rw [List.getD_eq_getElem?_getD, List.getElem?_eq_getElem hl]; exact List.getElem_mem hl)
      have d2 := hb2.cellOf (i := 2) rfl
      have hdl := HG.out.ok.delay
      generalize (S.q.getD 0 default) = nd at *
      obtain ⟨_, ⟨ht1, ht2⟩, _⟩ := hq
      go_enter Try.func13, Try.ntmps13
      go_wp2_with fail
      refine (front_any HG.out).mono ?_
      rintro e w1 ⟨rfl, n1, rfl⟩
      have hfm := GS.front_most HG.out.ok
      have hfl := S.front_le
      obtain ⟨fr, hfr⟩ : ∃ fr, S.front = fr := ⟨_, rfl⟩
      rw [hfr] at hfm hfl ⊢
      rw [hfr] at hdue
      have HFR := Box.mk hfr; clear hfr
      by_cases h1 : (fr : Int) = S.most
      · have h1' : ((fr : Int) == S.most) = true := by simp [h1]
        go_wp2_with fail
        go_quiet (fail)
        go_wp2_with fail
        go_ret
        exact ⟨by rw [hdue.out, ho]; simp [hl, h1], _, World.drewN_drewN _ _ _⟩
      · have h1' : ((fr : Int) == S.most) = false := by simp [h1]
        by_cases h2 : fr < S.q.length
        · obtain ⟨b2, hr, _⟩ := HG.out.node fr h2
          rw [show ptrOf bs[fr]? = .pointer (some ⟨b2, 0, none⟩) from by rw [hr]; rfl]
          go_wp2_with fail
          go_quiet (fail)
          go_wp2_with fail
          go_ret
          exact ⟨by rw [hdue.out, ho]; simp [hl, h2], _, World.drewN_drewN _ _ _⟩
        · have hr := HG.out.last fr (by omega)
          rw [show ptrOf bs[fr]? = .pointer none from by rw [hr]; rfl]
          go_wp2_with fail
          go_quiet (fail)
          go_wp2_with fail
          go_ret
          exact ⟨by rw [hdue.out, ho]; simp [hl, h1, h2], _, World.drewN_drewN _ _ _⟩
    · have hb1 := HG.out.last 0 (by omega)
      rw [show ptrOf bs[0]? = .pointer none from by rw [hb1]; rfl] at c4
      go_enter Try.func13, Try.ntmps13
      go_wp2_with fail
      go_ret
      exact ⟨by rw [hdue.out]; simp [hl], 0, rfl⟩
  · rw [ho] at c6
    go_enter Try.func13, Try.ntmps13
    go_wp2_with fail
    go_ret
    exact ⟨by rw [hdue.out, ho]; simp, 0, rfl⟩
end Go.Proofs.Ytkloafpoldmpkaa
