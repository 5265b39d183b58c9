/-
  The walk of the law's cut: a batch is cut, closed and reported. No condition.
-/
import Derived.Test.YtkloafpoldmpkaaKeep
import Derived.Test.YtkloafpoldmpkaaImap2
import Derived.Deep.RegionLaw
namespace Go.Proofs.Ytkloafpoldmpkaa
open Go.RowKit

theorem agg65 : AggT Try.prog 65 2 := ⟨by kernel_rfl, by kernel_rfl⟩
/-- What the law's cut leaves. -/
def RetKcut (mo ro de : Int) (W : Nat → Int) (s : Int) (L : List Nat) (fr : Nat) (g m gb nm n : Nat) (f : Int → Int) (gl : List Int) (aw : Option Addr) (nw cw : Nat) (wl : List Int) (B : Nat) (w : World) (e : Ending) (w' : World) : Prop :=
  ∃ a c, e = .returned (.bool true) ∧ Own B w' [GrpP g (QL mo ro de W (s + fr) (L.drop fr)), IntMP Try.prog 3 3 m nm f, BlkP gb 22 [.slice a (n + fr) c],
    RowP 3 1 a (n + fr) c (intVals (gl ++ ints (L.take fr))), RowP 3 1 aw nw cw (intVals wl)] ∧ Below B w w'

theorem QL_sum_bd {mo ro de s : Int} {W : Nat → Int} {L : List Nat} (h : (QL mo ro de W s L).OK) : ∀ k, k ≤ (QL mo ro de W s L).front → 0 ≤ ((L.take k).map W).sum ∧ ((L.take k).map W).sum ≤ ro
  | 0, _ => by have := h.room; simp only [QL] at this; simp; omega
  | k + 1, hk => by
    have hfl := (QL mo ro de W s L).front_le
    rw [QL_len] at hfl
    obtain ⟨h1, h2⟩ := QL_sum_bd h k (by omega)
    have hg := (QL mo ro de W s L).front_goes.1 k (by omega)
    unfold GS.goes at hg
    simp only [Bool.and_eq_true, decide_eq_true_eq] at hg
    have e : ((QL mo ro de W s L).q.getD k default).words = W L[k] := by
      rw [List.getD_eq_getElem?_getD, List.getElem?_eq_getElem (by rw [QL_len]; omega)]
      simp [QL, nodeOf]
    have hw := (h.q (nodeOf W L[k]) (by simp only [QL]; exact List.mem_map.2 ⟨_, List.getElem_mem _, rfl⟩)).1
    rw [e, QL_sum] at hg
    have hr : (QL mo ro de W s L).room = ro := rfl
    rw [hr] at hg
    simp only [nodeOf] at hw
    rw [List.take_succ_eq_append_getElem (by omega), List.map_append, List.sum_append]
    simp only [List.map_cons, List.map_nil, List.sum_cons, List.sum_nil, Int.add_zero]
    omega

set_option maxRecDepth 20000 in
set_option maxHeartbeats 8000000 in
theorem kcut_own {mo ro de : Int} {W : Nat → Int} {s : Int} {L : List Nat} {g m gb nm n c : Nat} {f : Int → Int} {gl : List Int} {a aw : Option Addr} {nw cw : Nat} {wl : List Int} {B : Nat} {w : World}
    (O : Own B w [GrpP g (QL mo ro de W s L), IntMP Try.prog 3 3 m nm f, BlkP gb 22 [.slice a n c], RowP 3 1 a n c (intVals gl), RowP 3 1 aw nw cw (intVals wl)]) (tick : Int)
    (hd : (QL mo ro de W s L).due tick = true) (hf : ∀ j ∈ L, f (j : Int) = W j) (hs : s = 1 + (n : Int)) (hj : ∀ j ∈ L, j ≤ 1000) (hn : n ≤ 1000) (hL : L.length ≤ 1000) :
    Calls Try.prog 30 #[.pointer (some ⟨g, 0, none⟩), .int .i64 tick, .int .i64 mo, .int .i64 ro, .map (some m), .pointer (some ⟨gb, 0, none⟩)] w (RetKcut mo ro de W s L (QL mo ro de W s L).front g m gb nm n f gl aw nw cw wl B w) := by
  have HSN := Box.mk hs; clear hs
  have hOK := Own.ok O 0 rfl
  have hfp := QL_front_pos hOK (QL_due_ne tick hd)
  have hfm := GS.front_most hOK
  have hfl := (QL mo ro de W s L).front_le
  rw [QL_len] at hfl
  have hro := hOK.room
  have hmo := hOK.most
  have hrm : (QL mo ro de W s L).room = ro := rfl
  have hmm : (QL mo ro de W s L).most = mo := rfl
  rw [hrm] at hro
  rw [hmm] at hmo hfm
  have HSB := Box.mk (QL_sum_bd hOK)
  have ht : (QL mo ro de W s L).tryCut tick = (QL mo ro de W s L).cut := by unfold GS.tryCut; rw [hd]; rfl
  have htx : (QL mo ro de W s L).cutTxs tick = ints (L.take (QL mo ro de W s L).front) := by rw [← QL_cut_txs]; unfold GS.cutTxs; rw [hd]; rfl
  have hfi : (QL mo ro de W s L).cutFirst tick = s := by unfold GS.cutFirst; rw [hd]; rfl
  have hreps : (QL mo ro de W s L).cut.reps = (List.range (QL mo ro de W s L).front).map fun (j : Nat) => ((((L.take (QL mo ro de W s L).front).getD j 0 : Nat) : Int), s + (j : Int)) := by
    unfold GS.reps
    rw [QL_cut_txs, QL_cut_first, ints_length, List.length_take, Nat.min_eq_left hfl]
    apply List.map_congr_left
    intro j hj2
    have hj3 := List.mem_range.1 hj2
    rw [ints_getD _ _ (by rw [List.length_take]; omega)]
  have hC := Box.mk (cut_to O 0 rfl tick hd ht hfi htx)
  have HD := Box.mk (QL_cut (mo := mo) (ro := ro) (de := de) (W := W) (s := s) (L := L))
  have HR := Box.mk hreps
  clear hd ht htx hfi hreps hrm hmm hOK
  generalize (QL mo ro de W s L).front = fr at *
  have hlt : (L.take fr).length = fr := by rw [List.length_take]; omega
  have hmem : ∀ k, k < fr → (L.take fr).getD k 0 ∈ L := fun k hk => by
    rw [List.getD_eq_getElem?_getD, List.getElem?_eq_getElem (by omega)]
    exact List.mem_of_mem_take (List.getElem_mem _)
  have HM := Box.mk hmem; have HF := Box.mk hf; have HJ := Box.mk hj
  have hsumS : ∀ k, k < fr → ((L.take (k + 1)).map W).sum = ((L.take k).map W).sum + W ((L.take fr).getD k 0) := fun k hk => by
    rw [List.take_succ_eq_append_getElem (by omega), List.map_append, List.sum_append]
    simp only [List.map_cons, List.map_nil, List.sum_cons, List.sum_nil, Int.add_zero]
    rw [List.getD_eq_getElem?_getD, List.getElem?_eq_getElem (by omega)]
    simp
  have HS := Box.mk hsumS
  clear hmem hf hj hsumS
  have hil : (ints (L.take fr)).length = fr := by rw [ints_length]; exact hlt
  have hlen2 := Box.mk hlt
  go_enter Try.func30, Try.ntmps30
  go_wp2_with fail
  refine hC.out.mono ?_
  rintro e w1 ⟨ab, cb, rfl, O1, B1⟩
  rw [hil] at O1 ⊢
  have HIL := Box.mk hil
  clear hC O hil hlt
  replace O1 : Own B w1 [GrpP g (QL mo ro de W s L).cut, IntMP Try.prog 3 3 m nm f, BlkP gb 22 [.slice a n c], RowP 3 1 a n c (intVals gl), RowP 3 1 aw nw cw (intVals wl), RdP 1 ab fr cb (intVals (ints (L.take fr)))] := O1
  go_wp2_with ((with_reducible show wpList _ _ _ _ _ _); refine wpList_store_fresh (o := ⟨none, .store 32 (.tmp 13) (.tmp 27), _, _, _, _⟩) (cs := [.int .i64 s, .slice ab fr cb]) rfl 32 _ _ rfl rfl agg32.info rfl rfl rfl rfl (by simp [Value.oneCell']) ?_)
  have O2 := O1.new [.int .i64 s, .slice ab fr cb] 32
  have B2 := B1.alloc O1.base (.cells #[.int .i64 s, .slice ab fr cb] 32)
  replace O2 : Own B (w1.alloc (.cells #[.int .i64 s, .slice ab fr cb] 32)) [GrpP g (QL mo ro de W s L).cut, IntMP Try.prog 3 3 m nm f, BlkP gb 22 [.slice a n c], RowP 3 1 a n c (intVals gl), RowP 3 1 aw nw cw (intVals wl), RdP 1 ab fr cb (intVals (ints (L.take fr))), BlkP w1.heap.size 32 [.int .i64 s, .slice ab fr cb]] := O2
  clear O1 B1
  generalize (w1.alloc (.cells #[.int .i64 s, .slice ab fr cb] 32)) = w2 at *
  generalize w1.heap.size = kb at *
  have hRb := Box.mk (O2.rd 5 rfl)
  have hlook := Box.mk (fun (x : Int) (hx : In64 x) => (O2.intM 1 rfl).look ty3 ty3 ty39 zero3 hx)
  go_loopw [15, 32] (fun vs vc wx => ∃ k : Nat, k ≤ fr ∧ vc = .int .i64 k ∧ vs = .int .i64 (((L.take k).map W).sum) ∧ wx = w2) (fun _ vc _ => fr - (intOf vc).toNat)
  case atStart => exact ⟨0, Nat.zero_le _, rfl, by simp, rfl⟩
  case round =>
    obtain ⟨k, hk, rfl, rfl, rfl⟩ := hrel
    have hs1 := HSB.out k hk
    by_cases hl : k < fr
    · obtain ⟨b6, o6, rfl, hcell⟩ := hRb.out.intAtD k hl
      have hsx := HS.out k hl
      have hjl := HJ.out _ (HM.out k hl)
      have hlk := hlook.out (((L.take fr).getD k 0 : Nat) : Int) (by unfold In64; omega)
      rw [HF.out _ (HM.out k hl)] at hlk
      rw [ints_getD _ _ (by rw [hlen2.out]; exact hl)] at hcell
      have hs2 := HSB.out (k + 1) (by omega)
      have HSX := Box.mk hsx
      rw [hsx] at hs2
      generalize (L.take fr).getD k 0 = jj at *
      generalize (List.map W (List.take k L)).sum = sk at *
      generalize W jj = wj at *
      generalize (jj : Int) = jz at *
      clear hsx
      go_wp2_with fail
      go_roundw
      case rel => exact ⟨k + 1, hl, by go_num, by rw [HSX.out], trivial⟩
      case measure => simp [intOf]; omega
    · obtain rfl : k = fr := by omega
      generalize (List.map W (List.take k L)).sum = sk at *
      obtain ⟨hsa, hsb⟩ := hs1
      have bk := (O2.blk 6 rfl).1
      have bg := (O2.blk 2 rfl).1
      have bk0 := bk.cellOf (i := 0) rfl
      have bk1 := bk.cellOf (i := 1) rfl
      have bg0 := bg.cellOf (i := 0) rfl
      have g1 : decide (((k : Nat) : Int) < 1) = false := decide_eq_false (by omega)
      have g2 : decide (mo < ((k : Nat) : Int)) = false := decide_eq_false (by omega)
      have g3 : decide (ro < sk) = false := decide_eq_false (by omega)
      have g4 : (s != 1 + ((n : Nat) : Int)) = false := by rw [HSN.out]; simp
      clear hlook
      go_wp2_with fail
      go_quiet (fail)
      go_wp2_with fail
      replace O2 := O2.drewN nq
      replace B2 := below_drewN B2 nq
      clear bk bg bk0 bk1 bg0 g1 g2 g3 g4 hRb
      generalize wr.drewN nq = w3 at *
      have hDn := Box.mk (done_to O2 0 rfl HD.out HR.out)
      have hrl : ((List.range k).map fun (j : Nat) => ((((L.take k).getD j 0 : Nat) : Int), s + (j : Int))).length = k := by simp
      have hrg : ∀ j, j < k → (((List.range k).map fun (j : Nat) => ((((L.take k).getD j 0 : Nat) : Int), s + (j : Int)))).getD j default = ((((L.take k).getD j 0 : Nat) : Int), s + (j : Int)) := fun j hj => by
        rw [List.getD_eq_getElem?_getD, List.getElem?_eq_getElem (by rw [hrl]; exact hj)]
        simp
      have HRG := Box.mk hrg; clear hrg
      generalize ((List.range k).map fun (j : Nat) => ((((L.take k).getD j 0 : Nat) : Int), s + (j : Int))) = rs at *
      refine hDn.out.mono ?_
      rintro e w4 ⟨ad, cd, rfl, O4, B4⟩
      replace B4 := B2.trans B4
      rw [hrl] at O4 ⊢
      replace O4 : Own B w4 [GrpP g (QL mo ro de W (s + k) (L.drop k)), IntMP Try.prog 3 3 m nm f, BlkP gb 22 [.slice a n c], RowP 3 1 a n c (intVals gl), RowP 3 1 aw nw cw (intVals wl), RdP 1 ab k cb (intVals (ints (L.take k))), BlkP kb 32 [.int .i64 s, .slice ab k cb], RowP 65 2 ad k cd (repC rs)] := O4
      clear hDn O2 B2 HD HR
      have HRL := Box.mk hrl; clear hrl
      have bk1 := (O4.blk 6 rfl).1.cellOf (i := 1) rfl
      have hkk : ((k : Int) != (k : Int)) = false := by simp
      go_wp2_with fail
      clear bk1 hkk
      obtain ⟨wo, rfl⟩ : ∃ wo : World, wo = wr := ⟨_, rfl⟩
      go_loopw [82] (fun vc wx => ∃ (j : Nat) (a' : Option Addr) (c' : Nat), j ≤ k ∧ vc = .int .i64 j ∧ Own B wx [GrpP g (QL mo ro de W (s + k) (L.drop k)), IntMP Try.prog 3 3 m nm f, BlkP gb 22 [.slice a' (n + j) c'], RowP 3 1 a' (n + j) c' (intVals (gl ++ ints ((L.take k).take j))), RowP 3 1 aw nw cw (intVals wl), RdP 1 ab k cb (intVals (ints (L.take k))), BlkP kb 32 [.int .i64 s, .slice ab k cb], RowP 65 2 ad k cd (repC rs)] ∧ Below B w wx) (fun vc _ => k - (intOf vc).toNat)
      case atStart => exact ⟨0, a, c, Nat.zero_le _, rfl, by simpa [ints] using O4, B4⟩
      case round =>
        clear O4 B4
        obtain ⟨j, a', c', hj, rfl, O, BW⟩ := hrel
        by_cases hl2 : j < k
        · obtain ⟨b7, o7, rfl, hc1, hc2⟩ := (Rd.ofOwn (O.row 7 rfl)).repAt j hl2
          obtain ⟨b6, o6, rfl, hcell⟩ := (O.rd 5 rfl).intAtD j hl2
          rw [HRG.out j hl2] at hc1 hc2
          rw [ints_getD _ _ (by rw [hlen2.out]; exact hl2)] at hcell
          simp only at hc1 hc2
          have hT := Box.mk (show ints ((L.take k).take (j + 1)) = ints ((L.take k).take j) ++ [(((L.take k).getD j 0 : Nat) : Int)] from by
            rw [List.take_succ_eq_append_getElem (by rw [hlen2.out]; exact hl2), ints_append]
            rw [List.getD_eq_getElem?_getD, List.getElem?_eq_getElem (by rw [hlen2.out]; exact hl2)]
            rfl)
          generalize (L.take k).getD j 0 = jj at *
          generalize (jj : Int) = jz at *
          have hx1 : (jz != jz) = false := by simp
          have hx2 : (s + (j : Int) != s + (j : Int)) = false := by simp
          go_wp2_with (first
            | ((with_reducible show wpList _ _ _ _ _ _); refine wpList_store_fresh (o := ⟨none, .store 65 (.tmp 20) (.tmp 86), _, _, _, _⟩) (cs := [.int .i64 jz, .int .i64 (s + (j : Int))]) rfl 65 _ _ rfl rfl agg65.info rfl rfl rfl rfl (by simp [Value.oneCell']) ?_))
          have O5 := O.new [.int .i64 jz, .int .i64 (s + (j : Int))] 65
          have B5 := BW.alloc O.base (.cells #[.int .i64 jz, .int .i64 (s + (j : Int))] 65)
          replace O5 : Own B (wr.alloc (.cells #[.int .i64 jz, .int .i64 (s + (j : Int))] 65)) [GrpP g (QL mo ro de W (s + k) (L.drop k)), IntMP Try.prog 3 3 m nm f, BlkP gb 22 [.slice a' (n + j) c'], RowP 3 1 a' (n + j) c' (intVals (gl ++ ints ((L.take k).take j))), RowP 3 1 aw nw cw (intVals wl), RdP 1 (some ⟨b6, o6, none⟩) k cb (intVals (ints (L.take k))), BlkP kb 32 [.int .i64 s, .slice (some ⟨b6, o6, none⟩) k cb], RowP 65 2 (some ⟨b7, o7, none⟩) k cd (repC rs), BlkP wr.heap.size 65 [.int .i64 jz, .int .i64 (s + (j : Int))]] := O5
          have hcell5 : (wr.alloc (.cells #[.int .i64 jz, .int .i64 (s + (j : Int))] 65)).cell? ⟨b6, o6 + j, none⟩ = some (.int .i64 jz) := (cell_eq (Below.heap_alloc _ _ _ (cell_block_lt hcell))).trans hcell
          clear O BW hc1 hc2 hcell
          generalize (wr.alloc (.cells #[.int .i64 jz, .int .i64 (s + (j : Int))] 65)) = w5 at *
          generalize wr.heap.size = kx at *
          have hsr : 1 ≤ s ∧ s ≤ 1001 := by have := HSN.out; omega
          obtain ⟨hsr1, hsr2⟩ := hsr
          have bk0 := (O5.blk 6 rfl).1.cellOf (i := 0) rfl
          have bk1 := (O5.blk 6 rfl).1.cellOf (i := 1) rfl
          have bx0 := (O5.blk 8 rfl).1.cellOf (i := 0) rfl
          have bx1 := (O5.blk 8 rfl).1.cellOf (i := 1) rfl
          go_wp2_with fail
          go_quiet (fail)
          replace O5 := O5.drewN nq
          replace B5 := below_drewN B5 nq
          clear bk0 bk1 bx0 bx1 hcell5 hx1 hx2
          generalize w5.drewN nq = w6 at *
          have bx0 := (O5.blk 8 rfl).1.cellOf (i := 0) rfl
          have bgB := (O5.blk 2 rfl).1
          have bg0 := bgB.cellOf (i := 0) rfl
          have bx0a := ((O5.blk 8 rfl).1.alloc (.cells #[.int .i64 jz] 3)).cellOf (i := 0) rfl
          have bg0a := (bgB.alloc (.cells #[.int .i64 jz] 3)).cellOf (i := 0) rfl
          have O6 := O5.alloc (.cells #[.int .i64 jz] 3)
          have B6 := B5.alloc O5.base (.cells #[.int .i64 jz] 3)
          have O6' := O6.drew
          have B6' := B6.drew
          have SRC : Src Try.prog ((w6.alloc (.cells #[.int .i64 jz] 3)).drew) (.slice (some ⟨w6.heap.size, 0, none⟩) 1 1) 1 1 [.int .i64 jz] := Src.ofRd (Rd.drew (rd_newAt rfl rfl rfl (by unfold maxLen; omega))) (by simp [Value.oneCell'])
          have hown0 := O6'.row 3 rfl
          go_wp2_with fail
          go_region_law (refine oper_append2 rfl _ _ 22 22 rfl sl22 (.inl sl22.ht) rfl hown0 rfl SRC (by omega) (by unfold maxLen; omega) (Nat.zero_le _) ?_; intro a9 c9 w9 hown9 hgr9 hla9; have O9 := (O6'.grown 3 rfl hown9 hgr9 hla9).1; have B9 := B6'.trans (O6'.grown 3 rfl hown9 hgr9 hla9).2; have x1 := (O9.blk 2 rfl).1.cellOf (i := 0) rfl; have x2 := (O9.blk 2 rfl).1.free 0)
          all_goals
            have hcat : intVals (gl ++ ints ((L.take k).take j)) ++ [Value.int .i64 jz] = intVals (gl ++ ints ((L.take k).take (j + 1))) := by
              rw [hT.out]; simp only [intVals, List.map_append, List.map_cons, List.map_nil, List.append_assoc]
            obtain ⟨O10, B10⟩ := O9.setCell 2 rfl 0 (.slice a9 (n + j + 1) c9)
            replace O10 := O10.drop 8
            replace B10 := B9.trans B10
            rw [hcat] at O10
            replace O10 : Own B (w9.setCell ⟨gb, 0, none⟩ (.slice a9 (n + j + 1) c9)) [GrpP g (QL mo ro de W (s + k) (L.drop k)), IntMP Try.prog 3 3 m nm f, BlkP gb 22 [.slice a9 (n + (j + 1)) c9], RowP 3 1 a9 (n + (j + 1)) c9 (intVals (gl ++ ints ((L.take k).take (j + 1)))), RowP 3 1 aw nw cw (intVals wl), RdP 1 (some ⟨b6, o6, none⟩) k cb (intVals (ints (L.take k))), BlkP kb 32 [.int .i64 s, .slice (some ⟨b6, o6, none⟩) k cb], RowP 65 2 (some ⟨b7, o7, none⟩) k cd (repC rs)] := O10
            clear hcat O9 B9 x1 x2 hown9 hgr9 hla9 hown0 SRC O6' B6' O6 B6 bx0 bx0a bg0 bg0a bgB O5 B5
            generalize (w9.setCell ⟨gb, 0, none⟩ (.slice a9 (n + j + 1) c9)) = w10 at *
            go_wp2_with fail
            go_roundw
            case rel => exact ⟨j + 1, a9, c9, by omega, by go_num, O10, B10⟩
            case measure => simp [intOf]; omega
        · obtain rfl : j = k := by omega
          have htt : (L.take j).take j = L.take j := by rw [List.take_take, Nat.min_self]
          rw [htt] at O
          have hOp := Box.mk (open_own O 0 rfl)
          have hQo : (QL mo ro de W (s + j) (L.drop j)).opn = false := rfl
          have hQf : (QL mo ro de W (s + j) (L.drop j)).first = 0 := rfl
          have hQt : (QL mo ro de W (s + j) (L.drop j)).txs = [] := rfl
          have hQd : (QL mo ro de W (s + j) (L.drop j)).done = QL mo ro de W (s + j) (L.drop j) := rfl
          have hQr : (QL mo ro de W (s + j) (L.drop j)).reps = [] := rfl
          unfold RetOpenO at hOp
          rw [hQo, hQf, hQt] at hOp
          have HQ := Box.mk (And.intro hQd hQr)
          clear hQo hQf hQt hQd hQr htt
          generalize hQe : QL mo ro de W (s + (j : Int)) (L.drop j) = Q at *
          have HQE := Box.mk hQe; clear hQe
          go_wp2_with fail
          refine hOp.out.mono ?_
          rintro e w5 ⟨a5, c5, rfl, O5, B5⟩
          replace B5 := BW.trans B5
          replace O5 := O5.pop
          clear hOp O BW
          go_wp2_with ((with_reducible show wpList _ _ _ _ _ _); refine wpList_store_fresh (o := ⟨none, .store 32 (.tmp 21) (.tmp 117), _, _, _, _⟩) (cs := [.int .i64 0, .slice a5 0 c5]) rfl 32 _ _ rfl rfl agg32.info rfl rfl rfl rfl (by simp [Value.oneCell']) ?_)
          have O6 := O5.alloc (.cells #[.int .i64 0, .slice a5 0 c5] 32)
          have B6 := B5.alloc O5.base (.cells #[.int .i64 0, .slice a5 0 c5] 32)
          clear O5 B5
          refine (done_to O6 0 rfl HQ.out.1 HQ.out.2).mono ?_
          rintro e w7 ⟨a7, c7, rfl, O7, B7⟩
          replace B7 := B6.trans B7
          replace O7 := O7.pop
          go_wp2_with fail
          go_ret
          rw [← HQE.out] at O7
          exact ⟨a', c', rfl, ((O7.drop 7).drop 6).drop 5, B7⟩
end Go.Proofs.Ytkloafpoldmpkaa
