/-
  The walks of the reference's Drop, Waiting. No condition.
-/
import Derived.Test.YtkloafpoldmpkaaRef2
namespace Go.Proofs.Ytkloafpoldmpkaa
open Go.RowKit

theorem Rd.subAt3 {w : World} {a : Option Addr} {n cap : Nat} {xs : List Value} (h : Rd w a n cap 3 xs) (lo : Nat) (h1 : lo ≤ n) :
    ∃ a', (if cap = lo then a else Option.map (fun x => x.add (lo * 3)) a) = a' ∧ Rd w a' (n - lo) (cap - lo) 3 ((xs.drop (lo * 3)).take ((n - lo) * 3)) :=
  ⟨_, rfl, h.sub lo n cap h1 (Nat.le_refl _) h.hcap (Nat.le_refl _)⟩
theorem Rd.pre3 {w : World} {a : Option Addr} {n cap : Nat} {xs : List Value} (h : Rd w a n cap 3 xs) (u : Nat) (hu : u ≤ n) : Rd w a u cap 3 (xs.take (u * 3)) := by
  refine ⟨by rw [List.length_take, h.hlen]; have : u * 3 ≤ n * 3 := Nat.mul_le_mul_right _ hu; omega, Nat.le_trans hu h.hcap, h.hmax, fun ha => by rw [h.hnil ha]; simp, fun ad ha j x hx => h.hcell ad ha j x ?_⟩
  rw [List.getElem?_take] at hx
  split at hx
  · exact hx
  · cases hx

theorem place_idx (S : GS) (tx : Int) : S.place tx = (S.q.map Nd.tx).idxOf tx := by
  unfold GS.place List.idxOf
  rw [List.findIdx_map]
  rfl

set_option maxRecDepth 20000 in
set_option maxHeartbeats 2000000 in
theorem ref_drop {B : Nat} {w : World} {l : List HP} {r : Nat} {la ta : Option Addr} {lc tc : Nat} {S : GS} (O : Own B w (RefL r la lc ta tc S ++ l)) (hok : S.OK) (tx : Int) :
    Calls Try.prog 23 #[.pointer (some ⟨r, 0, none⟩), .int .i64 tx] w (RetRef2 (.bool (decide (tx ∈ S.q.map Nd.tx))) r (S.drop tx) l B w) := by
  have hst := hok.stamp
  have hq30 : S.q.length ≤ 1073741825 := by omega
  clear hst hok
  have HA := Box.mk (ref_at O hq30 tx)
  by_cases hm : tx ∈ S.q.map Nd.tx
  · obtain ⟨k, hk, hkl⟩ : ∃ k, (S.q.map Nd.tx).idxOf tx = k ∧ k < S.q.length := ⟨_, rfl, by have := List.idxOf_lt_length_iff.2 hm; rw [List.length_map] at this; exact this⟩
    have hix : idx (S.q.map Nd.tx) tx = (k : Int) := by unfold idx; rw [if_pos hm, hk]
    have HS := Box.mk (show S.drop tx = { S with q := S.q.eraseIdx k } from by unfold GS.drop; rw [place_idx, hk])
    rw [decide_eq_true hm]
    rw [hix] at HA
    clear hm hk hix
    have hEr : ndC (S.q.eraseIdx k) = ndC (S.q.take k) ++ ndC (S.q.drop (k + 1)) := by rw [List.eraseIdx_eq_take_drop_succ, ndC_append]
    have hEl : k + (S.q.length - (k + 1)) = (S.q.eraseIdx k).length := by rw [List.length_eraseIdx, if_pos hkl]; omega
    have HEr := Box.mk hEr; have HEl := Box.mk hEl
    clear hEr hEl
    have O1 := (O.newRow ((Below.refl w.heap.size w).alloc (Nat.le_refl _) (.cells #[] 73)) (own_new (w := w.alloc (.cells #[] 73)) (g := w.heap.size) (base := w.heap.size) (e := 73) (size := 3) (n := 0) (cs := []) (Blk.new rfl rfl) (Nat.le_refl _) rfl (by unfold maxLen; omega)) (Nat.le_refl _)).perm List.perm_append_comm
    have B1 := ((Below.refl w.heap.size w).alloc (Nat.le_refl _) (.cells #[] 73)).mono O.base
    replace O1 : Own B (w.alloc (.cells #[] 73)) (RowP 73 3 (some ⟨w.heap.size, 0, none⟩) 0 0 [] :: (RefL r la lc ta tc S ++ l)) := O1
    clear O
    go_enter Try.func23, Try.ntmps23
    go_wp2_with fail
    refine HA.out.mono ?_
    clear HA
    rintro e w1 ⟨rfl, rfl⟩
    have c4 := (O1.blk 1 rfl).1.cellOf (i := 4) rfl
    have hRL := Rd.ofOwn (O1.row 2 rfl)
    have hlcap := hRL.hcap
    have hlmax := hRL.hmax
    have hown1 := O1.row 0 rfl
    have SRC1 := Src.ofRd (P := Try.prog) (hRL.pre3 k (by omega)) (by rw [ndC_take]; exact ndC_one _)
    rw [ndC_take] at SRC1
    have HX := Box.mk (show ((ndC S.q).drop ((k + 1) * 3)).take ((S.q.length - (k + 1)) * 3) = ndC (S.q.drop (k + 1)) from by
      rw [ndC_drop, ndC_take, List.take_of_length_le (by rw [List.length_drop]; omega)])
    go_wp2_with (first
      | ((with_reducible show wpList _ _ _ _ _ _); refine wpList_append_src (o := ⟨some 19, _, _, _, _, _⟩) rfl _ _ 50 50 rfl sl50 (.inl sl50.ht) rfl hown1 rfl SRC1 (by omega) (by unfold maxLen; omega) (Nat.zero_le _) ?_; intro a3 cap3 w3 hown3 hgr3 hla3; rw [Nat.zero_add, List.nil_append] at hown3; have O3 := (O1.grown 0 rfl hown3 hgr3 hla3).1; have B3 := B1.trans (O1.grown 0 rfl hown3 hgr3 hla3).2; have d4 := (O3.blk 1 rfl).1.cellOf (i := 4) rfl; obtain ⟨a4, ha4, hR4⟩ := (Rd.ofOwn (O3.row 2 rfl)).subAt3 (k + 1) (by omega); rw [HX.out] at hR4; have SRC2 := Src.ofRd (P := Try.prog) hR4 (ndC_one _))
      | ((with_reducible show wpList _ _ _ _ _ _); refine wpList_append_src (o := ⟨some 28, _, _, _, _, _⟩) rfl _ _ 50 50 rfl sl50 (.inl sl50.ht) rfl hown3 rfl SRC2 (by omega) (by unfold maxLen; omega) (Nat.zero_le _) ?_; intro a5 cap5 w5 hown5 hgr5 hla5; rw [← HEr.out] at hown5; have O5 := (O3.grown 0 rfl hown5 hgr5 hla5).1; have B5 := B3.trans (O3.grown 0 rfl hown5 hgr5 hla5).2; have e4 := (O5.blk 1 rfl).1.cellOf (i := 4) rfl; have f4 := (O5.blk 1 rfl).1.free 4))
    go_ret
    obtain ⟨O6, B6⟩ := O5.setCell 1 rfl 4 (.slice a5 (k + (S.q.length - (k + 1))) cap5)
    rw [HS.out]
    refine ⟨a5, cap5, ta, tc, rfl, ?_, B5.trans B6⟩
    unfold RefL refVals
    simp only []
    rw [← HEl.out]
    exact (O6.drop 2).perm (.swap _ _ _)
  · have hix : idx (S.q.map Nd.tx) tx = -1 := by unfold idx; rw [if_neg hm]
    have HS := Box.mk (place_none S tx hm)
    rw [decide_eq_false hm]
    rw [hix] at HA
    clear hix hm
    go_enter Try.func23, Try.ntmps23
    go_wp2_with fail
    refine HA.out.mono ?_
    clear HA
    rintro e w1 ⟨rfl, rfl⟩
    go_wp2_with fail
    go_ret
    rw [HS.out]
    exact RetRef2.same O rfl 0

set_option maxRecDepth 20000 in
set_option maxHeartbeats 2000000 in
theorem ref_waiting {B : Nat} {w : World} {l : List HP} {r : Nat} {la ta : Option Addr} {lc tc : Nat} {S : GS} (O : Own B w (RefL r la lc ta tc S ++ l)) (hok : S.OK) : Calls Try.prog 27 #[.pointer (some ⟨r, 0, none⟩)] w (RetI (S.q.map Nd.tx) w) := by
  have hst := hok.stamp
  have hq30 : S.q.length ≤ 1073741825 := by omega
  clear hst hok
  have hb := (O.blk 0 rfl).1
  have HB := Box.mk hb
  have HR := Box.mk (Rd.ofOwn (O.row 1 rfl))
  clear O hb
  go_enter Try.func27, Try.ntmps27
  go_wp2_with fail
  go_loopw [3, 4] (fun v i wr => ∃ (k : Nat) (a : Option Addr) (cap : Nat), k ≤ S.q.length ∧ i = .int .i64 k ∧ v = .slice a k cap ∧ wr.ownsRow w.heap.size 3 1 (.slice a k cap) k (intVals ((S.q.take k).map Nd.tx)) ∧ Below w.heap.size w wr)
    (fun _ i _ => S.q.length - (intOf i).toNat)
  case atStart => exact ⟨0, none, 0, Nat.zero_le _, rfl, rfl, World.ownsRow_nil _ _ _ _, Below.refl _ _⟩
  case round =>
    obtain ⟨k, a, cap, hk, rfl, rfl, hown, BW⟩ := hrel
    have hsz := BW.size
    have c4 := (HB.out.call0 BW).cellOf (i := 4) rfl
    by_cases hl : k < S.q.length
    · obtain ⟨g, off, rfl, h0, _, _⟩ := (HR.out.call0 BW).ndAt k hl
      have hT := Box.mk (show (S.q.take (k + 1)).map Nd.tx = (S.q.take k).map Nd.tx ++ [(S.q.getD k default).tx] from by
        rw [show S.q.getD k default = S.q[k] from by rw [List.getD_eq_getElem?_getD, List.getElem?_eq_getElem hl]; rfl, List.take_succ_eq_append_getElem hl, List.map_append]; rfl)
      generalize (S.q.getD k default) = nd at *
      go_wp2_with (at_builtin; refine wpList_append_src rfl _ _ 22 22 rfl sl22 (.inl sl22.ht) rfl (hown.alloc _) rfl (Src.oneNew _ _ _ rfl) (by omega) (by unfold maxLen; omega) (by simp; omega) ?_; intro a1 cap1 w1 hown1 hgr1 _; have B1 := below_grown (BW.alloc (by omega) _) hgr1 (hown.alloc _) (Nat.le_refl _) (by simp; omega))
      have hx1 : intVals ((S.q.take k).map Nd.tx) ++ [Value.int .i64 nd.tx] = intVals ((S.q.take (k + 1)).map Nd.tx) := by rw [hT.out]; simp only [intVals, List.map_append, List.map_cons, List.map_nil]
      rw [hx1] at hown1
      go_roundw
      case rel => exact ⟨k + 1, a1, cap1, by omega, by go_num, rfl, hown1, B1⟩
      case measure => simp [intOf]; omega
    · have hkl : k = S.q.length := by omega
      rw [List.take_of_length_le (by omega)] at hown
      have hln := Box.mk (show (S.q.map Nd.tx).length = k from by rw [List.length_map]; omega)
      generalize S.q.map Nd.tx = xs at *
      go_wp2_with fail
      go_ret
      exact ⟨a, cap, by rw [hln.out]; rfl, by rw [hln.out]; exact hown, BW⟩
end Go.Proofs.Ytkloafpoldmpkaa
