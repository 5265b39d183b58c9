/-
  The walk of the reference's decoder of lists of digests. No condition.
-/
import Derived.Test.YtppmlhjpdmndoaaWGetD
namespace Go.Proofs.Ytppmlhjpdmndoaa
open Go.RowKit

/-- A digest of which j bytes have been written. -/
def digPart (x : List UInt8) (j : Nat) : List Value := byteVals (x.take j) ++ List.replicate (16 - j) (.int .u8 0)

theorem digPart_at (x : List UInt8) (j : Nat) (hx : 16 ≤ x.length) (hj : j < 16) : (digPart x j).toArray[j]? = some (.int .u8 0) := by
  have hl : (byteVals (x.take j)).length = j := by rw [byteVals_length, List.length_take]; omega
  unfold digPart
  rw [List.getElem?_toArray, List.getElem?_append_right (by omega), hl, Nat.sub_self, List.getElem?_replicate, if_pos (by omega)]

theorem digPart_set (x : List UInt8) (j : Nat) (hj : j < x.length) (hj16 : j < 16) : (digPart x j).set j (.int .u8 ((x[j]).toNat : Int)) = digPart x (j + 1) := by
  have hl : (byteVals (x.take j)).length = j := by rw [byteVals_length, List.length_take]; omega
  unfold digPart
  rw [List.set_append_right _ _ (by omega), hl, Nat.sub_self, List.take_succ_eq_append_getElem hj, byteVals_append]
  obtain ⟨r, hr⟩ : ∃ r, 16 - j = r + 1 := ⟨15 - j, by omega⟩
  rw [hr, show 16 - (j + 1) = r from by omega, List.replicate_succ]
  simp [byteVals]

set_option maxRecDepth 20000 in
set_option maxHeartbeats 2000000 in
theorem refGetDigests_any (l : List UInt8) (a : Option Addr) (n cap : Nat) (w : World) (hrd : Rd w a n cap 1 (byteVals l)) (hn : n ≤ 1099511627776) :
    Calls Try.prog 35 #[.slice a n cap] w (RetL 57 16 (getL getD16 16 l).1.length (digVals (getL getD16 16 l).1) (getL getD16 16 l).2.1 (getL getD16 16 l).2.2 w) := by
  have hmax := hrd.lenMax
  have hcap := hrd.hcap
  have Hn := Lib.hid hrd.blenB
  have hk := getLen_ok (l := l) (least := 16) (by omega)
  have Hg := Lib.hid (getL_eq getD16 16 l)
  have hu := getI_used l
  obtain ⟨x, u, e, hx⟩ : ∃ x u e, getLen l 16 = (x, u, e) := ⟨_, _, _, rfl⟩
  rw [hx] at hk Hg
  rw [← Hn.out] at hk hu
  simp only at hk Hg
  have Hx := Lib.hid hx; clear hx
  have Hk := Lib.hid hk; clear hk
  by_cases he : e = 0
  · subst he
    obtain ⟨q1, _, q2, q3⟩ := Hk.out rfl
    rw [← q1] at q2 q3 hu
    clear q1 Hk
    have Hr := Lib.hid (Hg.out.trans (if_neg (by simp))); clear Hg
    obtain ⟨m, rfl⟩ := Int.eq_ofNat_of_zero_le q2
    simp only [Int.toNat_natCast] at Hr
    simp only at q3
    have hsum : u + m * 16 ≤ n := by omega
    clear q2 q3 hu
    go_enter Try.func35, Try.ntmps35
    go_wp2_with (go_at_call 44; refine (refLength_n (by omega) (by omega) Hx.out hrd).mono ?_; rintro e w1 ⟨rfl, rfl⟩)
    go_loopw [6, 8, 9] (fun p v i wr => ∃ (k at_ : Nat) (acc : List (List UInt8)) (a : Option Addr) (cap : Nat), k ≤ m ∧ at_ + (m - k) * 16 ≤ n ∧ i = .int .i64 k ∧ p = .int .i64 at_ ∧ v = .slice a acc.length cap ∧ acc.length ≤ k ∧ wr.ownsRow w.heap.size 57 16 (.slice a acc.length cap) acc.length (digVals acc) ∧ Below w.heap.size w wr ∧ Hid (getL getD16 16 l = getEls getD16 l (m - k) at_ acc))
      (fun _ _ i _ => m - (intOf i).toNat)
    case atStart => exact ⟨0, u, [], none, 0, Nat.zero_le _, by omega, rfl, rfl, rfl, Nat.le_refl _, World.ownsRow_nil _ _ _ _, Below.refl _ _, Hr.out⟩
    case round =>
      obtain ⟨k, at_, acc, a1, cap1, hkm, hat, rfl, rfl, rfl, hacc, hown, hbel, HE⟩ := hrel
      have hsz := hbel.size
      by_cases hlt : k < m
      · have HE2 := Lib.hid (HE.out.trans ((congrArg (fun t => getEls getD16 l t at_ acc) (show m - k = (m - (k + 1)) + 1 from by omega)).trans (getEls_good (getD16_eq _))))
        have hxl : Hid (((l.drop at_).take 16).length = 16) := by show _ = _; have := Hn.out; rw [List.length_take, List.length_drop]; omega
        have hat2 : at_ + 16 ≤ n := by omega
        have hat3 : at_ + 16 + (m - (k + 1)) * 16 ≤ n := by omega
        obtain ⟨b, off, rfl, _⟩ := hrd.at 0 (by omega)
        have hxb : Hid (∀ j (hj : j < ((l.drop at_).take 16).length), w.cell? ⟨b, off + (at_ + j), none⟩ = some (.int .u8 ((((l.drop at_).take 16)[j]).toNat : Int))) := fun j hj => by
          have hj2 : at_ + j < l.length := by have := Hn.out; have := hxl.out; omega
          obtain ⟨b', off', he, hc⟩ := (Hn.out ▸ hrd).byteAt (at_ + j) hj2
          simp only [Option.some.injEq, Addr.mk.injEq, and_true] at he
          obtain ⟨rfl, rfl⟩ := he
          rw [hc]; simp
        generalize (l.drop at_).take 16 = x at *
        have hx2 : Hid ((byteVals x).length = 16) := by show _ = _; rw [byteVals_length, hxl.out]
        obtain ⟨wo, rfl⟩ : ∃ wo : World, wo = wr := ⟨_, rfl⟩
        go_wp2_with fail
        go_loopw [11] (fun i wi => ∃ j : Nat, j ≤ 16 ∧ i = .int .i64 j ∧ wi = wo.alloc (.cells (digPart x j).toArray 57))
          (fun i _ => 16 - (intOf i).toNat)
        case atStart => exact ⟨0, by omega, rfl, by simp [digPart, List.replicate, byteVals]⟩
        case round =>
          obtain ⟨j, hj, rfl, rfl⟩ := hrel
          by_cases hj16 : j < 16
          · have hjl : j < x.length := by have := hxl.out; omega
            have hcl : (wo.alloc (.cells (digPart x j).toArray 57)).cell? ⟨b, off + (at_ + j), none⟩ = some (.int .u8 ((x[j]).toNat : Int)) :=
              ((hbel.alloc hsz _).cell (cell_block_lt (hxb.out j hjl))).trans (hxb.out j hjl)
            have hcj : (wo.alloc (.cells (digPart x j).toArray 57)).cell? ⟨wo.heap.size, j, none⟩ = some (.int .u8 0) := by
              rw [cell_of_row _ wo.heap.size j (digPart x j).toArray 57 (0, 0) (heap_alloc_new wo _)]
              exact digPart_at x j (by have := hxl.out; omega) hj16
            have hfz : (wo.alloc (.cells (digPart x j).toArray 57)).frozen? ⟨wo.heap.size, j, none⟩ = false := frozen_of_row _ wo.heap.size j (digPart x j).toArray 57 (heap_alloc_new wo _)
            have hset := Lib.hid (digPart_set x j hjl hj16)
            generalize (x[j]).toNat = c at *
            go_wp2_with fail
            go_roundw
            case rel => exact ⟨j + 1, by omega, by go_num, by rw [hset.out]⟩
            case measure => simp [intOf]; omega
          · have hj16' : j = 16 := by omega
            subst hj16'
            have hp : digPart x 16 = byteVals x := by unfold digPart; rw [List.take_of_length_le (by have := hxl.out; omega)]; simp
            rw [hp]
            clear hp
            go_wp2_with (first
              | ((with_reducible show wpList _ _ _ _ _ _); refine wpList_load_agg (o := ⟨some 39, _, _, _, _, _⟩) rfl 57 _ rfl agg57 rfl hx2.out (block_cells (heap_alloc_new _ _) 0 _ (fun j hj => by simp)) ?_)
              | ((with_reducible show wpList _ _ _ _ _ _); refine wpList_lit_one (o := ⟨some 40, _, _, _, _, _⟩) rfl 24 _ rfl sl24 rfl hx2.out (by omega) (by omega) ?_)
              | (at_builtin; refine wpList_append_src rfl _ _ 24 24 rfl sl24 (.inl sl24.ht) rfl ((hown.alloc _).alloc _) rfl (Src.oneAgg _ _ _ _ hx2.out (byteVals_one _)) (by omega) (by unfold maxLen; omega) (by simp; omega) ?_; intro a3 cap3 w3 hown3 hgr3 _))
            have hb3 := below_grown ((hbel.alloc hsz _).alloc (by simp; omega) _) hgr3 ((hown.alloc _).alloc _) (Nat.le_refl _) (by simp; omega)
            go_roundw
            case rel => exact ⟨k + 1, at_ + 16, acc ++ [x], a3, cap3, by omega, by omega, by go_num, by go_num, by rw [List.length_append]; rfl, by rw [List.length_append]; simp; omega, by rw [List.length_append, digVals_snoc]; exact hown3, hb3, HE2⟩
            case measure => simp [intOf]; omega
      · have hkm2 : k = m := by omega
        have HE2 := Lib.hid (HE.out.trans (by rw [hkm2, Nat.sub_self, getEls]))
        clear hkm2
        go_wp2_with fail
        go_ret3
        rw [HE2.out]
        exact ⟨a1, cap1, rfl, hown, hbel⟩
  · have Hr := Lib.hid (Hg.out.trans (if_pos (by simpa using he))); clear Hg
    have heb : ((e : Int) == 0) = false := by simp; omega
    have heb2 : ((e : Int) != 0) = true := by simp; omega
    clear he
    go_enter Try.func35, Try.ntmps35
    go_wp2_with (go_at_call 44; refine (refLength_n (by omega) (by omega) Hx.out hrd).mono ?_; rintro e w1 ⟨rfl, rfl⟩)
    go_ret3
    rw [Hr.out]
    exact ⟨none, 0, rfl, World.ownsRow_nil _ _ _ _, Below.refl _ _⟩

set_option maxHeartbeats 400000 in
theorem getDigests_any (l : List UInt8) (a : Option Addr) (n cap : Nat) (w : World) (hrd : Rd w a n cap 1 (byteVals l)) (hn : n ≤ 1099511627776) :
    Calls Try.prog 34 #[.slice a n cap] w (RetL 57 16 (getL getD16 16 l).1.length (digVals (getL getD16 16 l).1) (getL getD16 16 l).2.1 (getL getD16 16 l).2.2 w) := by
  go_enter Try.func34, Try.ntmps34
  go_wp2_with (go_at_call 46; refine (getListDig_any l a n cap _ hrd hn).mono ?_; rintro e w1 ⟨a2, cap2, rfl, hown2, hb2⟩)
  go_ret3
  exact ⟨a2, cap2, rfl, hown2, hb2⟩
end Go.Proofs.Ytppmlhjpdmndoaa
