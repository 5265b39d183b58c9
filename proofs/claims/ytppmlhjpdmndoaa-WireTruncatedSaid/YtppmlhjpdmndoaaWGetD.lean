/-
  The walks of the decoders of lists of digests, program and reference. No condition.
-/
import Derived.Test.YtppmlhjpdmndoaaWGet
import Derived.Test.YtppmlhjpdmndoaaWDig
import Derived.Test.YtppmlhjpdmndoaaMemD
namespace Go.Proofs.Ytppmlhjpdmndoaa
open Go.RowKit

theorem sl24 : SlT Try.prog 24 57 (.agg (Array.replicate 16 (.int .u8 0))) 16 16 := ⟨by kernel_rfl, by kernel_rfl, rfl⟩

set_option maxRecDepth 20000 in
set_option maxHeartbeats 1000000 in
theorem getDigest_any (l : List UInt8) (a : Option Addr) (n cap : Nat) (w : World) (hrd : Rd w a n cap 1 (byteVals l)) (hn : 16 ≤ n) :
    Calls Try.prog 47 #[.slice a n cap] w fun en w' => en = .returned (.tuple #[.agg (byteVals (l.take 16)).toArray, .int .i64 16, .int .i64 0]) ∧ Below w.heap.size w w' := by
  have Hn := Lib.hid hrd.blenB
  have hcap := hrd.hcap
  have hmax := hrd.hmax
  unfold maxLen at hmax
  obtain ⟨b, off, rfl, _⟩ := hrd.at 0 (by omega)
  have hl16 : Hid ((byteVals (l.take 16)).length = 16) := by show _ = _; rw [byteVals_length, List.length_take]; have := Hn.out; omega
  have hc : Hid (∀ j u, (byteVals (l.take 16))[j]? = some u → w.cell? ((⟨b, off, none⟩ : Addr).add j) = some u) := fun j u hu => by
    refine hrd.hcell _ rfl j u ?_
    unfold byteVals at *
    rw [List.map_take, List.getElem?_take] at hu
    split at hu
    · exact hu
    · cases hu
  go_enter Try.func47, Try.ntmps47
  have harr := run_arrayAt (P := Try.prog) (arr := 57) (n := 16) (e := 5) (by kernel_rfl) (some ⟨b, off, none⟩) 16 cap (Nat.le_refl _)
  have hbe : Below w.heap.size w (w.alloc (.cells (byteVals (l.take 16)).toArray 57)) := (Below.refl _ _).alloc (Nat.le_refl _) _
  go_wp2_with (first
    | ((with_reducible show wpList _ _ _ _ _ _); refine wpList_load_agg (o := ⟨some 8, _, _, _, _, _⟩) rfl 57 _ rfl agg57 rfl hl16.out (fun j u hu => (((Below.refl w.heap.size w).alloc (Nat.le_refl _) _).cell (cell_block_lt (hc.out j u hu))).trans (hc.out j u hu)) ?_)
    | ((with_reducible show wpList _ _ _ _ _ _); refine wpList_store_fresh (o := ⟨none, .store 57 (.tmp 2) (.tmp 8), _, _, _, _⟩) rfl 57 _ _ rfl rfl agg57.info rfl rfl rfl hl16.out (byteVals_one _) ?_))
  exact bodyPost_ret (results_cell3 rfl _ rfl (heap_alloc_new w _) (by rw [hl16.out]; exact agg57)) rfl ⟨rfl, hbe⟩

/-- A decoder of digests, as the list decoder has it. -/
theorem getD16_eq (l : List UInt8) : getD16 l = (l.take 16, 16, 0) := rfl

theorem digVals_snoc (acc : List (List UInt8)) (d : List UInt8) : digVals (acc ++ [d]) = digVals acc ++ byteVals d := by
  unfold digVals; rw [List.flatten_append, byteVals_append]; simp

/-- Block cells of one digest, as a source. -/
theorem Src.oneAgg {P : Program} (w : World) (cs : List Value) (e : TypeId) (size : Nat) (hl : cs.length = size) (h1 : ∀ u ∈ cs, u.oneCell' = true) : Src P (w.alloc (.cells cs.toArray e)) (.slice (some ⟨w.heap.size, 0, none⟩) 1 1) 1 size cs :=
  Src.ofRd (cap := 1) ⟨by rw [hl, Nat.one_mul], Nat.le_refl _, by unfold maxLen; omega, fun h => (by cases h), fun ad ha j u hu => by
    simp only [Option.some.injEq] at ha; subst ha
    exact block_cells (heap_alloc_new w _) 0 cs (fun j hj => by simp) j u hu⟩ h1

set_option maxRecDepth 20000 in
set_option maxHeartbeats 2000000 in
theorem getListDig_any (l : List UInt8) (a : Option Addr) (n cap : Nat) (w : World) (hrd : Rd w a n cap 1 (byteVals l)) (hn : n ≤ 1099511627776) :
    Calls Try.prog 46 #[.slice a n cap, .int .i64 16, .func (.func 47) #[] #[]] w (RetL 57 16 (getL getD16 16 l).1.length (digVals (getL getD16 16 l).1) (getL getD16 16 l).2.1 (getL getD16 16 l).2.2 w) := by
  have hmax := hrd.lenMax
  have hcap := hrd.hcap
  have Hn := Lib.hid hrd.blenB
  have hk := getLen_ok (l := l) (least := 16) (by omega)
  have Hg := Lib.hid (getL_eq getD16 16 l)
  have hu := getI_used l
  obtain ⟨x, u, e, hx⟩ : ∃ x u e, getLen l 16 = (x, u, e) := ⟨_, _, _, rfl⟩
  rw [hx] at hk Hg
  rw [← Hn.out] at hk hu
  simp only at hk Hg
  have Hx := Lib.hid hx; clear hx
  have Hk := Lib.hid hk; clear hk
  by_cases he : e = 0
  · subst he
    obtain ⟨q1, _, q2, q3⟩ := Hk.out rfl
    rw [← q1] at q2 q3 hu
    clear q1 Hk
    have Hr := Lib.hid (Hg.out.trans (if_neg (by simp))); clear Hg
    obtain ⟨m, rfl⟩ := Int.eq_ofNat_of_zero_le q2
    simp only [Int.toNat_natCast] at Hr
    simp only at q3
    have hsum : u + m * 16 ≤ n := by omega
    clear q2 q3 hu
    go_enter Try.func46, Try.ntmps46
    go_wp2_with (go_at_call 42; refine (length_n (by omega) (by omega) Hx.out hrd).mono ?_; rintro e w1 ⟨rfl, rfl⟩)
    go_loopw [10, 12, 27] (fun p v i wr => ∃ (k at_ : Nat) (acc : List (List UInt8)) (a : Option Addr) (cap : Nat), k ≤ m ∧ at_ + (m - k) * 16 ≤ n ∧ i = .int .i64 k ∧ p = .int .i64 at_ ∧ v = .slice a acc.length cap ∧ acc.length ≤ k ∧ wr.ownsRow w.heap.size 57 16 (.slice a acc.length cap) acc.length (digVals acc) ∧ Below w.heap.size w wr ∧ Hid (getL getD16 16 l = getEls getD16 l (m - k) at_ acc))
      (fun _ _ i _ => m - (intOf i).toNat)
    case atStart => exact ⟨0, u, [], none, 0, Nat.zero_le _, by omega, rfl, rfl, rfl, Nat.le_refl _, World.ownsRow_nil _ _ _ _, Below.refl _ _, Hr.out⟩
    case round =>
      obtain ⟨k, at_, acc, a1, cap1, hkm, hat, rfl, rfl, rfl, hacc, hown, hbel, HE⟩ := hrel
      have hsz := hbel.size
      by_cases hlt : k < m
      · obtain ⟨a', ha', hrd'⟩ := hrd.subAt at_ n (by omega) (Nat.le_refl _)
        rw [drop_bytes Hn.out] at hrd'
        have hrd2 := hrd'.below hbel (Nat.le_refl _)
        clear hrd'
        have hcall := getDigest_any (l.drop at_) _ _ _ _ hrd2 (by omega)
        have HE2 := Lib.hid (HE.out.trans ((congrArg (fun t => getEls getD16 l t at_ acc) (show m - k = (m - (k + 1)) + 1 from by omega)).trans (getEls_good (getD16_eq _))))
        have hxl : Hid (((l.drop at_).take 16).length = 16) := by show _ = _; have := hrd2.blenB; rw [List.length_take]; omega
        generalize (l.drop at_).take 16 = x at *
        have hx2 : Hid ((byteVals x).length = 16) := by show _ = _; rw [byteVals_length, hxl.out]
        have hat2 : at_ + 16 ≤ n := by omega
        have hat3 : at_ + 16 + (m - (k + 1)) * 16 ≤ n := by omega
        go_wp2_with (first
          | (go_at_call 47; refine hcall.mono ?_; rintro e w1 ⟨rfl, hb1⟩)
          | ((with_reducible show wpList _ _ _ _ _ _); refine wpList_store_fresh (o := ⟨none, .store 57 (.tmp 13) (.tmp 35), _, _, _, _⟩) rfl 57 _ _ rfl rfl agg57.info rfl rfl rfl hx2.out (byteVals_one _) ?_)
          | ((with_reducible show wpList _ _ _ _ _ _); refine wpList_load_agg (o := ⟨some 42, _, _, _, _, _⟩) rfl 57 _ rfl agg57 rfl hx2.out (block_cells (heap_alloc_new _ _) 0 _ (fun j hj => by simp)) ?_)
          | ((with_reducible show wpList _ _ _ _ _ _); refine wpList_lit_one (o := ⟨some 43, _, _, _, _, _⟩) rfl 24 _ rfl sl24 rfl hx2.out (by omega) (by omega) ?_)
          | (at_builtin; refine wpList_append_src rfl _ _ 24 24 rfl sl24 (.inl sl24.ht) rfl (((own_below hown hb1 (Nat.le_refl _)).alloc _).alloc _) rfl (Src.oneAgg _ _ _ _ hx2.out (byteVals_one _)) (by omega) (by unfold maxLen; omega) (by have := hb1.size; simp; omega) ?_; intro a3 cap3 w3 hown3 hgr3 _))
        have hs1 := hb1.size
        have hb3 := below_grown (((hbel.trans (hb1.mono hsz)).alloc (by omega) _).alloc (by simp; omega) _) hgr3 (((own_below hown hb1 (Nat.le_refl _)).alloc _).alloc _) (Nat.le_refl _) (by simp; omega)
        go_roundw
        case rel => exact ⟨k + 1, at_ + 16, acc ++ [x], a3, cap3, by omega, by omega, by go_num, by go_num, by rw [List.length_append]; rfl, by rw [List.length_append]; simp; omega, by rw [List.length_append, digVals_snoc]; exact hown3, hb3, HE2⟩
        case measure => simp [intOf]; omega
      · have hkm2 : k = m := by omega
        have HE2 := Lib.hid (HE.out.trans (by rw [hkm2, Nat.sub_self, getEls]))
        clear hkm2
        go_wp2_with fail
        go_ret3
        rw [HE2.out]
        exact ⟨a1, cap1, rfl, hown, hbel⟩
  · have Hr := Lib.hid (Hg.out.trans (if_pos (by simpa using he))); clear Hg
    have heb : ((e : Int) == 0) = false := by simp; omega
    have heb2 : ((e : Int) != 0) = true := by simp; omega
    clear he
    go_enter Try.func46, Try.ntmps46
    go_wp2_with (go_at_call 42; refine (length_n (by omega) (by omega) Hx.out hrd).mono ?_; rintro e w1 ⟨rfl, rfl⟩)
    go_ret3
    rw [Hr.out]
    exact ⟨none, 0, rfl, World.ownsRow_nil _ _ _ _, Below.refl _ _⟩
end Go.Proofs.Ytppmlhjpdmndoaa
