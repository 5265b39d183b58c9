/-
  The walk of the reference's Input; two inputs that are the same have the same tag and parts. No condition.
-/
import Derived.Test.YtcngnpkpaliflaaDoorCom
namespace Go.Proofs.YtcngnpkpaliflaaDoor
open Go.RowKit

/-- The encodings of numbers are prefix free. -/
theorem encN_prefix : ∀ (z y : Nat) (r s : List UInt8), encN z ++ r = encN y ++ s → z = y ∧ r = s := by
  intro z
  induction z using Nat.strongRecOn with
  | ind z ih =>
    intro y r s h
    by_cases hz : z < 128
    · by_cases hy : y < 128
      · rw [encN_small hz, encN_small hy] at h
        simp only [List.singleton_append, List.cons.injEq] at h
        have := congrArg UInt8.toNat h.1
        simp at this
        exact ⟨by omega, h.2⟩
      · rw [encN_small hz, encN_big hy] at h
        simp only [List.cons_append, List.nil_append, List.cons.injEq] at h
        have := congrArg UInt8.toNat h.1
        simp at this
        omega
    · by_cases hy : y < 128
      · rw [encN_big hz, encN_small hy] at h
        simp only [List.cons_append, List.nil_append, List.cons.injEq] at h
        have := congrArg UInt8.toNat h.1
        simp at this
        omega
      · rw [encN_big hz, encN_big hy] at h
        simp only [List.cons_append, List.cons.injEq] at h
        have h1 := congrArg UInt8.toNat h.1
        simp at h1
        obtain ⟨h2, h3⟩ := ih (z / 128) (by omega) (y / 128) r s h.2
        exact ⟨by omega, h3⟩
theorem encB_prefix (x y r s : List UInt8) (h : encB x ++ r = encB y ++ s) : x = y ∧ r = s := by
  unfold encB enc at h
  rw [List.append_assoc, List.append_assoc] at h
  obtain ⟨h1, h2⟩ := encN_prefix _ _ _ _ h
  have hl : x.length = y.length := by unfold zig at h1; split at h1 <;> split at h1 <;> omega
  exact List.append_inj h2 hl
theorem encB_ne (x : List UInt8) : encB x ≠ [] := by
  intro h
  have h1 : (encB x).length = 0 := by rw [h]; rfl
  unfold encB enc at h1
  rw [List.length_append] at h1
  by_cases hz : zig (x.length : Int) < 128
  · rw [encN_small hz] at h1; simp at h1
  · rw [encN_big hz] at h1; simp at h1
theorem parts_inj : ∀ (l m : List (List UInt8)), (l.map encB).flatten = (m.map encB).flatten → l = m
  | [], [], _ => rfl
  | [], y :: m, h => by
    rw [List.map_cons, List.flatten_cons] at h
    exact absurd (List.append_eq_nil_iff.1 h.symm).1 (encB_ne y)
  | x :: l, [], h => by
    rw [List.map_cons, List.flatten_cons] at h
    exact absurd (List.append_eq_nil_iff.1 h).1 (encB_ne x)
  | x :: l, y :: m, h => by
    rw [List.map_cons, List.map_cons, List.flatten_cons, List.flatten_cons] at h
    obtain ⟨h1, h2⟩ := encB_prefix _ _ _ _ h
    rw [h1, parts_inj l m h2]
theorem input_inj {s t : Int} (hs0 : 0 ≤ s) (hs : s < 256) (ht0 : 0 ≤ t) (ht : t < 256) (l m : List (List UInt8)) (h : inputOf s l = inputOf t m) : s = t ∧ l = m := by
  unfold inputOf at h
  simp only [List.cons.injEq] at h
  have h1 := congrArg UInt8.toNat h.1
  simp at h1
  exact ⟨by omega, parts_inj l m h.2⟩

set_option maxRecDepth 20000 in
set_option maxHeartbeats 1000000 in
theorem refInput_any (tag : Int) (l : List (List UInt8)) (a : Option Addr) (n cap : Nat) (w : World) (hrd : Rd w a n cap 1 (bstrVals l)) (hs : (l.map encB).flatten.length ≤ 1000000000) :
    Calls Tryd.prog 36 #[.int .i64 tag, .slice a n cap] w (RetB (inputOf tag l) w) := by
  have hbyte : IntKind.u8.wrap tag = ((UInt8.ofNat (tag % 256).toNat).toNat : Int) := by rw [u8wrap]; simp; omega
  have HI := Box.mk (show inputOf tag l = [UInt8.ofNat (tag % 256).toNat] ++ (l.map encB).flatten from rfl)
  generalize UInt8.ofNat (tag % 256).toNat = c at *
  have hmax := hrd.lenMax
  have HL := Box.mk (show l.length = n from by have h := hrd.hlen; rw [bstrVals_length] at h; omega)
  have hpre : ∀ i, ((l.take i).map encB).flatten.length ≤ 1000000000 := fun i => by
    refine Nat.le_trans ?_ hs
    conv => rhs; rw [← List.take_append_drop i l, List.map_append, List.flatten_append, List.length_append]
    exact Nat.le_add_right _ _
  have HP := Lib.hid hpre; clear hpre
  have R0 := Box.mk hrd; clear hrd
  have hown0 := own_new (w := w.alloc (.cells (byteVals [c]).toArray 5)) (g := w.heap.size) (base := w.heap.size) (e := 5) (size := 1) (n := 1) (cs := byteVals [c]) (Blk.new rfl rfl) (Nat.le_refl _) rfl (by unfold maxLen; omega)
  have B0 := (Below.refl w.heap.size w).alloc (Nat.le_refl _) (.cells (byteVals [c]).toArray 5)
  go_enter Tryd.func36, Tryd.ntmps36
  go_wp2_with fail
  go_loopw [5, 6] (fun v i wr => ∃ (k m : Nat) (av : Option Addr) (cv : Nat), k ≤ n ∧ Box (m = 1 + ((l.take k).map encB).flatten.length) ∧ i = .int .i64 k ∧ v = .slice av m cv ∧ wr.ownsRow w.heap.size 5 1 (.slice av m cv) m (byteVals ([c] ++ ((l.take k).map encB).flatten)) ∧ Below w.heap.size w wr)
    (fun _ i _ => n - (intOf i).toNat)
  case atStart => exact ⟨0, 1, some ⟨w.heap.size, 0, none⟩, 1, Nat.zero_le _, ⟨rfl⟩, rfl, rfl, hown0, B0⟩
  case round =>
    clear hown0 B0
    obtain ⟨k, m, av, cv, hk, Hm, rfl, rfl, hown, B⟩ := hrel
    have hm1 : m ≤ 1000000001 := by rw [Hm.out]; have := HP.out k; omega
    have hsz := B.size
    by_cases hlt : k < n
    · obtain ⟨g, off, rfl, hc⟩ := (R0.out.below B (Nat.le_refl _)).strAt k (by rw [HL.out]; exact hlt)
      have hT := Box.mk (show ((l.take (k + 1)).map encB).flatten = ((l.take k).map encB).flatten ++ encB (l[k]'(by rw [HL.out]; exact hlt)) from by rw [List.take_succ_eq_append_getElem (by rw [HL.out]; exact hlt), List.map_append, List.flatten_append]; simp)
      have hle := HP.out (k + 1)
      rw [hT.out, List.length_append] at hle
      generalize (l[k]'(by rw [HL.out]; exact hlt)) = x at *
      have hxl : x.length ≤ (encB x).length := by unfold encB; rw [List.length_append]; omega
      have HXL := Box.mk hxl
      have hel : (encB x).length ≤ 1000000000 := by omega
      have hx9 : x.length ≤ 1099511627776 := by omega
      clear hle hxl
      go_wp2_with fail
      refine (wRefBytes_any ⟨x.toArray⟩ wr (by rw [str_size]; exact hx9)).mono ?_
      intro e w2 hret
      rw [str_to] at hret
      obtain ⟨a2, c2, rfl, own2, hb2⟩ := hret
      have hsz2 := hb2.size
      obtain ⟨L, hL⟩ : ∃ L, (encB x).length = L := ⟨_, rfl⟩
      rw [hL] at own2 hel ⊢
      have HLe := Box.mk hL; clear hL
      have ownA := own_below hown hb2 (Nat.le_refl _)
      have B2 := B.call0 (Nat.le_refl _) hb2
      go_wp2_with ((with_reducible show wpList _ _ _ _ _ _); refine wpList_append_src (o := ⟨some 22, _, _, _, _, _⟩) rfl (.tmp 16) (.tmp 21) 22 22 rfl sl22 (.inl sl22.ht) rfl ownA rfl (Src.ofRd (Rd.ofOwn own2) (byteVals_one _)) (by omega) (by unfold maxLen; omega) B2.size ?_; intro a3 c3 w3 own3 hgr3 _)
      have B3 := below_grown B2 hgr3 ownA (Nat.le_refl _) B2.size
      rw [← byteVals_append] at own3
      go_roundw
      case rel => exact ⟨k + 1, m + L, a3, c3, by omega, ⟨by rw [hT.out, List.length_append, HLe.out, Hm.out]; omega⟩, by go_num, rfl, by rw [hT.out, ← List.append_assoc]; exact own3, B3⟩
      case measure => simp [intOf]; omega
    · have hkn : k = n := by omega
      subst hkn
      have hA := Box.mk (show [c] ++ ((l.take k).map encB).flatten = inputOf tag l from by rw [HI.out, List.take_of_length_le (by rw [HL.out]; exact Nat.le_refl _)])
      rw [hA.out] at hown
      have hml : m = (inputOf tag l).length := by rw [Hm.out, ← hA.out, List.length_append]; rfl
      have HML := Box.mk hml; clear hml
      go_wp2_with fail
      go_ret
      exact retB_mk (l := inputOf tag l) rfl hown B (Nat.le_refl _) HML.out rfl rfl
end Go.Proofs.YtcngnpkpaliflaaDoor
