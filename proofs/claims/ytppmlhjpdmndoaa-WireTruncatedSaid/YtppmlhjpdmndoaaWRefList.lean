/-
  The walks of the reference's encodings of lists of integers and strings. No condition.
-/
import Derived.Test.YtppmlhjpdmndoaaWList
namespace Go.Proofs.Ytppmlhjpdmndoaa
open Go.RowKit

set_option maxRecDepth 20000 in
set_option maxHeartbeats 400000 in
theorem refInts_any (xs : List Int) (a : Option Addr) (cap : Nat) (w : World) (hrd : Rd w a xs.length cap 1 (intVals xs)) (hx : Hid (∀ x ∈ xs, -9223372036854775808 ≤ x ∧ x ≤ 9223372036854775807)) (hn : xs.length ≤ 1099511627776) :
    Calls Try.prog 19 #[.slice a xs.length cap] w (RetB (encL enc xs) w) := by
  go_enter Try.func19, Try.ntmps19
  go_wp2_with (go_at_call 15; refine (refInt_any _ _ (by omega) (by omega)).mono ?_; rintro e w1 ⟨a2, cap2, rfl, hown2, hb2⟩)
  go_loopw [3, 4] (fun v i wr => ∃ (k : Nat) (l : List UInt8) (a : Option Addr) (cap : Nat), k ≤ xs.length ∧ i = .int .i64 k ∧ v = .slice a l.length cap ∧ wr.ownsRow w.heap.size 5 1 (.slice a l.length cap) l.length (byteVals l) ∧ Below w.heap.size w wr ∧ Hid (l = encTo enc xs k))
    (fun _ i _ => xs.length - (intOf i).toNat)
  case atStart => exact ⟨0, _, a2, cap2, Nat.zero_le _, rfl, rfl, hown2, hb2, (encTo_zero enc xs).symm⟩
  case round =>
    obtain ⟨k, l, a1, cap1, hk, rfl, rfl, hown, hbel, HE⟩ := hrel
    have hsz := hbel.size
    have hll : l.length ≤ 10 + 10 * k := by rw [HE.out]; exact encTo_int_len xs hx.out hn k hk
    by_cases hlt : k < xs.length
    · obtain ⟨b, off, rfl, hc0⟩ := hrd.intAt k hlt
      have hcell := (hbel.cell (p := ⟨b, off + k, none⟩) (cell_block_lt hc0)).trans hc0
      clear hc0
      have hxk := hx.out xs[k] (List.getElem_mem _)
      have hS := Lib.hid (encTo_succ enc xs k hlt)
      have hel := enc_len xs[k] hxk.1 hxk.2
      obtain ⟨hx1, hx2⟩ := hxk
      clear hown2 hb2
      generalize xs[k] = x at *
      go_wp2_with (first
        | (go_at_call 15; refine (refInt_any _ _ (by omega) (by omega)).mono ?_; rintro e w1 ⟨a2, cap2, rfl, hown2, hb2⟩)
        | (at_builtin; refine wpList_append_src rfl _ _ 28 28 rfl sl28 (.inl sl28.ht) rfl (own_below hown hb2 (Nat.le_refl _)) rfl (Src.ofRd (Rd.ofOwn hown2) (byteVals_one _)) (by omega) (by unfold maxLen; omega) (by have := hb2.size; omega) ?_; intro a3 cap3 w3 hown3 hgr3 _))
      have hb3 := below_grown (hbel.trans (hb2.mono hsz)) hgr3 (own_below hown hb2 (Nat.le_refl _)) (Nat.le_refl _) (by have := hb2.size; omega)
      go_roundw
      case rel => exact ⟨k + 1, l ++ enc x, a3, cap3, by omega, by go_num, by rw [List.length_append], by rw [List.length_append, byteVals_append]; exact hown3, hb3, by show _ = _; rw [← hS.out, HE.out]⟩
      case measure => simp [intOf]; omega
    · have hkl : k = xs.length := by omega
      subst hkl
      go_wp2_with fail
      go_ret
      exact retB_mk (l := l) rfl hown hbel (Nat.le_refl _) rfl rfl (by rw [HE.out, encTo_all])

set_option maxRecDepth 20000 in
set_option maxHeartbeats 400000 in
theorem refStrings_any (xs : List ByteArray) (a : Option Addr) (cap : Nat) (w : World) (hrd : Rd w a xs.length cap 1 (strVals xs)) (hs : sumLen xs ≤ 1099511627776) (hn : xs.length ≤ 1099511627776) :
    Calls Try.prog 21 #[.slice a xs.length cap] w (RetB (encL (fun s : ByteArray => encB s.data.toList) xs) w) := by
  go_enter Try.func21, Try.ntmps21
  go_wp2_with (go_at_call 15; refine (refInt_any _ _ (by omega) (by omega)).mono ?_; rintro e w1 ⟨a2, cap2, rfl, hown2, hb2⟩)
  go_loopw [3, 4] (fun v i wr => ∃ (k : Nat) (l : List UInt8) (a : Option Addr) (cap : Nat), k ≤ xs.length ∧ i = .int .i64 k ∧ v = .slice a l.length cap ∧ wr.ownsRow w.heap.size 5 1 (.slice a l.length cap) l.length (byteVals l) ∧ Below w.heap.size w wr ∧ Hid (l = encTo (fun s : ByteArray => encB s.data.toList) xs k))
    (fun _ i _ => xs.length - (intOf i).toNat)
  case atStart => exact ⟨0, _, a2, cap2, Nat.zero_le _, rfl, rfl, hown2, hb2, (encTo_zero _ xs).symm⟩
  case round =>
    obtain ⟨k, l, a1, cap1, hk, rfl, rfl, hown, hbel, HE⟩ := hrel
    have hsz := hbel.size
    have hst := sumLen_take_le xs k
    have hll : l.length ≤ 10 + 10 * k + sumLen (xs.take k) := by rw [HE.out]; exact encTo_str_len xs hs hn k hk
    by_cases hlt : k < xs.length
    · obtain ⟨b, off, rfl, hc0⟩ := hrd.strAt k hlt
      have hcell := (hbel.cell (p := ⟨b, off + k, none⟩) (cell_block_lt hc0)).trans hc0
      clear hc0
      have hxk := size_le_sumLen xs k hlt
      have hS := Lib.hid (encTo_succ (fun s : ByteArray => encB s.data.toList) xs k hlt)
      have hel := enc_len ((xs[k]).size : Int) (by omega) (by omega)
      have hbl : (encB (xs[k]).data.toList).length ≤ 10 + (xs[k]).size := by
        have h4 : (xs[k]).data.toList.length = (xs[k]).size := by simp
        unfold encB; rw [List.length_append, h4]; omega
      clear hown2 hb2
      generalize xs[k] = x at *
      go_wp2_with (first
        | (go_at_call 17; refine (refBytes_any _ _ (by omega)).mono ?_; rintro e w1 ⟨a2, cap2, rfl, hown2, hb2⟩)
        | (at_builtin; refine wpList_append_src rfl _ _ 28 28 rfl sl28 (.inl sl28.ht) rfl (own_below hown hb2 (Nat.le_refl _)) rfl (Src.ofRd (Rd.ofOwn hown2) (byteVals_one _)) (by omega) (by unfold maxLen; omega) (by have := hb2.size; omega) ?_; intro a3 cap3 w3 hown3 hgr3 _))
      have hb3 := below_grown (hbel.trans (hb2.mono hsz)) hgr3 (own_below hown hb2 (Nat.le_refl _)) (Nat.le_refl _) (by have := hb2.size; omega)
      go_roundw
      case rel => exact ⟨k + 1, l ++ encB x.data.toList, a3, cap3, by omega, by go_num, by rw [List.length_append], by rw [List.length_append, byteVals_append]; exact hown3, hb3, by show _ = _; rw [← hS.out, HE.out]⟩
      case measure => simp [intOf]; omega
    · have hkl : k = xs.length := by omega
      subst hkl
      go_wp2_with fail
      go_ret
      exact retB_mk (l := l) rfl hown hbel (Nat.le_refl _) rfl rfl (by rw [HE.out, encTo_all])

end Go.Proofs.Ytppmlhjpdmndoaa
