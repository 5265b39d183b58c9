/-
  The walks of the encodings of lists of integers and strings, program and reference. No condition.
-/
import Derived.Test.YtppmlhjpdmndoaaWSame
namespace Go.Proofs.Ytppmlhjpdmndoaa
open Go.RowKit

/-- Integers as cells. -/
def intVals (xs : List Int) : List Value := xs.map (Value.int .i64)
theorem intVals_length (xs : List Int) : (intVals xs).length = xs.length := by simp [intVals]

/-- Strings as cells. -/
def strVals (xs : List ByteArray) : List Value := xs.map Value.string
theorem strVals_length (xs : List ByteArray) : (strVals xs).length = xs.length := by simp [strVals]

theorem Rd.intAt {w : World} {a : Option Addr} {n cap : Nat} {l : List Int} (h : Rd w a n cap 1 (intVals l)) (k : Nat) (hk : k < l.length) :
    ∃ b off, a = some ⟨b, off, none⟩ ∧ w.cell? ⟨b, off + k, none⟩ = some (.int .i64 l[k]) := by
  have hl := h.hlen; rw [intVals_length] at hl
  obtain ⟨b, off, ha, hc⟩ := h.at k (by omega)
  exact ⟨b, off, ha, by rw [hc k (by rw [intVals_length]; exact hk)]; simp [intVals]⟩

theorem Rd.strAt {w : World} {a : Option Addr} {n cap : Nat} {l : List ByteArray} (h : Rd w a n cap 1 (strVals l)) (k : Nat) (hk : k < l.length) :
    ∃ b off, a = some ⟨b, off, none⟩ ∧ w.cell? ⟨b, off + k, none⟩ = some (.string l[k]) := by
  have hl := h.hlen; rw [strVals_length] at hl
  obtain ⟨b, off, ha, hc⟩ := h.at k (by omega)
  exact ⟨b, off, ha, by rw [hc k (by rw [strVals_length]; exact hk)]; simp [strVals]⟩

/-- The encoding of a list: its length, then its elements. -/
def encL {α : Type} (f : α → List UInt8) (xs : List α) : List UInt8 := enc xs.length ++ xs.flatMap f

/-- The first k elements done. -/
def encTo {α : Type} (f : α → List UInt8) (xs : List α) (k : Nat) : List UInt8 := enc xs.length ++ (xs.take k).flatMap f
theorem encTo_zero {α : Type} (f : α → List UInt8) (xs : List α) : encTo f xs 0 = enc xs.length := by simp [encTo]
theorem encTo_succ {α : Type} (f : α → List UInt8) (xs : List α) (k : Nat) (h : k < xs.length) : encTo f xs k ++ f xs[k] = encTo f xs (k + 1) := by
  unfold encTo; rw [List.take_succ_eq_append_getElem h]; simp only [List.flatMap_append, List.flatMap_cons, List.flatMap_nil, List.append_nil, List.append_assoc]
theorem encTo_all {α : Type} (f : α → List UInt8) (xs : List α) : encTo f xs xs.length = encL f xs := by unfold encTo encL; rw [List.take_length]

/-- The total of the strings' lengths. -/
def sumLen (xs : List ByteArray) : Nat := (xs.map ByteArray.size).sum

theorem encTo_int_len (xs : List Int) (hx : ∀ x ∈ xs, -9223372036854775808 ≤ x ∧ x ≤ 9223372036854775807) (hn : xs.length ≤ 1099511627776) (k : Nat) (hk : k ≤ xs.length) :
    (encTo enc xs k).length ≤ 10 + 10 * k := by
  induction k with
  | zero => rw [encTo_zero]; have := enc_len (xs.length : Int) (by omega) (by omega); omega
  | succ k ih =>
    rw [← encTo_succ enc xs k (by omega), List.length_append]
    have := ih (by omega)
    have h1 := hx xs[k] (List.getElem_mem _)
    have := enc_len xs[k] h1.1 h1.2
    omega

theorem take_sumLen (xs : List ByteArray) (k : Nat) (hk : k < xs.length) : sumLen (xs.take (k + 1)) = sumLen (xs.take k) + (xs[k]).size := by
  unfold sumLen; rw [List.take_succ_eq_append_getElem hk]; simp only [List.map_append, List.map_cons, List.map_nil, List.sum_append_nat, List.sum_cons, List.sum_nil, Nat.add_zero]
theorem sumLen_take_le (xs : List ByteArray) (k : Nat) : sumLen (xs.take k) ≤ sumLen xs := by
  have : sumLen xs = sumLen (xs.take k) + sumLen (xs.drop k) := by
    unfold sumLen; rw [← List.sum_append_nat, ← List.map_append, List.take_append_drop]
  omega
theorem size_le_sumLen (xs : List ByteArray) (k : Nat) (hk : k < xs.length) : (xs[k]).size ≤ sumLen xs := by
  have h1 := take_sumLen xs k hk
  have h2 := sumLen_take_le xs (k + 1)
  omega

theorem encTo_str_len (xs : List ByteArray) (hs : sumLen xs ≤ 1099511627776) (hn : xs.length ≤ 1099511627776) (k : Nat) (hk : k ≤ xs.length) :
    (encTo (fun s : ByteArray => encB s.data.toList) xs k).length ≤ 10 + 10 * k + sumLen (xs.take k) := by
  induction k with
  | zero => rw [encTo_zero]; have := enc_len (xs.length : Int) (by omega) (by omega); omega
  | succ k ih =>
    rw [← encTo_succ _ xs k (by omega), List.length_append]
    have := ih (by omega)
    have h2 := take_sumLen xs k (by omega)
    have h3 := size_le_sumLen xs k (by omega)
    have h4 : (xs[k]).data.toList.length = (xs[k]).size := by simp
    have h5 := enc_len ((xs[k]).size : Int) (by omega) (by omega)
    have h6 : (encB (xs[k]).data.toList).length = (enc ((xs[k]).size : Int)).length + (xs[k]).size := by unfold encB; rw [List.length_append, h4]
    rw [h6]
    omega

set_option maxRecDepth 20000 in
set_option maxHeartbeats 400000 in
theorem listInt_any (xs : List Int) (a : Option Addr) (cap : Nat) (w : World) (hrd : Rd w a xs.length cap 1 (intVals xs)) (hx : Hid (∀ x ∈ xs, -9223372036854775808 ≤ x ∧ x ≤ 9223372036854775807)) (hn : xs.length ≤ 1099511627776) :
    Calls Try.prog 38 #[.slice a xs.length cap, .func (.func 14) #[] #[]] w (RetB (encL enc xs) w) := by
  go_enter Try.func38, Try.ntmps38
  go_wp2_with (go_at_call 14; refine (int_any _ _ (by omega) (by omega)).mono ?_; rintro e w1 ⟨a2, cap2, rfl, hown2, hb2⟩)
  go_loopw [5, 13] (fun v i wr => ∃ (k : Nat) (l : List UInt8) (a : Option Addr) (cap : Nat), k ≤ xs.length ∧ i = .int .i64 k ∧ v = .slice a l.length cap ∧ wr.ownsRow w.heap.size 5 1 (.slice a l.length cap) l.length (byteVals l) ∧ Below w.heap.size w wr ∧ Hid (l = encTo enc xs k))
    (fun _ i _ => xs.length - (intOf i).toNat)
  case atStart => exact ⟨0, _, a2, cap2, Nat.zero_le _, rfl, rfl, hown2, hb2, (encTo_zero enc xs).symm⟩
  case round =>
    obtain ⟨k, l, a1, cap1, hk, rfl, rfl, hown, hbel, HE⟩ := hrel
    have hsz := hbel.size
    have hll : l.length ≤ 10 + 10 * k := by rw [HE.out]; exact encTo_int_len xs hx.out hn k hk
    by_cases hlt : k < xs.length
    · obtain ⟨b, off, rfl, hc0⟩ := hrd.intAt k hlt
      have hcell := (hbel.cell (p := ⟨b, off + k, none⟩) (cell_block_lt hc0)).trans hc0
      clear hc0
      have hxk := hx.out xs[k] (List.getElem_mem _)
      have hS := Lib.hid (encTo_succ enc xs k hlt)
      have hel := enc_len xs[k] hxk.1 hxk.2
      obtain ⟨hx1, hx2⟩ := hxk
      clear hown2 hb2
      generalize xs[k] = x at *
      go_wp2_with (first
        | (go_at_call 14; refine (int_any _ _ (by omega) (by omega)).mono ?_; rintro e w1 ⟨a2, cap2, rfl, hown2, hb2⟩)
        | (at_builtin; refine wpList_append_src rfl _ _ 28 28 rfl sl28 (.inl sl28.ht) rfl (own_below hown hb2 (Nat.le_refl _)) rfl (Src.ofRd (Rd.ofOwn hown2) (byteVals_one _)) (by omega) (by unfold maxLen; omega) (by have := hb2.size; omega) ?_; intro a3 cap3 w3 hown3 hgr3 _))
      have hb3 := below_grown (hbel.trans (hb2.mono hsz)) hgr3 (own_below hown hb2 (Nat.le_refl _)) (Nat.le_refl _) (by have := hb2.size; omega)
      go_roundw
      case rel => exact ⟨k + 1, l ++ enc x, a3, cap3, by omega, by go_num, by rw [List.length_append], by rw [List.length_append, byteVals_append]; exact hown3, hb3, by show _ = _; rw [← hS.out, HE.out]⟩
      case measure => simp [intOf]; omega
    · have hkl : k = xs.length := by omega
      subst hkl
      go_wp2_with fail
      go_ret
      exact retB_mk (l := l) rfl hown hbel (Nat.le_refl _) rfl rfl (by rw [HE.out, encTo_all])

set_option maxRecDepth 20000 in
set_option maxHeartbeats 400000 in
theorem listStr_any (xs : List ByteArray) (a : Option Addr) (cap : Nat) (w : World) (hrd : Rd w a xs.length cap 1 (strVals xs)) (hs : sumLen xs ≤ 1099511627776) (hn : xs.length ≤ 1099511627776) :
    Calls Try.prog 39 #[.slice a xs.length cap, .func (.func 16) #[] #[]] w (RetB (encL (fun s : ByteArray => encB s.data.toList) xs) w) := by
  go_enter Try.func39, Try.ntmps39
  go_wp2_with (go_at_call 14; refine (int_any _ _ (by omega) (by omega)).mono ?_; rintro e w1 ⟨a2, cap2, rfl, hown2, hb2⟩)
  go_loopw [5, 13] (fun v i wr => ∃ (k : Nat) (l : List UInt8) (a : Option Addr) (cap : Nat), k ≤ xs.length ∧ i = .int .i64 k ∧ v = .slice a l.length cap ∧ wr.ownsRow w.heap.size 5 1 (.slice a l.length cap) l.length (byteVals l) ∧ Below w.heap.size w wr ∧ Hid (l = encTo (fun s : ByteArray => encB s.data.toList) xs k))
    (fun _ i _ => xs.length - (intOf i).toNat)
  case atStart => exact ⟨0, _, a2, cap2, Nat.zero_le _, rfl, rfl, hown2, hb2, (encTo_zero _ xs).symm⟩
  case round =>
    obtain ⟨k, l, a1, cap1, hk, rfl, rfl, hown, hbel, HE⟩ := hrel
    have hsz := hbel.size
    have hst := sumLen_take_le xs k
    have hll : l.length ≤ 10 + 10 * k + sumLen (xs.take k) := by rw [HE.out]; exact encTo_str_len xs hs hn k hk
    by_cases hlt : k < xs.length
    · obtain ⟨b, off, rfl, hc0⟩ := hrd.strAt k hlt
      have hcell := (hbel.cell (p := ⟨b, off + k, none⟩) (cell_block_lt hc0)).trans hc0
      clear hc0
      have hxk := size_le_sumLen xs k hlt
      have hS := Lib.hid (encTo_succ (fun s : ByteArray => encB s.data.toList) xs k hlt)
      have hel := enc_len ((xs[k]).size : Int) (by omega) (by omega)
      have hbl : (encB (xs[k]).data.toList).length ≤ 10 + (xs[k]).size := by
        have h4 : (xs[k]).data.toList.length = (xs[k]).size := by simp
        unfold encB; rw [List.length_append, h4]; omega
      clear hown2 hb2
      generalize xs[k] = x at *
      go_wp2_with (first
        | (go_at_call 16; refine (bytes_any _ _ (by omega)).mono ?_; rintro e w1 ⟨a2, cap2, rfl, hown2, hb2⟩)
        | (at_builtin; refine wpList_append_src rfl _ _ 28 28 rfl sl28 (.inl sl28.ht) rfl (own_below hown hb2 (Nat.le_refl _)) rfl (Src.ofRd (Rd.ofOwn hown2) (byteVals_one _)) (by omega) (by unfold maxLen; omega) (by have := hb2.size; omega) ?_; intro a3 cap3 w3 hown3 hgr3 _))
      have hb3 := below_grown (hbel.trans (hb2.mono hsz)) hgr3 (own_below hown hb2 (Nat.le_refl _)) (Nat.le_refl _) (by have := hb2.size; omega)
      go_roundw
      case rel => exact ⟨k + 1, l ++ encB x.data.toList, a3, cap3, by omega, by go_num, by rw [List.length_append], by rw [List.length_append, byteVals_append]; exact hown3, hb3, by show _ = _; rw [← hS.out, HE.out]⟩
      case measure => simp [intOf]; omega
    · have hkl : k = xs.length := by omega
      subst hkl
      go_wp2_with fail
      go_ret
      exact retB_mk (l := l) rfl hown hbel (Nat.le_refl _) rfl rfl (by rw [HE.out, encTo_all])

set_option maxHeartbeats 400000 in
theorem ints_any (xs : List Int) (a : Option Addr) (cap : Nat) (w : World) (hrd : Rd w a xs.length cap 1 (intVals xs)) (hx : Hid (∀ x ∈ xs, -9223372036854775808 ≤ x ∧ x ≤ 9223372036854775807)) (hn : xs.length ≤ 1099511627776) :
    Calls Try.prog 18 #[.slice a xs.length cap] w (RetB (encL enc xs) w) := by
  go_enter Try.func18, Try.ntmps18
  go_wp2_with (go_at_call 38; refine (listInt_any xs a cap _ hrd hx hn).mono ?_; rintro e w1 ⟨a2, cap2, rfl, hown2, hb2⟩)
  go_ret
  exact ⟨a2, cap2, rfl, hown2, hb2⟩

set_option maxHeartbeats 400000 in
theorem strings_any (xs : List ByteArray) (a : Option Addr) (cap : Nat) (w : World) (hrd : Rd w a xs.length cap 1 (strVals xs)) (hs : sumLen xs ≤ 1099511627776) (hn : xs.length ≤ 1099511627776) :
    Calls Try.prog 20 #[.slice a xs.length cap] w (RetB (encL (fun s : ByteArray => encB s.data.toList) xs) w) := by
  go_enter Try.func20, Try.ntmps20
  go_wp2_with (go_at_call 39; refine (listStr_any xs a cap _ hrd hs hn).mono ?_; rintro e w1 ⟨a2, cap2, rfl, hown2, hb2⟩)
  go_ret
  exact ⟨a2, cap2, rfl, hown2, hb2⟩
end Go.Proofs.Ytppmlhjpdmndoaa
