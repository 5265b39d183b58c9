/-
  The walks of SameInts, SameTexts, SameDigests of the reference. No condition.
-/
import Derived.Test.YtppmlhjpdmndoaaWGet
import Derived.Test.YtppmlhjpdmndoaaWDig
import Derived.Test.YtppmlhjpdmndoaaMemE
namespace Go.Proofs.Ytppmlhjpdmndoaa
open Go.RowKit

/-- A function that only compares. -/
def RetBool (b : Bool) (w : World) (e : Ending) (w' : World) : Prop := e = .returned (.bool b) ∧ Below w.heap.size w w'

theorem take_ne {α : Type} {xs ys : List α} {k : Nat} (h1 : k < xs.length) (h2 : k < ys.length) (h : xs[k] ≠ ys[k]) : xs ≠ ys := by
  rintro rfl; exact h rfl
theorem take_step {α : Type} {xs ys : List α} {k : Nat} (h1 : k < xs.length) (h2 : k < ys.length) (h : xs[k] = ys[k]) (ht : xs.take k = ys.take k) : xs.take (k + 1) = ys.take (k + 1) := by
  rw [List.take_succ_eq_append_getElem h1, List.take_succ_eq_append_getElem h2, ht, h]

theorem bstrVals_length (ss : List (List UInt8)) : (bstrVals ss).length = ss.length := by simp [bstrVals]

theorem Rd.bstrAt {w : World} {a : Option Addr} {n cap : Nat} {l : List (List UInt8)} (h : Rd w a n cap 1 (bstrVals l)) (k : Nat) (hk : k < l.length) :
    ∃ b off, a = some ⟨b, off, none⟩ ∧ w.cell? ⟨b, off + k, none⟩ = some (.string ⟨(l[k]).toArray⟩) := by
  have hl := h.hlen; rw [bstrVals_length] at hl
  obtain ⟨b, off, ha, hc⟩ := h.at k (by omega)
  exact ⟨b, off, ha, by rw [hc k (by rw [bstrVals_length]; exact hk)]; simp [bstrVals]⟩

theorem strVals_b (xs : List ByteArray) : strVals xs = bstrVals (xs.map fun s => s.data.toList) := by
  unfold strVals bstrVals
  rw [List.map_map]
  apply List.map_congr_left
  intro s _
  simp

set_option maxRecDepth 20000 in
set_option maxHeartbeats 1000000 in
theorem sameInts_any (xs ys : List Int) (a b : Option Addr) (n1 c1 n2 c2 : Nat) (w : World) (h1 : Rd w a n1 c1 1 (intVals xs)) (h2 : Rd w b n2 c2 1 (intVals ys)) :
    Calls Try.prog 30 #[.slice a n1 c1, .slice b n2 c2] w (RetBool (xs == ys) w) := by
  have hm1 := h1.lenMax
  have hm2 := h2.lenMax
  have Hl1 := Lib.hid (show n1 = xs.length from by have := h1.hlen; rw [intVals_length] at this; omega)
  have Hl2 := Lib.hid (show n2 = ys.length from by have := h2.hlen; rw [intVals_length] at this; omega)
  by_cases hn : n1 = n2
  · subst hn
    go_enter Try.func30, Try.ntmps30
    go_wp2_with fail
    go_loopw [5] (fun i wr => ∃ k : Nat, k ≤ n1 ∧ i = .int .i64 k ∧ Below w.heap.size w wr ∧ Hid (xs.take k = ys.take k))
      (fun i _ => n1 - (intOf i).toNat)
    case atStart => exact ⟨0, Nat.zero_le _, rfl, Below.refl _ _, rfl⟩
    case round =>
      obtain ⟨k, hk, rfl, hbel, HT⟩ := hrel
      by_cases hlt : k < n1
      · obtain ⟨b1, o1, rfl, hc1⟩ := h1.intAt k (by have := Hl1.out; omega)
        obtain ⟨b2, o2, rfl, hc2⟩ := h2.intAt k (by have := Hl2.out; omega)
        have hr1 := (hbel.cell (p := ⟨b1, o1 + k, none⟩) (cell_block_lt hc1)).trans hc1
        have hr2 := (hbel.cell (p := ⟨b2, o2 + k, none⟩) (cell_block_lt hc2)).trans hc2
        clear hc1 hc2
        have Hs := Lib.hid (take_step (xs := xs) (ys := ys) (k := k) (by have := Hl1.out; omega) (by have := Hl2.out; omega))
        have Hne := Lib.hid (take_ne (xs := xs) (ys := ys) (k := k) (by have := Hl1.out; omega) (by have := Hl2.out; omega))
        generalize xs[k]'(by have := Hl1.out; omega) = x at *
        generalize ys[k]'(by have := Hl2.out; omega) = y at *
        go_wp2_with fail
        go_quiet (fail)
        go_wp2_with fail
        · have hne : (x != y) = true := by assumption
          go_ret
          exact ⟨by rw [beq_eq_false_iff_ne.2 (Hne.out (by simpa using hne))]; rfl, below_drewN hbel _⟩
        · have heq : (x != y) = false := by assumption
          go_roundw
          case rel => exact ⟨k + 1, by omega, by go_num, below_drewN hbel _, Hs.out (by simpa using heq) HT.out⟩
          case measure => simp [intOf]; omega
      · have HE := Lib.hid (show xs = ys from by have h := HT.out; rw [List.take_of_length_le (by have := Hl1.out; omega), List.take_of_length_le (by have := Hl2.out; omega)] at h; exact h)
        go_wp2_with fail
        go_ret
        exact ⟨by rw [HE.out]; simp, hbel⟩
  · have HE := Lib.hid (show (xs == ys) = false from by simp; rintro rfl; exact hn (by rw [Hl1.out, Hl2.out]))
    go_enter Try.func30, Try.ntmps30
    go_wp2_with fail
    go_ret
    exact ⟨by rw [HE.out]; rfl, Below.refl _ _⟩
set_option maxRecDepth 20000 in
set_option maxHeartbeats 1000000 in
theorem sameTexts_any (xs ys : List (List UInt8)) (a b : Option Addr) (n1 c1 n2 c2 : Nat) (w : World) (h1 : Rd w a n1 c1 1 (bstrVals xs)) (h2 : Rd w b n2 c2 1 (bstrVals ys)) :
    Calls Try.prog 33 #[.slice a n1 c1, .slice b n2 c2] w (RetBool (xs == ys) w) := by
  have hm1 := h1.lenMax
  have hm2 := h2.lenMax
  have Hl1 := Lib.hid (show n1 = xs.length from by have := h1.hlen; rw [bstrVals_length] at this; omega)
  have Hl2 := Lib.hid (show n2 = ys.length from by have := h2.hlen; rw [bstrVals_length] at this; omega)
  by_cases hn : n1 = n2
  · subst hn
    go_enter Try.func33, Try.ntmps33
    go_wp2_with fail
    go_loopw [5] (fun i wr => ∃ k : Nat, k ≤ n1 ∧ i = .int .i64 k ∧ Below w.heap.size w wr ∧ Hid (xs.take k = ys.take k))
      (fun i _ => n1 - (intOf i).toNat)
    case atStart => exact ⟨0, Nat.zero_le _, rfl, Below.refl _ _, rfl⟩
    case round =>
      obtain ⟨k, hk, rfl, hbel, HT⟩ := hrel
      by_cases hlt : k < n1
      · obtain ⟨b1, o1, rfl, hc1⟩ := h1.bstrAt k (by have := Hl1.out; omega)
        obtain ⟨b2, o2, rfl, hc2⟩ := h2.bstrAt k (by have := Hl2.out; omega)
        have hr1 := (hbel.cell (p := ⟨b1, o1 + k, none⟩) (cell_block_lt hc1)).trans hc1
        have hr2 := (hbel.cell (p := ⟨b2, o2 + k, none⟩) (cell_block_lt hc2)).trans hc2
        clear hc1 hc2
        have Hs := Lib.hid (take_step (xs := xs) (ys := ys) (k := k) (by have := Hl1.out; omega) (by have := Hl2.out; omega))
        have Hne := Lib.hid (take_ne (xs := xs) (ys := ys) (k := k) (by have := Hl1.out; omega) (by have := Hl2.out; omega))
        generalize xs[k]'(by have := Hl1.out; omega) = x at *
        generalize ys[k]'(by have := Hl2.out; omega) = y at *
        go_wp2_with fail
        go_quiet (fail)
        go_wp2_with fail
        · have hne : (!x == y) = true := by assumption
          go_ret
          exact ⟨by rw [beq_eq_false_iff_ne.2 (Hne.out (by simpa using hne))]; rfl, below_drewN hbel _⟩
        · have heq : (!x == y) = false := by assumption
          go_roundw
          case rel => exact ⟨k + 1, by omega, by go_num, below_drewN hbel _, Hs.out (by simpa using heq) HT.out⟩
          case measure => simp [intOf]; omega
      · have HE := Lib.hid (show xs = ys from by have h := HT.out; rw [List.take_of_length_le (by have := Hl1.out; omega), List.take_of_length_le (by have := Hl2.out; omega)] at h; exact h)
        go_wp2_with fail
        go_ret
        exact ⟨by rw [HE.out]; simp, hbel⟩
  · have HE := Lib.hid (show (xs == ys) = false from by simp; rintro rfl; exact hn (by rw [Hl1.out, Hl2.out]))
    go_enter Try.func33, Try.ntmps33
    go_wp2_with fail
    go_ret
    exact ⟨by rw [HE.out]; rfl, Below.refl _ _⟩
set_option maxRecDepth 20000 in
set_option maxHeartbeats 1000000 in
theorem sameDigests_any (xs ys : List (List UInt8)) (a b : Option Addr) (n1 c1 n2 c2 : Nat) (w : World) (h1 : Rd w a n1 c1 16 (digVals xs)) (h2 : Rd w b n2 c2 16 (digVals ys)) (hd1 : Hid (∀ d ∈ xs, d.length = 16)) (hd2 : Hid (∀ d ∈ ys, d.length = 16)) :
    Calls Try.prog 36 #[.slice a n1 c1, .slice b n2 c2] w (RetBool (xs == ys) w) := by
  have hm1 := h1.lenMax
  have hm2 := h2.lenMax
  have Hl1 := Lib.hid (show n1 = xs.length from by have := h1.hlen; unfold digVals at this; rw [byteVals_length, flatten_len hd1.out] at this; omega)
  have Hl2 := Lib.hid (show n2 = ys.length from by have := h2.hlen; unfold digVals at this; rw [byteVals_length, flatten_len hd2.out] at this; omega)
  by_cases hn : n1 = n2
  · subst hn
    go_enter Try.func36, Try.ntmps36
    go_wp2_with fail
    go_loopw [5] (fun i wr => ∃ k : Nat, k ≤ n1 ∧ i = .int .i64 k ∧ Below w.heap.size w wr ∧ Hid (xs.take k = ys.take k))
      (fun i _ => n1 - (intOf i).toNat)
    case atStart => exact ⟨0, Nat.zero_le _, rfl, Below.refl _ _, rfl⟩
    case round =>
      obtain ⟨k, hk, rfl, hbel, HT⟩ := hrel
      by_cases hlt : k < n1
      · obtain ⟨b1, o1, rfl, hr1⟩ := h1.digAt hd1.out k (by have := Hl1.out; omega)
        obtain ⟨b2, o2, rfl, hr2⟩ := h2.digAt hd2.out k (by have := Hl2.out; omega)
        have hr1 := hr1.below hbel (Nat.le_refl _)
        have hr2 := hr2.below hbel (Nat.le_refl _)
        have Hs := Lib.hid (take_step (xs := xs) (ys := ys) (k := k) (by have := Hl1.out; omega) (by have := Hl2.out; omega))
        have Hne := Lib.hid (take_ne (xs := xs) (ys := ys) (k := k) (by have := Hl1.out; omega) (by have := Hl2.out; omega))
        have Hx1 := Lib.hid (hd1.out (xs[k]'(by have := Hl1.out; omega)) (List.getElem_mem _))
        have Hx2 := Lib.hid (hd2.out (ys[k]'(by have := Hl2.out; omega)) (List.getElem_mem _))
        generalize xs[k]'(by have := Hl1.out; omega) = x at *
        generalize ys[k]'(by have := Hl2.out; omega) = y at *
        go_wp2_with fail
        refine wp_region_quiet_lit (by kernel_rfl) (by kernel_rfl) ?_
        quiet_step (fail)
        quiet_step (fail)
        quiet_step (fail)
        refine wpQuiet_load_agg rfl 57 _ rfl agg57 rfl (cs := byteVals x) (by rw [byteVals_length, Hx1.out]) (hr1.hcell _ rfl) ?_
        quiet_step (fail)
        quiet_step (fail)
        quiet_step (fail)
        refine wpQuiet_load_agg rfl 57 _ rfl agg57 rfl (cs := byteVals y) (by rw [byteVals_length, Hx2.out]) (hr2.hcell _ rfl) ?_
        refine wpQuiet_val rfl (.bool (!(x == y))) (fun w' _ => run_neq_bytes (n := 16) (e := 5) (by kernel_rfl) (by kernel_rfl) (by kernel_rfl) (by kernel_rfl) Hx1.out Hx2.out _ _ _ rfl rfl rfl w') ?_
        refine wpQuiet_nil ?_
        rintro _ ⟨nq, rfl⟩
        go_wp2_with fail
        · have hne : (!(x == y)) = true := by assumption
          go_ret
          exact ⟨by rw [beq_eq_false_iff_ne.2 (Hne.out (by simpa using hne))]; rfl, below_drewN hbel _⟩
        · have heq : (!(x == y)) = false := by assumption
          go_roundw
          case rel => exact ⟨k + 1, by omega, by go_num, below_drewN hbel _, Hs.out (by simpa using heq) HT.out⟩
          case measure => simp [intOf]; omega
      · have HE := Lib.hid (show xs = ys from by have h := HT.out; rw [List.take_of_length_le (by have := Hl1.out; omega), List.take_of_length_le (by have := Hl2.out; omega)] at h; exact h)
        go_wp2_with fail
        go_ret
        exact ⟨by rw [HE.out]; simp, hbel⟩
  · have HE := Lib.hid (show (xs == ys) = false from by simp; rintro rfl; exact hn (by rw [Hl1.out, Hl2.out]))
    go_enter Try.func36, Try.ntmps36
    go_wp2_with fail
    go_ret
    exact ⟨by rw [HE.out]; rfl, Below.refl _ _⟩

end Go.Proofs.Ytppmlhjpdmndoaa
