/-
  The walks of the decoders of lists of integers and of byte strings, program and reference. No condition.
-/
import Derived.Test.YtppmlhjpdmndoaaWLen
import Derived.Test.YtppmlhjpdmndoaaWList
namespace Go.Proofs.Ytppmlhjpdmndoaa
open Go.RowKit

theorem sl22 : SlT Try.prog 22 3 (.int .i64 0) 1 8 := ⟨by kernel_rfl, by kernel_rfl, rfl⟩
theorem sl23 : SlT Try.prog 23 9 (.string ByteArray.empty) 1 16 := ⟨by kernel_rfl, by kernel_rfl, rfl⟩

/-- What a decoder of a list returns. -/
def RetL (e size n : Nat) (xs : List Value) (used err : Nat) (w : World) (en : Ending) (w' : World) : Prop :=
  ∃ a cap, en = .returned (.tuple #[.slice a n cap, .int .i64 used, .int .i64 err]) ∧ w'.ownsRow w.heap.size e size (.slice a n cap) n xs ∧ Below w.heap.size w w'

/-- Byte strings as cells. -/
def bstrVals (ss : List (List UInt8)) : List Value := ss.map fun s => Value.string ⟨s.toArray⟩

theorem drop_bytes {l : List UInt8} {n at_ : Nat} (hn : n = l.length) : ((byteVals l).drop at_).take (n - at_) = byteVals (l.drop at_) := by
  subst hn
  rw [List.take_of_length_le (by simp [byteVals_length])]
  simp [byteVals, List.map_drop]

theorem getL_eq {α : Type} (f : List UInt8 → α × Nat × Nat) (least : Int) (l : List UInt8) : getL f least l = if (getLen l least).2.2 ≠ 0 then ([], 0, (getLen l least).2.2) else getEls f l (getLen l least).1.toNat (getLen l least).2.1 [] := rfl

theorem getEls_bad {α : Type} {f : List UInt8 → α × Nat × Nat} {l : List UInt8} {n at_ : Nat} {acc : List α} {x : α} {u e : Nat} (hf : f (l.drop at_) = (x, u, e)) (hn : 0 < n) (he : e ≠ 0) : getEls f l n at_ acc = ([], 0, e) := by
  obtain ⟨m, rfl⟩ := Nat.exists_eq_succ_of_ne_zero (Nat.pos_iff_ne_zero.1 hn)
  rw [getEls, hf, if_pos he]
theorem getEls_good {α : Type} {f : List UInt8 → α × Nat × Nat} {l : List UInt8} {n at_ : Nat} {acc : List α} {x : α} {u : Nat} (hf : f (l.drop at_) = (x, u, 0)) : getEls f l (n + 1) at_ acc = getEls f l n (at_ + u) (acc ++ [x]) := by
  rw [getEls, hf, if_neg (by simp)]

set_option maxRecDepth 20000 in
set_option maxHeartbeats 2000000 in
theorem getListInt_any (l : List UInt8) (a : Option Addr) (n cap : Nat) (w : World) (hrd : Rd w a n cap 1 (byteVals l)) (hn : n ≤ 1099511627776) :
    Calls Try.prog 43 #[.slice a n cap, .int .i64 1, .func (.func 24) #[] #[]] w (RetL 3 1 (getL getI 1 l).1.length (intVals (getL getI 1 l).1) (getL getI 1 l).2.1 (getL getI 1 l).2.2 w) := by
  have hmax := hrd.lenMax
  have hcap := hrd.hcap
  have Hn := Lib.hid hrd.blenB
  have hk := getLen_ok (l := l) (least := 1) (by omega)
  have Hg := Lib.hid (getL_eq getI 1 l)
  have hu := getI_used l
  obtain ⟨x, u, e, hx⟩ : ∃ x u e, getLen l 1 = (x, u, e) := ⟨_, _, _, rfl⟩
  rw [hx] at hk Hg
  rw [← Hn.out] at hk hu
  simp only at hk Hg
  have Hx := Lib.hid hx; clear hx
  have Hk := Lib.hid hk; clear hk
  by_cases he : e = 0
  · subst he
    obtain ⟨q1, _, q2, q3⟩ := Hk.out rfl
    rw [← q1] at q2 q3 hu
    clear q1 Hk
    have Hr := Lib.hid (Hg.out.trans (if_neg (by simp))); clear Hg
    obtain ⟨m, rfl⟩ := Int.eq_ofNat_of_zero_le q2
    simp only [Int.toNat_natCast] at Hr
    simp only [Int.mul_one] at q3
    have hsum : u + m ≤ n := by omega
    clear q2 q3 hu
    go_enter Try.func43, Try.ntmps43
    go_wp2_with (go_at_call 42; refine (length_n (by omega) (by omega) Hx.out hrd).mono ?_; rintro e w1 ⟨rfl, rfl⟩)
    go_loopw [10, 12, 27] (fun p v i wr => ∃ (k at_ : Nat) (acc : List Int) (a : Option Addr) (cap : Nat), k ≤ m ∧ at_ ≤ n ∧ i = .int .i64 k ∧ p = .int .i64 at_ ∧ v = .slice a acc.length cap ∧ acc.length ≤ k ∧ wr.ownsRow w.heap.size 3 1 (.slice a acc.length cap) acc.length (intVals acc) ∧ Below w.heap.size w wr ∧ Hid (getL getI 1 l = getEls getI l (m - k) at_ acc))
      (fun _ _ i _ => m - (intOf i).toNat)
    case atStart => exact ⟨0, u, [], none, 0, Nat.zero_le _, by omega, rfl, rfl, rfl, Nat.le_refl _, World.ownsRow_nil _ _ _ _, Below.refl _ _, Hr.out⟩
    case round =>
      obtain ⟨k, at_, acc, a1, cap1, hkm, hat, rfl, rfl, rfl, hacc, hown, hbel, HE⟩ := hrel
      have hsz := hbel.size
      by_cases hlt : k < m
      · obtain ⟨a', ha', hrd'⟩ := hrd.subAt at_ n hat (Nat.le_refl _)
        rw [drop_bytes Hn.out] at hrd'
        have hrd2 := hrd'.below hbel (Nat.le_refl _)
        clear hrd'
        have hdl := hrd2.blenB
        have hu2 := getI_used (l.drop at_)
        rw [← hdl] at hu2
        clear hdl
        obtain ⟨x, u2, e, hx⟩ : ∃ x u e, getI (l.drop at_) = (x, u, e) := ⟨_, _, _, rfl⟩
        rw [hx] at hu2
        have hu3 := hu2.1
        clear hu2
        simp only at hu3
        have Hx2 := Lib.hid hx; clear hx
        by_cases he : e = 0
        · subst he
          have HE2 := Lib.hid (HE.out.trans ((congrArg (fun t => getEls getI l t at_ acc) (show m - k = (m - (k + 1)) + 1 from by omega)).trans (getEls_good Hx2.out)))
          go_wp2_with (first
            | (go_at_call 24; refine (getInt_n Hx2.out hrd2).mono ?_; rintro e w1 ⟨rfl, rfl⟩)
            | (at_builtin; refine wpList_append_src rfl _ _ 22 22 rfl sl22 (.inl sl22.ht) rfl (hown.alloc _) rfl (Src.oneNew _ _ _ rfl) (by omega) (by unfold maxLen; omega) (by simp; omega) ?_; intro a3 cap3 w3 hown3 hgr3 _))
          have hb3 := below_grown (hbel.alloc hsz _) hgr3 (hown.alloc _) (Nat.le_refl _) (by simp; omega)
          go_roundw
          case rel => exact ⟨k + 1, at_ + u2, acc ++ [x], a3, cap3, by omega, by omega, by go_num, by go_num, by rw [List.length_append]; rfl, by rw [List.length_append]; simp; omega, by rw [List.length_append]; simpa [intVals] using hown3, hb3, HE2⟩
          case measure => simp [intOf]; omega
        · have HE2 := Lib.hid (HE.out.trans (getEls_bad Hx2.out (by omega) he))
          have heb : ((e : Int) == 0) = false := by simp; omega
          have heb2 : ((e : Int) != 0) = true := by simp; omega
          clear he
          go_wp2_with (go_at_call 24; refine (getInt_n Hx2.out hrd2).mono ?_; rintro e w1 ⟨rfl, rfl⟩)
          go_ret3
          rw [HE2.out]
          exact ⟨none, 0, rfl, World.ownsRow_nil _ _ _ _, hbel⟩
      · have hkm2 : k = m := by omega
        have HE2 := Lib.hid (HE.out.trans (by rw [hkm2, Nat.sub_self, getEls]))
        clear hkm2
        go_wp2_with fail
        go_ret3
        rw [HE2.out]
        exact ⟨a1, cap1, rfl, hown, hbel⟩
  · have Hr := Lib.hid (Hg.out.trans (if_pos (by simpa using he))); clear Hg
    have heb : ((e : Int) == 0) = false := by simp; omega
    have heb2 : ((e : Int) != 0) = true := by simp; omega
    clear he
    go_enter Try.func43, Try.ntmps43
    go_wp2_with (go_at_call 42; refine (length_n (by omega) (by omega) Hx.out hrd).mono ?_; rintro e w1 ⟨rfl, rfl⟩)
    go_ret3
    rw [Hr.out]
    exact ⟨none, 0, rfl, World.ownsRow_nil _ _ _ _, Below.refl _ _⟩
end Go.Proofs.Ytppmlhjpdmndoaa
