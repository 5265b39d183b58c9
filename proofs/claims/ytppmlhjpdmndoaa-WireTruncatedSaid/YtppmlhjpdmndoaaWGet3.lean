/-
  The walks of the decoders of lists of byte strings, program and reference. No condition.
-/
import Derived.Test.YtppmlhjpdmndoaaWGet
namespace Go.Proofs.Ytppmlhjpdmndoaa
open Go.RowKit


theorem getBytes_n {l : List UInt8} {a : Option Addr} {n cap : Nat} {w : World} {x : List UInt8} {u e : Nat} (hx : getB l = (x, u, e)) (hrd : Rd w a n cap 1 (byteVals l)) :
    Calls Try.prog 26 #[.slice a n cap] w fun en w' => en = .returned (.tuple #[.string ⟨x.toArray⟩, .int .i64 u, .int .i64 e]) ∧ w = w' := by
  have := getBytes_any l a n cap w hrd
  rw [hx] at this; exact this

theorem refGetBytes_n {l : List UInt8} {a : Option Addr} {n cap : Nat} {w : World} {x : List UInt8} {u e : Nat} (hx : getB l = (x, u, e)) (hrd : Rd w a n cap 1 (byteVals l)) :
    Calls Try.prog 27 #[.slice a n cap] w fun en w' => en = .returned (.tuple #[.string ⟨x.toArray⟩, .int .i64 u, .int .i64 e]) ∧ w = w' := by
  have := refGetBytes_any l a n cap w hrd
  rw [hx] at this; exact this

set_option maxRecDepth 20000 in
set_option maxHeartbeats 2000000 in
theorem getListStr_any (l : List UInt8) (a : Option Addr) (n cap : Nat) (w : World) (hrd : Rd w a n cap 1 (byteVals l)) (hn : n ≤ 1099511627776) :
    Calls Try.prog 45 #[.slice a n cap, .int .i64 1, .func (.func 26) #[] #[]] w (RetL 9 1 (getL getB 1 l).1.length (bstrVals (getL getB 1 l).1) (getL getB 1 l).2.1 (getL getB 1 l).2.2 w) := by
  have hmax := hrd.lenMax
  have hcap := hrd.hcap
  have Hn := Lib.hid hrd.blenB
  have hk := getLen_ok (l := l) (least := 1) (by omega)
  have Hg := Lib.hid (getL_eq getB 1 l)
  have hu := getI_used l
  obtain ⟨x, u, e, hx⟩ : ∃ x u e, getLen l 1 = (x, u, e) := ⟨_, _, _, rfl⟩
  rw [hx] at hk Hg
  rw [← Hn.out] at hk hu
  simp only at hk Hg
  have Hx := Lib.hid hx; clear hx
  have Hk := Lib.hid hk; clear hk
  by_cases he : e = 0
  · subst he
    obtain ⟨q1, _, q2, q3⟩ := Hk.out rfl
    rw [← q1] at q2 q3 hu
    clear q1 Hk
    have Hr := Lib.hid (Hg.out.trans (if_neg (by simp))); clear Hg
    obtain ⟨m, rfl⟩ := Int.eq_ofNat_of_zero_le q2
    simp only [Int.toNat_natCast] at Hr
    simp only [Int.mul_one] at q3
    have hsum : u + m ≤ n := by omega
    clear q2 q3 hu
    go_enter Try.func45, Try.ntmps45
    go_wp2_with (go_at_call 42; refine (length_n (by omega) (by omega) Hx.out hrd).mono ?_; rintro e w1 ⟨rfl, rfl⟩)
    go_loopw [10, 12, 27] (fun p v i wr => ∃ (k at_ : Nat) (acc : List (List UInt8)) (a : Option Addr) (cap : Nat), k ≤ m ∧ at_ ≤ n ∧ i = .int .i64 k ∧ p = .int .i64 at_ ∧ v = .slice a acc.length cap ∧ acc.length ≤ k ∧ wr.ownsRow w.heap.size 9 1 (.slice a acc.length cap) acc.length (bstrVals acc) ∧ Below w.heap.size w wr ∧ Hid (getL getB 1 l = getEls getB l (m - k) at_ acc))
      (fun _ _ i _ => m - (intOf i).toNat)
    case atStart => exact ⟨0, u, [], none, 0, Nat.zero_le _, by omega, rfl, rfl, rfl, Nat.le_refl _, World.ownsRow_nil _ _ _ _, Below.refl _ _, Hr.out⟩
    case round =>
      obtain ⟨k, at_, acc, a1, cap1, hkm, hat, rfl, rfl, rfl, hacc, hown, hbel, HE⟩ := hrel
      have hsz := hbel.size
      by_cases hlt : k < m
      · obtain ⟨a', ha', hrd'⟩ := hrd.subAt at_ n hat (Nat.le_refl _)
        rw [drop_bytes Hn.out] at hrd'
        have hrd2 := hrd'.below hbel (Nat.le_refl _)
        clear hrd'
        have hdl := hrd2.blenB
        have hu2 := getB_used (l.drop at_)
        rw [← hdl] at hu2
        clear hdl
        obtain ⟨x, u2, e, hx⟩ : ∃ x u e, getB (l.drop at_) = (x, u, e) := ⟨_, _, _, rfl⟩
        rw [hx] at hu2
        have hu3 := hu2.1
        clear hu2
        simp only at hu3
        have Hx2 := Lib.hid hx; clear hx
        by_cases he : e = 0
        · subst he
          have HE2 := Lib.hid (HE.out.trans ((congrArg (fun t => getEls getB l t at_ acc) (show m - k = (m - (k + 1)) + 1 from by omega)).trans (getEls_good Hx2.out)))
          go_wp2_with (first
            | (go_at_call 26; refine (getBytes_n Hx2.out hrd2).mono ?_; rintro e w1 ⟨rfl, rfl⟩)
            | (at_builtin; refine wpList_append_src rfl _ _ 23 23 rfl sl23 (.inl sl23.ht) rfl (hown.alloc _) rfl (Src.oneNew _ _ _ rfl) (by omega) (by unfold maxLen; omega) (by simp; omega) ?_; intro a3 cap3 w3 hown3 hgr3 _))
          have hb3 := below_grown (hbel.alloc hsz _) hgr3 (hown.alloc _) (Nat.le_refl _) (by simp; omega)
          go_roundw
          case rel => exact ⟨k + 1, at_ + u2, acc ++ [x], a3, cap3, by omega, by omega, by go_num, by go_num, by rw [List.length_append]; rfl, by rw [List.length_append]; simp; omega, by rw [List.length_append]; simpa [bstrVals] using hown3, hb3, HE2⟩
          case measure => simp [intOf]; omega
        · have HE2 := Lib.hid (HE.out.trans (getEls_bad Hx2.out (by omega) he))
          have heb : ((e : Int) == 0) = false := by simp; omega
          have heb2 : ((e : Int) != 0) = true := by simp; omega
          clear he
          go_wp2_with (go_at_call 26; refine (getBytes_n Hx2.out hrd2).mono ?_; rintro e w1 ⟨rfl, rfl⟩)
          go_ret3
          rw [HE2.out]
          exact ⟨none, 0, rfl, World.ownsRow_nil _ _ _ _, hbel⟩
      · have hkm2 : k = m := by omega
        have HE2 := Lib.hid (HE.out.trans (by rw [hkm2, Nat.sub_self, getEls]))
        clear hkm2
        go_wp2_with fail
        go_ret3
        rw [HE2.out]
        exact ⟨a1, cap1, rfl, hown, hbel⟩
  · have Hr := Lib.hid (Hg.out.trans (if_pos (by simpa using he))); clear Hg
    have heb : ((e : Int) == 0) = false := by simp; omega
    have heb2 : ((e : Int) != 0) = true := by simp; omega
    clear he
    go_enter Try.func45, Try.ntmps45
    go_wp2_with (go_at_call 42; refine (length_n (by omega) (by omega) Hx.out hrd).mono ?_; rintro e w1 ⟨rfl, rfl⟩)
    go_ret3
    rw [Hr.out]
    exact ⟨none, 0, rfl, World.ownsRow_nil _ _ _ _, Below.refl _ _⟩
set_option maxRecDepth 20000 in
set_option maxHeartbeats 2000000 in
theorem refGetStrings_any (l : List UInt8) (a : Option Addr) (n cap : Nat) (w : World) (hrd : Rd w a n cap 1 (byteVals l)) (hn : n ≤ 1099511627776) :
    Calls Try.prog 32 #[.slice a n cap] w (RetL 9 1 (getL getB 1 l).1.length (bstrVals (getL getB 1 l).1) (getL getB 1 l).2.1 (getL getB 1 l).2.2 w) := by
  have hmax := hrd.lenMax
  have hcap := hrd.hcap
  have Hn := Lib.hid hrd.blenB
  have hk := getLen_ok (l := l) (least := 1) (by omega)
  have Hg := Lib.hid (getL_eq getB 1 l)
  have hu := getI_used l
  obtain ⟨x, u, e, hx⟩ : ∃ x u e, getLen l 1 = (x, u, e) := ⟨_, _, _, rfl⟩
  rw [hx] at hk Hg
  rw [← Hn.out] at hk hu
  simp only at hk Hg
  have Hx := Lib.hid hx; clear hx
  have Hk := Lib.hid hk; clear hk
  by_cases he : e = 0
  · subst he
    obtain ⟨q1, _, q2, q3⟩ := Hk.out rfl
    rw [← q1] at q2 q3 hu
    clear q1 Hk
    have Hr := Lib.hid (Hg.out.trans (if_neg (by simp))); clear Hg
    obtain ⟨m, rfl⟩ := Int.eq_ofNat_of_zero_le q2
    simp only [Int.toNat_natCast] at Hr
    simp only [Int.mul_one] at q3
    have hsum : u + m ≤ n := by omega
    clear q2 q3 hu
    go_enter Try.func32, Try.ntmps32
    go_wp2_with (go_at_call 44; refine (refLength_n (by omega) (by omega) Hx.out hrd).mono ?_; rintro e w1 ⟨rfl, rfl⟩)
    go_loopw [6, 8, 9] (fun p v i wr => ∃ (k at_ : Nat) (acc : List (List UInt8)) (a : Option Addr) (cap : Nat), k ≤ m ∧ at_ ≤ n ∧ i = .int .i64 k ∧ p = .int .i64 at_ ∧ v = .slice a acc.length cap ∧ acc.length ≤ k ∧ wr.ownsRow w.heap.size 9 1 (.slice a acc.length cap) acc.length (bstrVals acc) ∧ Below w.heap.size w wr ∧ Hid (getL getB 1 l = getEls getB l (m - k) at_ acc))
      (fun _ _ i _ => m - (intOf i).toNat)
    case atStart => exact ⟨0, u, [], none, 0, Nat.zero_le _, by omega, rfl, rfl, rfl, Nat.le_refl _, World.ownsRow_nil _ _ _ _, Below.refl _ _, Hr.out⟩
    case round =>
      obtain ⟨k, at_, acc, a1, cap1, hkm, hat, rfl, rfl, rfl, hacc, hown, hbel, HE⟩ := hrel
      have hsz := hbel.size
      by_cases hlt : k < m
      · obtain ⟨a', ha', hrd'⟩ := hrd.subAt at_ n hat (Nat.le_refl _)
        rw [drop_bytes Hn.out] at hrd'
        have hrd2 := hrd'.below hbel (Nat.le_refl _)
        clear hrd'
        have hdl := hrd2.blenB
        have hu2 := getB_used (l.drop at_)
        rw [← hdl] at hu2
        clear hdl
        obtain ⟨x, u2, e, hx⟩ : ∃ x u e, getB (l.drop at_) = (x, u, e) := ⟨_, _, _, rfl⟩
        rw [hx] at hu2
        have hu3 := hu2.1
        clear hu2
        simp only at hu3
        have Hx2 := Lib.hid hx; clear hx
        by_cases he : e = 0
        · subst he
          have HE2 := Lib.hid (HE.out.trans ((congrArg (fun t => getEls getB l t at_ acc) (show m - k = (m - (k + 1)) + 1 from by omega)).trans (getEls_good Hx2.out)))
          go_wp2_with (first
            | (go_at_call 27; refine (refGetBytes_n Hx2.out hrd2).mono ?_; rintro e w1 ⟨rfl, rfl⟩)
            | (at_builtin; refine wpList_append_src rfl _ _ 23 23 rfl sl23 (.inl sl23.ht) rfl (hown.alloc _) rfl (Src.oneNew _ _ _ rfl) (by omega) (by unfold maxLen; omega) (by simp; omega) ?_; intro a3 cap3 w3 hown3 hgr3 _))
          have hb3 := below_grown (hbel.alloc hsz _) hgr3 (hown.alloc _) (Nat.le_refl _) (by simp; omega)
          go_roundw
          case rel => exact ⟨k + 1, at_ + u2, acc ++ [x], a3, cap3, by omega, by omega, by go_num, by go_num, by rw [List.length_append]; rfl, by rw [List.length_append]; simp; omega, by rw [List.length_append]; simpa [bstrVals] using hown3, hb3, HE2⟩
          case measure => simp [intOf]; omega
        · have HE2 := Lib.hid (HE.out.trans (getEls_bad Hx2.out (by omega) he))
          have heb : ((e : Int) == 0) = false := by simp; omega
          have heb2 : ((e : Int) != 0) = true := by simp; omega
          clear he
          go_wp2_with (go_at_call 27; refine (refGetBytes_n Hx2.out hrd2).mono ?_; rintro e w1 ⟨rfl, rfl⟩)
          go_ret3
          rw [HE2.out]
          exact ⟨none, 0, rfl, World.ownsRow_nil _ _ _ _, hbel⟩
      · have hkm2 : k = m := by omega
        have HE2 := Lib.hid (HE.out.trans (by rw [hkm2, Nat.sub_self, getEls]))
        clear hkm2
        go_wp2_with fail
        go_ret3
        rw [HE2.out]
        exact ⟨a1, cap1, rfl, hown, hbel⟩
  · have Hr := Lib.hid (Hg.out.trans (if_pos (by simpa using he))); clear Hg
    have heb : ((e : Int) == 0) = false := by simp; omega
    have heb2 : ((e : Int) != 0) = true := by simp; omega
    clear he
    go_enter Try.func32, Try.ntmps32
    go_wp2_with (go_at_call 44; refine (refLength_n (by omega) (by omega) Hx.out hrd).mono ?_; rintro e w1 ⟨rfl, rfl⟩)
    go_ret3
    rw [Hr.out]
    exact ⟨none, 0, rfl, World.ownsRow_nil _ _ _ _, Below.refl _ _⟩

set_option maxHeartbeats 400000 in
theorem getStrings_any (l : List UInt8) (a : Option Addr) (n cap : Nat) (w : World) (hrd : Rd w a n cap 1 (byteVals l)) (hn : n ≤ 1099511627776) :
    Calls Try.prog 31 #[.slice a n cap] w (RetL 9 1 (getL getB 1 l).1.length (bstrVals (getL getB 1 l).1) (getL getB 1 l).2.1 (getL getB 1 l).2.2 w) := by
  go_enter Try.func31, Try.ntmps31
  go_wp2_with (go_at_call 45; refine (getListStr_any l a n cap _ hrd hn).mono ?_; rintro e w1 ⟨a2, cap2, rfl, hown2, hb2⟩)
  go_ret3
  exact ⟨a2, cap2, rfl, hown2, hb2⟩
end Go.Proofs.Ytppmlhjpdmndoaa
