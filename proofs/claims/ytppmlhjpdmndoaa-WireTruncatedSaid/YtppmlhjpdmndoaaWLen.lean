/-
  The walks of length and GetBytes, program and reference. No condition.
-/
import Derived.Test.YtppmlhjpdmndoaaWRefGet
import Derived.Test.YtppmlhjpdmndoaaMemC
import Derived.Test.YtppmlhjpdmndoaaDec3
import Derived.Test.YtppmlhjpdmndoaaWInt
namespace Go.Proofs.Ytppmlhjpdmndoaa
open Go.RowKit

theorem Rd.blenB {w : World} {a : Option Addr} {n cap : Nat} {l : List UInt8} (h : Rd w a n cap 1 (byteVals l)) : n = l.length := by
  have := h.hlen; rw [byteVals_length] at this; omega

theorem getInt_n {l : List UInt8} {a : Option Addr} {n cap : Nat} {w : World} {x : Int} {u e : Nat} (hx : getI l = (x, u, e)) (hrd : Rd w a n cap 1 (byteVals l)) :
    Calls Try.prog 24 #[.slice a n cap] w fun en w' => en = .returned (.tuple #[.int .i64 x, .int .i64 u, .int .i64 e]) ∧ w = w' := by
  obtain rfl := hrd.blenB
  have := getInt_any l a cap w hrd
  rw [hx] at this; exact this

theorem refGetInt_n {l : List UInt8} {a : Option Addr} {n cap : Nat} {w : World} {x : Int} {u e : Nat} (hx : getI l = (x, u, e)) (hrd : Rd w a n cap 1 (byteVals l)) :
    Calls Try.prog 25 #[.slice a n cap] w fun en w' => en = .returned (.tuple #[.int .i64 x, .int .i64 u, .int .i64 e]) ∧ w = w' := by
  obtain rfl := hrd.blenB
  have := refGetInt_any l a cap w hrd
  rw [hx] at this; exact this

set_option maxRecDepth 20000 in
set_option maxHeartbeats 2000000 in
theorem length_any (l : List UInt8) (a : Option Addr) (n cap : Nat) (least : Int) (w : World) (h1 : 1 ≤ least) (h2 : least ≤ 1000) (hrd : Rd w a n cap 1 (byteVals l)) :
    Calls Try.prog 42 #[.slice a n cap, .int .i64 least] w (Ret3 (getLen l least) w) := by
  have hmax := hrd.lenMax
  have Hn := Lib.hid hrd.blenB
  have hu := getI_used l
  have Hg := Lib.hid (getLen_eq l least)
  rw [← Hn.out] at hu Hg
  obtain ⟨x, u, e, hx⟩ : ∃ x u e, getI l = (x, u, e) := ⟨_, _, _, rfl⟩
  rw [hx] at hu Hg
  simp only at hu
  have hu1 := hu.1
  clear hu
  have Hx := Lib.hid hx; clear hx
  by_cases he : e = 0
  · subst he
    by_cases hx0 : x < 0
    · have Hr := Lib.hid (Hg.out.trans (by rw [if_neg (by simp), if_pos hx0])); clear Hg
      go_enter Try.func42, Try.ntmps42
      go_wp2_with (go_at_call 24; refine (getInt_n Hx.out hrd).mono ?_; rintro e w1 ⟨rfl, rfl⟩)
      go_ret3
      exact ⟨by rw [Hr.out]; rfl, rfl⟩
    · by_cases hq : ((n : Int) - u) / least < x
      · have Hr := Lib.hid (Hg.out.trans (by rw [if_neg (by simp), if_neg hx0, if_pos hq])); clear Hg
        go_enter Try.func42, Try.ntmps42
        go_wp2_with (go_at_call 24; refine (getInt_n Hx.out hrd).mono ?_; rintro e w1 ⟨rfl, rfl⟩)
        go_ret3
        exact ⟨by rw [Hr.out]; rfl, rfl⟩
      · have Hr := Lib.hid (Hg.out.trans (by rw [if_neg (by simp), if_neg hx0, if_neg hq])); clear Hg
        go_enter Try.func42, Try.ntmps42
        go_wp2_with (go_at_call 24; refine (getInt_n Hx.out hrd).mono ?_; rintro e w1 ⟨rfl, rfl⟩)
        go_ret3
        exact ⟨by rw [Hr.out]; rfl, rfl⟩
  · have Hr := Lib.hid (Hg.out.trans (if_pos (by simpa using he))); clear Hg
    have heb : ((e : Int) == 0) = false := by simp; omega
    have heb2 : ((e : Int) != 0) = true := by simp; omega
    clear he
    go_enter Try.func42, Try.ntmps42
    go_wp2_with (go_at_call 24; refine (getInt_n Hx.out hrd).mono ?_; rintro e w1 ⟨rfl, rfl⟩)
    go_ret3
    exact ⟨by rw [Hr.out]; rfl, rfl⟩
set_option maxRecDepth 20000 in
set_option maxHeartbeats 2000000 in
theorem refLength_any (l : List UInt8) (a : Option Addr) (n cap : Nat) (least : Int) (w : World) (h1 : 1 ≤ least) (h2 : least ≤ 1000) (hrd : Rd w a n cap 1 (byteVals l)) :
    Calls Try.prog 44 #[.slice a n cap, .int .i64 least] w (Ret3 (getLen l least) w) := by
  have hmax := hrd.lenMax
  have Hn := Lib.hid hrd.blenB
  have hu := getI_used l
  have Hg := Lib.hid (getLen_eq l least)
  rw [← Hn.out] at hu Hg
  obtain ⟨x, u, e, hx⟩ : ∃ x u e, getI l = (x, u, e) := ⟨_, _, _, rfl⟩
  rw [hx] at hu Hg
  simp only at hu
  have hu1 := hu.1
  clear hu
  have Hx := Lib.hid hx; clear hx
  by_cases he : e = 0
  · subst he
    by_cases hx0 : x < 0
    · have Hr := Lib.hid (Hg.out.trans (by rw [if_neg (by simp), if_pos hx0])); clear Hg
      go_enter Try.func44, Try.ntmps44
      go_wp2_with (go_at_call 25; refine (refGetInt_n Hx.out hrd).mono ?_; rintro e w1 ⟨rfl, rfl⟩)
      go_ret3
      exact ⟨by rw [Hr.out]; rfl, rfl⟩
    · by_cases hq : ((n : Int) - u) / least < x
      · have Hr := Lib.hid (Hg.out.trans (by rw [if_neg (by simp), if_neg hx0, if_pos hq])); clear Hg
        go_enter Try.func44, Try.ntmps44
        go_wp2_with (go_at_call 25; refine (refGetInt_n Hx.out hrd).mono ?_; rintro e w1 ⟨rfl, rfl⟩)
        go_ret3
        exact ⟨by rw [Hr.out]; rfl, rfl⟩
      · have Hr := Lib.hid (Hg.out.trans (by rw [if_neg (by simp), if_neg hx0, if_neg hq])); clear Hg
        go_enter Try.func44, Try.ntmps44
        go_wp2_with (go_at_call 25; refine (refGetInt_n Hx.out hrd).mono ?_; rintro e w1 ⟨rfl, rfl⟩)
        go_ret3
        exact ⟨by rw [Hr.out]; rfl, rfl⟩
  · have Hr := Lib.hid (Hg.out.trans (if_pos (by simpa using he))); clear Hg
    have heb : ((e : Int) == 0) = false := by simp; omega
    have heb2 : ((e : Int) != 0) = true := by simp; omega
    clear he
    go_enter Try.func44, Try.ntmps44
    go_wp2_with (go_at_call 25; refine (refGetInt_n Hx.out hrd).mono ?_; rintro e w1 ⟨rfl, rfl⟩)
    go_ret3
    exact ⟨by rw [Hr.out]; rfl, rfl⟩

theorem length_n {l : List UInt8} {a : Option Addr} {n cap : Nat} {least : Int} {w : World} {x : Int} {u e : Nat} (h1 : 1 ≤ least) (h2 : least ≤ 1000) (hx : getLen l least = (x, u, e)) (hrd : Rd w a n cap 1 (byteVals l)) :
    Calls Try.prog 42 #[.slice a n cap, .int .i64 least] w fun en w' => en = .returned (.tuple #[.int .i64 x, .int .i64 u, .int .i64 e]) ∧ w = w' := by
  have := length_any l a n cap least w h1 h2 hrd
  rw [hx] at this; exact this

theorem refLength_n {l : List UInt8} {a : Option Addr} {n cap : Nat} {least : Int} {w : World} {x : Int} {u e : Nat} (h1 : 1 ≤ least) (h2 : least ≤ 1000) (hx : getLen l least = (x, u, e)) (hrd : Rd w a n cap 1 (byteVals l)) :
    Calls Try.prog 44 #[.slice a n cap, .int .i64 least] w fun en w' => en = .returned (.tuple #[.int .i64 x, .int .i64 u, .int .i64 e]) ∧ w = w' := by
  have := refLength_any l a n cap least w h1 h2 hrd
  rw [hx] at this; exact this

/-- A byte string, a place and an error. -/
def RetS (r : List UInt8 × Nat × Nat) (w : World) (e : Ending) (w' : World) : Prop :=
  e = .returned (.tuple #[.string ⟨r.1.toArray⟩, .int .i64 r.2.1, .int .i64 r.2.2]) ∧ w = w'

theorem drop_take_bytes (l : List UInt8) (u k : Nat) : ((byteVals l).drop u).take k = byteVals ((l.drop u).take k) := by
  simp [byteVals, List.map_drop, List.map_take]

set_option maxRecDepth 20000 in
set_option maxHeartbeats 2000000 in
theorem getBytes_any (l : List UInt8) (a : Option Addr) (n cap : Nat) (w : World) (hrd : Rd w a n cap 1 (byteVals l)) :
    Calls Try.prog 26 #[.slice a n cap] w (RetS (getB l) w) := by
  have hmax := hrd.lenMax
  have hcap := hrd.hcap
  have Hn := Lib.hid hrd.blenB
  have hk := getLen_ok (l := l) (least := 1) (by omega)
  have Hg := Lib.hid (show getB l = (if (getLen l 1).2.2 ≠ 0 then ([], 0, (getLen l 1).2.2) else ((l.drop (getLen l 1).2.1).take (getLen l 1).1.toNat, (getLen l 1).2.1 + (getLen l 1).1.toNat, 0)) from rfl)
  obtain ⟨x, u, e, hx⟩ : ∃ x u e, getLen l 1 = (x, u, e) := ⟨_, _, _, rfl⟩
  rw [hx] at hk Hg
  rw [← Hn.out] at hk
  simp only at hk
  have Hx := Lib.hid hx; clear hx
  have Hk := Lib.hid hk; clear hk
  by_cases he : e = 0
  · subst he
    obtain ⟨q1, _, q2, q3⟩ := Hk.out rfl
    rw [← q1] at q2 q3
    clear q1 Hk
    have Hr := Lib.hid (Hg.out.trans (if_neg (by simp))); clear Hg
    obtain ⟨m, rfl⟩ := Int.eq_ofNat_of_zero_le q2
    simp only [Int.toNat_natCast] at Hr
    simp only [Int.mul_one] at q3
    have hsum : u + m ≤ n := by omega
    clear q2 q3
    obtain ⟨a', ha', hrd'⟩ := hrd.subAt u (u + m) (by omega) hsum
    rw [drop_take_bytes, Nat.add_sub_cancel_left] at hrd'
    have hs := run_string_rd (P := Try.prog) (src := 28) (dst := 9) (e := 5) (by kernel_rfl) (by kernel_rfl) (by kernel_rfl) hrd'
    go_enter Try.func26, Try.ntmps26
    go_wp2_with (go_at_call 42; refine (length_n (by omega) (by omega) Hx.out hrd).mono ?_; rintro e w1 ⟨rfl, rfl⟩)
    go_ret3
    exact ⟨by rw [Hr.out]; first | rfl | (congr 4 <;> omega), rfl⟩
  · have Hr := Lib.hid (Hg.out.trans (if_pos (by simpa using he))); clear Hg
    have heb : ((e : Int) == 0) = false := by simp; omega
    have heb2 : ((e : Int) != 0) = true := by simp; omega
    clear he
    go_enter Try.func26, Try.ntmps26
    go_wp2_with (go_at_call 42; refine (length_n (by omega) (by omega) Hx.out hrd).mono ?_; rintro e w1 ⟨rfl, rfl⟩)
    go_ret3
    exact ⟨by rw [Hr.out]; rfl, rfl⟩

set_option maxRecDepth 20000 in
set_option maxHeartbeats 2000000 in
theorem refGetBytes_any (l : List UInt8) (a : Option Addr) (n cap : Nat) (w : World) (hrd : Rd w a n cap 1 (byteVals l)) :
    Calls Try.prog 27 #[.slice a n cap] w (RetS (getB l) w) := by
  have hmax := hrd.lenMax
  have hcap := hrd.hcap
  have Hn := Lib.hid hrd.blenB
  have hu := getI_used l
  have Hg := Lib.hid (show getB l = (if (getLen l 1).2.2 ≠ 0 then ([], 0, (getLen l 1).2.2) else ((l.drop (getLen l 1).2.1).take (getLen l 1).1.toNat, (getLen l 1).2.1 + (getLen l 1).1.toNat, 0)) from rfl)
  have hL := getLen_eq l 1
  rw [← Hn.out, Int.ediv_one] at hL
  obtain ⟨x, u, e, hx⟩ : ∃ x u e, getI l = (x, u, e) := ⟨_, _, _, rfl⟩
  rw [hx] at hL hu
  simp only at hL hu
  rw [← Hn.out] at hu
  have hu1 := hu.1
  clear hu
  have Hx := Lib.hid hx; clear hx
  by_cases he : e = 0
  · subst he
    rw [if_neg (by simp)] at hL
    by_cases hx0 : x < 0
    · rw [if_pos hx0] at hL
      have Hr := Lib.hid (Hg.out.trans (by rw [hL, if_pos (by simp)])); clear Hg hL
      go_enter Try.func27, Try.ntmps27
      go_wp2_with (go_at_call 25; refine (refGetInt_n Hx.out hrd).mono ?_; rintro e w1 ⟨rfl, rfl⟩)
      go_ret3
      exact ⟨by rw [Hr.out]; rfl, rfl⟩
    · rw [if_neg hx0] at hL
      by_cases hq : ((n : Int) - u) < x
      · rw [if_pos hq] at hL
        have Hr := Lib.hid (Hg.out.trans (by rw [hL, if_pos (by simp)])); clear Hg hL
        go_enter Try.func27, Try.ntmps27
        go_wp2_with (go_at_call 25; refine (refGetInt_n Hx.out hrd).mono ?_; rintro e w1 ⟨rfl, rfl⟩)
        go_ret3
        exact ⟨by rw [Hr.out]; rfl, rfl⟩
      · rw [if_neg hq] at hL
        have Hr := Lib.hid (Hg.out.trans (by rw [hL, if_neg (by simp)])); clear Hg hL
        obtain ⟨m, rfl⟩ := Int.eq_ofNat_of_zero_le (show 0 ≤ x by omega)
        simp only [Int.toNat_natCast] at Hr
        have hsum : u + m ≤ n := by omega
        clear hq hx0
        go_enter Try.func27, Try.ntmps27
        obtain ⟨a', ha', hrd'⟩ := hrd.subAt u (u + m) (by omega) hsum
        rw [drop_take_bytes, Nat.add_sub_cancel_left] at hrd'
        have hs := run_string_rd (P := Try.prog) (src := 28) (dst := 9) (e := 5) (by kernel_rfl) (by kernel_rfl) (by kernel_rfl) hrd'
        go_wp2_with (go_at_call 25; refine (refGetInt_n Hx.out hrd).mono ?_; rintro e w1 ⟨rfl, rfl⟩)
        go_ret3
        exact ⟨by rw [Hr.out]; first | rfl | (congr 4 <;> omega), rfl⟩
  · rw [if_pos (by simpa using he)] at hL
    have Hr := Lib.hid (Hg.out.trans (by rw [hL, if_pos (by simpa using he)])); clear Hg hL
    have heb : ((e : Int) == 0) = false := by simp; omega
    have heb2 : ((e : Int) != 0) = true := by simp; omega
    clear he
    go_enter Try.func27, Try.ntmps27
    go_wp2_with (go_at_call 25; refine (refGetInt_n Hx.out hrd).mono ?_; rintro e w1 ⟨rfl, rfl⟩)
    go_ret3
    exact ⟨by rw [Hr.out]; rfl, rfl⟩
end Go.Proofs.Ytppmlhjpdmndoaa
