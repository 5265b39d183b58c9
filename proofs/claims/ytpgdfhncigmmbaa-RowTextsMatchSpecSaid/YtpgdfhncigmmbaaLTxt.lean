/-
  The walk of RowTextsMatchSpec. No condition.
-/
import Derived.Test.YtpgdfhncigmmbaaRTxt
import Derived.Test.YtpgdfhncigmmbaaSane
namespace Go.Proofs.Ytpgdfhncigmmbaa
open Go.RowKit

theorem unpack_is {l : List Int} {m : Int} {o : Option (List UInt8)} {s : List UInt8} {v : Int} (h : unpackT l m = o) (h1 : unpackS o = s) (h2 : unpackE o = v) {a : Option Addr} {n c : Nat} {w : World} (hr : Rd w a n c 1 (intVals l)) (hl : n ≤ 1000) (hm : m ≤ 9223372036854775807) : Calls Try.prog 21 #[.slice a n c, .int .i64 m] w (RetV (.tuple #[.string ⟨s.toArray⟩, .int .i64 v]) w) := by
  subst h; subst h1; subst h2; exact unpack_any hr hl hm
theorem runpack_is {l : List Int} {m : Int} {o : Option (List UInt8)} {s : List UInt8} {v : Int} (h : unpackT l m = o) (h1 : unpackS o = s) (h2 : unpackE o = v) {a : Option Addr} {n c : Nat} {w : World} (hr : Rd w a n c 1 (intVals l)) (hl : n ≤ 1000) (hm : m ≤ 9223372036854775807) : Calls Try.prog 22 #[.slice a n c, .int .i64 m] w (RetV (.tuple #[.string ⟨s.toArray⟩, .int .i64 v]) w) := by
  subst h; subst h1; subst h2; exact runpack_any hr hl hm
theorem rpack_is {s : List UInt8} {L : List Int} {m : Nat} (h : textW s = L) (h2 : L.length = m) (w : World) (hs : s.length ≤ 1000) : Calls Try.prog 23 #[.string ⟨s.toArray⟩] w (RetLm L m w) := by
  subst h; subst h2; exact rpack_any s w hs

set_option maxRecDepth 100000 in
set_option maxHeartbeats 8000000 in
theorem texts_walk {s : List UInt8} {l : List Int} {x : Int} {a : Option Addr} {n c : Nat} {w : World} (hr : Rd w a n c 1 (intVals l)) (hx : x ≤ 9223372036854775807) (hsl : s.length ≤ 9223372036854775807) : Calls Try.prog 4 #[.string ⟨s.toArray⟩, .slice a n c, .int .i64 x] w (RetV (.bool true) w) := by
  have hsz : (⟨s.toArray⟩ : ByteArray).size = s.length := str_size s
  have hln := hr.ilen
  have hnm := hr.lenMax
  have HR := Box.mk hr
  clear hr
  by_cases h200 : 200 < s.length
  · go_enter Try.func4, Try.ntmps4
    go_wp2_with fail
    refine (sanity_any w).mono ?_
    rintro e w2 ⟨rfl, hb2⟩
    go_wp2_with fail
    go_ret
    exact ⟨rfl, hb2⟩
  · by_cases h60 : 60 < n
    · go_enter Try.func4, Try.ntmps4
      go_wp2_with fail
      refine (sanity_any w).mono ?_
      rintro e w2 ⟨rfl, hb2⟩
      go_wp2_with fail
      go_ret
      exact ⟨rfl, hb2⟩
    · have hs2 : s.length ≤ 200 := by omega
      have hn2 : n ≤ 60 := by omega
      generalize hT : textW s = T
      obtain ⟨tm, htm⟩ : ∃ tm, T.length = tm := ⟨_, rfl⟩
      have HT := Box.mk (And.intro hT htm)
      have htb : tm ≤ 41 := by rw [← htm, ← hT, textW_length]; unfold nWords; omega
      generalize hO : unpackT l x = O
      obtain ⟨os, hos⟩ : ∃ os, unpackS O = os := ⟨_, rfl⟩
      obtain ⟨ov, hov⟩ : ∃ ov, unpackE O = ov := ⟨_, rfl⟩
      have HO := Box.mk (And.intro hO (And.intro hos hov))
      have HU := Box.mk (show unpackT (T ++ l) (s.length : Int) = some s from by
        unfold unpackT
        rw [if_neg (by omega), Int.toNat_natCast, ← hT, rdT_up]; rfl)
      clear hT htm hO hos hov h200 h60
      go_enter Try.func4, Try.ntmps4
      go_wp2_with fail
      refine (pack_is HT.out.1 HT.out.2 w (by omega)).mono ?_
      rintro e w2 ⟨hb2, a2, c2, rfl, hown2⟩
      have B2 := Box.mk hb2
      have R2 := Box.mk (Rd.ofOwn hown2)
      clear hb2 hown2
      go_wp2_with fail
      refine (unpack_is HO.out.1 HO.out.2.1 HO.out.2.2 (HR.out.below B2.out (Nat.le_refl _)) (by omega) hx).mono ?_
      rintro e w3 ⟨rfl, hb3⟩
      have B3 := Box.mk (B2.out.trans (hb3.mono B2.out.size))
      have R3 := Box.mk (R2.out.call0 hb3)
      clear hb3 B2 R2
      go_wp2_with fail
      refine (runpack_is HO.out.1 HO.out.2.1 HO.out.2.2 (HR.out.below B3.out (Nat.le_refl _)) (by omega) hx).mono ?_
      rintro e w4 ⟨rfl, hb4⟩
      have B4 := Box.mk (B3.out.trans (hb4.mono B3.out.size))
      have R4 := Box.mk (R3.out.call0 hb4)
      clear hb4 B3 R3
      have F4 := Box.mk R4.out.full
      have SRC := Box.mk (Src.ofRd (P := Try.prog) (HR.out.below B4.out (Nat.le_refl _)) (intVals_one _))
      have hcap := R4.out.hcap
      have hcmx := R4.out.hmax
      unfold maxLen at hcmx
      go_wp2_with (at_builtin; refine wpList_append_full rfl _ _ 29 29 rfl sl_int (.inl sl_int.ht) rfl F4.out rfl SRC.out (by omega) (by unfold maxLen; omega) ?_; intro a5 c5 w5 hrd5 hb5)
      have B5 := Box.mk (B4.out.trans (hb5.mono B4.out.size))
      have R5 := Box.mk (R4.out.call0 hb5)
      have A5 := Box.mk (show Rd w5 a5 (tm + n) c5 1 (intVals (T ++ l)) from by rw [show intVals (T ++ l) = intVals T ++ intVals l from by simp [intVals]]; exact hrd5)
      clear hb5 hrd5 B4 R4 F4 SRC hcap hcmx
      refine (unpack_is (s := s) (v := 0) HU.out rfl rfl A5.out (by omega) (by omega)).mono ?_
      rintro e w6 ⟨rfl, hb6⟩
      have B6 := Box.mk (B5.out.trans (hb6.mono B5.out.size))
      have R6 := Box.mk (R5.out.call0 hb6)
      clear hb6 B5 R5 A5
      go_wp2_with fail
      refine (sanity_any w6).mono ?_
      rintro e w7 ⟨rfl, hb7⟩
      have B7 := Box.mk (B6.out.trans (hb7.mono B6.out.size))
      have R7 := Box.mk (R6.out.call0 hb7)
      clear hb7 B6 R6
      go_wp2_with fail
      refine (rpack_is HT.out.1 HT.out.2 w7 (by omega)).mono ?_
      rintro e w8 ⟨hb8, a8, c8, rfl, hown8⟩
      have B8 := Box.mk (B7.out.trans (hb8.mono B7.out.size))
      have R8 := Box.mk (R7.out.call0 hb8)
      have S8 := Box.mk (Rd.ofOwn hown8)
      clear hb8 hown8 B7 R7
      go_wp2_with fail
      refine (same_is (d := true) (l := T) (m := T) (by simp) R8.out S8.out).mono ?_
      rintro e w9 ⟨rfl, q9, rfl⟩
      have B9 := Box.mk (below_drewN B8.out q9)
      have t1 : (os == os) = true := by simp
      have t2 : (s == s) = true := by simp
      have t3 : (ov == ov) = true := by simp
      go_wp2_with fail
      go_ret
      exact ⟨by first | rfl | simp, B9.out⟩
theorem texts_walkS {s : ByteArray} {l : List Int} {x : Int} {a : Option Addr} {n c : Nat} {w : World} (hr : Rd w a n c 1 (intVals l)) (hx : x ≤ 9223372036854775807) (hs : s.size ≤ maxLen) : Calls Try.prog 4 #[.string s, .slice a n c, .int .i64 x] w (RetV (.bool true) w) := by
  have h := texts_walk (s := s.data.toList) hr hx (by
    have h1 : s.data.toList.length = s.size := by rw [Array.length_toList]; rfl
    rw [h1]; unfold maxLen at hs; omega)
  rw [str_back] at h
  exact h
end Go.Proofs.Ytpgdfhncigmmbaa
