/-
  The walk of wire.GetInt: it returns what the plain decoder returns. No condition.
-/
import Derived.Test.YtppmlhjpdmndoaaRows
import Derived.Test.YtppmlhjpdmndoaaMemB
import Derived.Test.YtppmlhjpdmndoaaDec2
namespace Go.Proofs.Ytppmlhjpdmndoaa
open Go.RowKit

theorem Rd.byteAt {w : World} {a : Option Addr} {cap : Nat} {l : List UInt8} (h : Rd w a l.length cap 1 (byteVals l)) (k : Nat) (hk : k < l.length) :
    ∃ b off, a = some ⟨b, off, none⟩ ∧ w.cell? ⟨b, off + k, none⟩ = some (.int .u8 ((l[k]).toNat : Int)) := by
  obtain ⟨b, off, ha, hc⟩ := h.at k hk
  refine ⟨b, off, ha, ?_⟩
  rw [hc k (by rw [byteVals_length]; exact hk)]
  simp [byteVals]

/-- A triple of results. -/
def Ret3 (r : Int × Nat × Nat) (w : World) (e : Ending) (w' : World) : Prop :=
  e = .returned (.tuple #[.int .i64 r.1, .int .i64 r.2.1, .int .i64 r.2.2]) ∧ w = w'

set_option maxRecDepth 20000 in
set_option maxHeartbeats 400000 in
theorem getInt_any (l : List UInt8) (a : Option Addr) (cap : Nat) (w : World) (hrd : Rd w a l.length cap 1 (byteVals l)) :
    Calls Try.prog 24 #[.slice a l.length cap] w (Ret3 (getI l) w) := by
  have hmax := hrd.lenMax
  go_enter Try.func24, Try.ntmps24
  go_wp2_with fail
  go_step3
  go_wp2_with fail
  go_step3
  go_wp2_with fail
  go_loop [5, 6, 11] (fun z u i => ∃ k : Nat, k ≤ l.length ∧ k ≤ 9 ∧ i = .int .i64 k ∧ u = .int .i64 0 ∧ z = .int .u64 (valN (l.take k)) ∧ Hid (getN 0 l = lift (l.take k) (getN k (l.drop k))))
    (fun _ _ i => (10 - intOf i).toNat)
  case atStart => exact ⟨0, Nat.zero_le _, by omega, rfl, rfl, rfl, getN_start l⟩
  case round =>
    obtain ⟨k, hk, hk9, rfl, rfl, rfl, HG⟩ := hrel
    by_cases hlt : k < l.length
    · obtain ⟨b, off, rfl, hc⟩ := hrd.byteAt k hlt
      have hc8 : (l[k]).toNat < 256 := (l[k]).toNat_lt
      have hv : valN (l.take k) < 128 ^ k := by have := valN_lt (l.take k); rwa [List.length_take, Nat.min_eq_left hk] at this
      have Hs := Lib.hid (valN_snoc (l.take k) l[k])
      rw [← List.take_succ_eq_append_getElem hlt, List.length_take, Nat.min_eq_left hk] at Hs
      have Hstep := Lib.hid (getN_step hlt)
      have Hlast := Lib.hid (getN_last hlt)
      have Hbad := Lib.hid (getN_bad hlt)
      rw [← HG.out] at Hstep Hlast Hbad
      generalize (l[k]).toNat = c at *
      generalize valN (l.take k) = z at *
      by_cases hb1 : 9 ≤ k
      · have hk9' : k = 9 := by omega
        by_cases hb2 : 1 < c
        · have Hr := Lib.hid (getI_err (by omega) (Hbad.out (.inl ⟨hk9', hb2⟩)))
          clear hv Hs Hstep Hlast Hbad hk9'
          go_wp2_with fail
          go_ret3
          exact ⟨by rw [Hr.out]; rfl, rfl⟩
        · by_cases hb3 : 0 < c
          · obtain ⟨z', hz', hz64, hor⟩ := or_digit hk9 hc8 (by omega) hv
            have Hr := Lib.hid (getI_of (Hlast.out (by omega) (by omega) (by omega)))
            rw [Hs.out, ← hz', hk9'] at Hr
            rw [hk9', show ((2 : Int) ^ (7 * 9)) = 9223372036854775808 from rfl] at hor
            have h1 := and1_word hz64
            have h2 := unzig_word2 hz64
            clear hv Hs Hstep Hlast Hbad hk9' hz'
            go_wp2_with fail
            go_ret3
            exact ⟨by rw [Hr.out]; rfl, rfl⟩
          · have Hr := Lib.hid (getI_err (by omega) (Hbad.out (.inr ⟨by omega, by omega⟩)))
            clear hv Hs Hstep Hlast Hbad hk9'
            go_wp2_with fail
            go_ret3
            exact ⟨by rw [Hr.out]; rfl, rfl⟩
      · by_cases hbad : 0 < k ∧ c = 0
        · have Hr := Lib.hid (getI_err (by omega) (Hbad.out (.inr hbad)))
          obtain ⟨hk0, hc0⟩ := hbad
          have hc0' : c < 1 := by omega
          clear hv Hs Hstep Hlast Hbad hc0
          go_wp2_with fail
          go_ret3
          exact ⟨by rw [Hr.out]; rfl, rfl⟩
        · have hpart : (0 < k ∧ 0 < c) ∨ k < 1 := by omega
          obtain ⟨z', hz', hz64, hor⟩ := or_digit hk9 hc8 (by omega) hv
          by_cases hb3 : c < 128
          · have Hr := Lib.hid (getI_of (Hlast.out (by omega) hbad hb3))
            rw [Hs.out, ← hz'] at Hr
            have h1 := and1_word hz64
            have h2 := unzig_word2 hz64
            clear hv Hs Hstep Hlast Hbad hz' hbad
            rcases hpart with ⟨hp1, hp2⟩ | hp1
            all_goals
              go_wp2_with fail
              go_ret3
              exact ⟨by rw [Hr.out]; rfl, rfl⟩
          · have Hr := Lib.hid (Hstep.out (by omega) hbad hb3)
            have Hs' := Lib.hid (Hs.out.trans hz'.symm)
            clear hv Hs Hstep Hlast Hbad hz' hbad
            rcases hpart with ⟨hp1, hp2⟩ | hp1
            all_goals
              go_wp2_with fail
              go_round
              case rel => exact ⟨k + 1, by omega, by omega, by go_num, rfl, by rw [Hs'.out], Hr⟩
              case measure => simp [intOf]; omega
    · have hkl : k = l.length := by omega
      have Hr := Lib.hid (getI_err (by omega) (HG.out.trans (getN_end (by omega))))
      clear hkl
      go_wp2_with fail
      go_ret3
      exact ⟨by rw [Hr.out]; rfl, rfl⟩
end Go.Proofs.Ytppmlhjpdmndoaa
