/-
  The walk of row.Encode. No condition.
-/
import Derived.Test.YtpgdfhncigmmbaaWWds
namespace Go.Proofs.Ytpgdfhncigmmbaa
open Go.RowKit

theorem fitsT_inv {T : Tab} {r : List Val} (h : fitsT T r = 0) : checkT T = 0 ∧ r.length = T.cols.length ∧ (∀ j, j < r.length → valErr T.cols r j = 0) ∧ ∀ j, j < T.chks.length → holdErr T.chks r j = 0 := by
  unfold fitsT at h
  by_cases h1 : checkT T = 0
  · rw [h1, if_neg (by decide)] at h
    by_cases h2 : r.length = T.cols.length
    · rw [if_neg (by simp [h2])] at h
      by_cases h3 : firstE (valErr T.cols r) r.length = 0
      · rw [h3, if_neg (by decide)] at h
        exact ⟨h1, h2, firstE_eq_zero h3, firstE_eq_zero h⟩
      · rw [if_pos h3] at h; exact absurd h h3
    · rw [if_pos h2] at h; cases h
  · rw [if_pos h1] at h; exact absurd h h1
theorem valErr_zero {cols : List Col} {r : List Val} {i : Nat} (h : valErr cols r i = 0) : OkV (r.getD i default) ∧ (nullB (r.getD i default) = true → (cols.getD i default).null = true) ∧ (nullB (r.getD i default) = false → (r.getD i default).kind = (cols.getD i default).kind) := by
  unfold OkV
  unfold valErr at h
  cases hn : nullB (r.getD i default) with
  | true =>
    refine ⟨by simp, fun _ => ?_, by simp⟩
    rw [hn] at h
    cases hc : (cols.getD i default).null with
    | true => rfl
    | false => rw [hc] at h; simp at h
  | false =>
    rw [hn] at h
    simp at h
    exact ⟨by simp [h.1], by simp, fun _ => h.2⟩
theorem fits_okR {T : Tab} {r : List Val} (h : fitsT T r = 0) : OkR r := by
  obtain ⟨_, _, h3, _⟩ := fitsT_inv h
  intro v hv
  obtain ⟨i, hi, rfl⟩ := List.mem_iff_getElem.1 hv
  rw [← getD_eq hi]
  exact (valErr_zero (h3 i hi)).1
theorem fits_len {T : Tab} {r : List Val} (h : fitsT T r = 0) : r.length = T.cols.length ∧ T.cols.length ≤ 8 ∧ 0 < T.cols.length := by
  obtain ⟨h1, h2, _, _⟩ := fitsT_inv h
  have := checkT_ok h1
  exact ⟨h2, this.cols8, this.cols0⟩
def encR (T : Tab) (r : List Val) : List Int := if fitsT T r = 0 then wordsR r else []
/-- A list of integers of the call's own, and an error. -/
def RetLE (L : List Int) (v : Int) (w : World) (e : Ending) (w' : World) : Prop := Below w.heap.size w w' ∧ ∃ a cap, e = .returned (.tuple #[.slice a L.length cap, .int .i64 v]) ∧ w'.ownsRow w.heap.size 3 1 (.slice a L.length cap) L.length (intVals L)
theorem fits_is {X : TabP} {r : List Val} {v : Int} (h : fitsT X.t r = v) {a : Option Addr} {n c : Nat} {w : World} (hX : TabRd w X) (hr : Rd w a n c 3 (recC Val.enc r)) : Calls Try.prog 30 #[.agg #[.string ⟨X.name.toArray⟩, .slice X.ca X.cols.length X.cc, .slice X.ia X.ixs.length X.ic, .slice X.ha X.chks.length X.hc], .slice a n c] w (RetV (.int .i64 v) w) := by
  subst h; exact fits_any X r a n c w hX hr

set_option maxRecDepth 20000 in
set_option maxHeartbeats 4000000 in
theorem encode_any (X : TabP) (r : List Val) (a : Option Addr) (n c : Nat) (w : World) (hX : TabRd w X) (hr : Rd w a n c 3 (recC Val.enc r)) : Calls Try.prog 12 #[X.v, .slice a n c] w (RetLE (encR X.t r) (fitsT X.t r) w) := by
  have hln := hr.rlen Val.enc_len (by omega)
  generalize hE : fitsT X.t r = E
  have HE := Box.mk hE
  clear hE
  have T1 := Box.mk (TabIn.start hX)
  have R1 := Box.mk (hr.alloc (.cells X.cs.toArray 26))
  clear hX hr
  unfold TabP.cs at T1 R1
  unfold TabP.v
  have u0 := T1.out.c0
  have u1 := T1.out.c1
  have u2 := T1.out.c2
  have u3 := T1.out.c3
  go_enter Try.func12, Try.ntmps12
  go_wp2_with fail
  generalize (w.alloc (.cells #[.string ⟨X.name.toArray⟩, .slice X.ca X.cols.length X.cc, .slice X.ia X.ixs.length X.ic, .slice X.ha X.chks.length X.hc] 26)) = W at *
  refine (fits_is HE.out T1.out.rd R1.out).mono ?_
  rintro e w2 ⟨rfl, hb⟩
  have T2 := Box.mk (T1.out.step hb)
  have R2 := Box.mk (R1.out.call0 hb)
  clear hb T1 R1 u0 u1 u2 u3
  by_cases h0 : E = 0
  · subst h0
    have hf := fits_len HE.out
    have hn : n ≤ 20 := by have h1 : r.length = X.cols.length := hf.1; have h2 : X.cols.length ≤ 8 := hf.2.1; omega
    have HK := Box.mk (fits_okR HE.out)
    clear hf
    go_wp2_with fail
    refine (words_any R2.out hn HK.out).mono ?_
    rintro e w3 ⟨hb3, a3, c3, rfl, hown⟩
    have H3 := Box.mk (And.intro (T2.out.below.trans (hb3.mono T2.out.below.size)) (own_base hown T2.out.below.size))
    clear hb3 hown
    go_wp2_with fail
    go_ret2
    unfold encR
    rw [if_pos HE.out]
    exact ⟨H3.out.1, a3, c3, rfl, H3.out.2⟩
  · have hb0 : (E != 0) = true := by simp [h0]
    go_wp2_with fail
    go_ret2
    unfold encR
    rw [if_neg (by rw [HE.out]; exact h0)]
    exact ⟨T2.out.below, none, 0, rfl, World.ownsRow_nil _ _ _ _⟩
end Go.Proofs.Ytpgdfhncigmmbaa
