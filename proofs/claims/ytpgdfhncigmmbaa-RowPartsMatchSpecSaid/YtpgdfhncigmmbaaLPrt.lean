/-
  The walk of RowPartsMatchSpec. No condition.
-/
import Derived.Test.YtpgdfhncigmmbaaRUpd
import Derived.Test.YtpgdfhncigmmbaaLUpd
namespace Go.Proofs.Ytpgdfhncigmmbaa
open Go.RowKit

theorem rprojm_is {r : List Val} {cols : List Int} {L : List Val} {m' : Nat} {e : Int} (h1 : projR r cols = L) (h2 : projE r cols = e) (h3 : L.length = m') {a b : Option Addr} {n c m d : Nat} {w : World} (hr : Rd w a n c 3 (recC Val.enc r)) (hc : Rd w b m d 1 (intVals cols)) (hm : m ≤ 1000) : Calls Try.prog 25 #[.slice a n c, .slice b m d] w (RetREm L m' e w) := by
  subst h1; subst h2; subst h3; exact rproject_any hr hc hm
theorem rupdate_is {X : TabP} {r vals : List Val} {cols : List Int} {L : List Val} {k : Nat} {e : Int} (h1 : updR X.t r cols vals = L) (h2 : updE X.t r cols vals = e) (hk : L.length = k) {a b v : Option Addr} {n c m d p q : Nat} {w : World} (hX : TabRd w X) (hr : Rd w a n c 3 (recC Val.enc r)) (hc : Rd w b m d 1 (intVals cols)) (hv : Rd w v p q 3 (recC Val.enc vals)) (hn : n ≤ 1000) (hm : m ≤ 1000) :
    Calls Try.prog 27 #[.agg #[.string ⟨X.name.toArray⟩, .slice X.ca X.cols.length X.cc, .slice X.ia X.ixs.length X.ic, .slice X.ha X.chks.length X.hc], .slice a n c, .slice b m d, .slice v p q] w (RetREm L k e w) := by
  subst h1; subst h2; subst hk; exact rupdate_any X hX hr hc hv hn hm
theorem rdiffm_is {x y : List Val} {L : List Int} {m' : Nat} (h : diffR x y = L) (h2 : L.length = m') {a b : Option Addr} {n c m d : Nat} {w : World} (ha : Rd w a n c 3 (recC Val.enc x)) (hb : Rd w b m d 3 (recC Val.enc y)) (hn : n ≤ 1000) (hm : m ≤ 1000) : Calls Try.prog 29 #[.slice a n c, .slice b m d] w (RetLm L m' w) := by
  subst h; subst h2; exact rdiff_any ha hb hn hm

/-- What the statement keeps: the table, and up to four rows. -/
structure PSt (w wr : World) (X : TabP) (p1 p2 : List Val) (a1 a2 : Option Addr) (n1 c1 c2 : Nat) : Prop where
  t : TabIn w wr w.heap.size X
  x : Rd wr a1 n1 c1 3 (recC Val.enc p1)
  y : Rd wr a2 n1 c2 3 (recC Val.enc p2)
theorem PSt.step {w wr w' : World} {X : TabP} {p1 p2 : List Val} {a1 a2 : Option Addr} {n1 c1 c2 : Nat} (h : PSt w wr X p1 p2 a1 a2 n1 c1 c2) (hb : Below wr.heap.size wr w') : PSt w w' X p1 p2 a1 a2 n1 c1 c2 := ⟨h.t.step hb, h.x.call0 hb, h.y.call0 hb⟩

set_option maxRecDepth 100000 in
set_option maxHeartbeats 8000000 in
theorem parts_walk {X : TabP} {r vals : List Val} {cols : List Int} {a b v : Option Addr} {n c m d p q : Nat} {w : World} (hX : TabRd w X) (hr : Rd w a n c 3 (recC Val.enc r)) (hv : Rd w v p q 3 (recC Val.enc vals)) (hc : Rd w b m d 1 (intVals cols)) : Calls Try.prog 7 #[X.v, .slice a n c, .slice v p q, .slice b m d] w (RetV (.bool true) w) := by
  have hln := hr.rlen Val.enc_len (by omega)
  have hlm := hc.ilen
  have hlp := hv.rlen Val.enc_len (by omega)
  have hnm := hr.lenMax
  have hmm := hc.lenMax
  have hpm := hv.lenMax
  have T1 := Box.mk (TabIn.start hX)
  have HR := Box.mk hr
  have HC := Box.mk hc
  have HV' := Box.mk hv
  clear hX hr hc hv
  unfold TabP.cs at T1
  unfold TabP.v
  have u0 := T1.out.c0
  have u1 := T1.out.c1
  have u2 := T1.out.c2
  have u3 := T1.out.c3
  generalize hV : validT X.t [⟨a, c, r⟩, ⟨v, q, vals⟩] = dd
  have HV := Box.mk hV
  clear hV
  go_enter Try.func7, Try.ntmps7
  go_upto_region 1 with fail
  generalize (w.alloc (.cells #[.string ⟨X.name.toArray⟩, .slice X.ca X.cols.length X.cc, .slice X.ia X.ixs.length X.ic, .slice X.ha X.chks.length X.hc] 26)) = W at *
  have T2 := Box.mk (T1.out.alloc (.cells #[.slice a n c, .slice v p q] 28))
  have R2 := Box.mk (Blk.new (w := W) (k := W.heap.size) (ty := 28) (cs := [.slice a n c, .slice v p q]) rfl rfl)
  clear T1
  go_wp2_with fail
  clear u0 u1 u2 u3
  generalize (W.alloc (.cells #[.slice a n c, .slice v p q] 28)) = w2 at *
  refine (valid2_is HV.out T2.out.rd (HR.out.below T2.out.below (Nat.le_refl _)) (HV'.out.below T2.out.below (Nat.le_refl _)) R2.out).mono ?_
  rintro e w3 ⟨rfl, hb3⟩
  have T3 := Box.mk (T2.out.step hb3)
  clear hb3 T2 R2
  cases dd with
  | false =>
    go_wp2_with fail
    refine (sanity_any w3).mono ?_
    rintro e w4 ⟨rfl, hb4⟩
    have T4 := Box.mk (T3.out.step hb4)
    clear hb4
    go_wp2_with fail
    go_ret
    exact ⟨rfl, T4.out.below⟩
  | true =>
    obtain ⟨_, hck, hrt⟩ := validT_true HV.out
    obtain ⟨_, h20⟩ := rightB_true (hrt ⟨a, c, r⟩ (by simp))
    obtain ⟨_, h202⟩ := rightB_true (hrt ⟨v, q, vals⟩ (by simp))
    have hn20 : n ≤ 20 := by rw [← hln]; exact h20
    have hp20 : p ≤ 20 := by rw [← hlp]; exact h202
    clear hck hrt h20 h202
    by_cases hm20 : 20 < m
    · go_wp2_with fail
      refine (sanity_any w3).mono ?_
      rintro e w4 ⟨rfl, hb4⟩
      have T4 := Box.mk (T3.out.step hb4)
      clear hb4
      go_wp2_with fail
      go_ret
      exact ⟨rfl, T4.out.below⟩
    · have hm20' : m ≤ 20 := by omega
      generalize hP : projR r cols = P
      generalize hE : projE r cols = E
      obtain ⟨pm, hpm'⟩ : ∃ pm, P.length = pm := ⟨_, rfl⟩
      have HPN := Box.mk (And.intro hP (And.intro hE hpm'))
      have hpb : pm ≤ 1000 := by
        rw [← hpm', ← hP]
        have h1 : (projR r cols).length ≤ cols.length := by
          unfold projR
          split
          · exact Nat.le_of_eq (by unfold projL; simp)
          · simp
        omega
      clear hP hE hpm'
      generalize hL : updR X.t r cols vals = L
      generalize hF : updE X.t r cols vals = F
      obtain ⟨lm, hlm'⟩ : ∃ lm, L.length = lm := ⟨_, rfl⟩
      have HEN := Box.mk (And.intro hL (And.intro hF hlm'))
      have hlb : lm ≤ 1000 := by
        rw [← hlm', ← hL]
        have h1 : (updR X.t r cols vals).length ≤ r.length := by
          unfold updR
          split
          · exact Nat.le_of_eq (updUp_len _ _ _ _)
          · simp
        omega
      clear hL hF hlm'
      generalize hD : diffR r vals = D
      obtain ⟨nd, hnd⟩ : ∃ nd, D.length = nd := ⟨_, rfl⟩
      have HDD := Box.mk (And.intro hD hnd)
      clear hD hnd
      go_wp2_with fail
      refine (project_is HPN.out.1 HPN.out.2.1 HPN.out.2.2 (HR.out.below T3.out.below (Nat.le_refl _)) (HC.out.below T3.out.below (Nat.le_refl _)) (by omega)).mono ?_
      rintro e w4 ⟨hb4, a4, c4, rfl, hown4⟩
      have T4 := Box.mk (T3.out.step hb4)
      have R4 := Box.mk (Rd.ofOwn hown4)
      clear hb4 hown4 T3
      go_wp2_with fail
      refine (rprojm_is HPN.out.1 HPN.out.2.1 HPN.out.2.2 (HR.out.below T4.out.below (Nat.le_refl _)) (HC.out.below T4.out.below (Nat.le_refl _)) (by omega)).mono ?_
      rintro e w5 ⟨hb5, a5, c5, rfl, hown5⟩
      have U5 := Box.mk (PSt.mk (T4.out.step hb5) (R4.out.call0 hb5) (Rd.ofOwn hown5))
      clear hb5 hown5 T4 R4
      have u0 := U5.out.t.c0
      have u1 := U5.out.t.c1
      have u2 := U5.out.t.c2
      have u3 := U5.out.t.c3
      go_wp2_with fail
      refine (update_is HEN.out.1 HEN.out.2.1 HEN.out.2.2 U5.out.t.rd (HR.out.below U5.out.t.below (Nat.le_refl _)) (HC.out.below U5.out.t.below (Nat.le_refl _)) (HV'.out.below U5.out.t.below (Nat.le_refl _)) (by omega) (by omega)).mono ?_
      rintro e w6 ⟨hb6, a6, c6, rfl, hown6⟩
      have U6 := Box.mk (And.intro (U5.out.step hb6) (Rd.ofOwn hown6))
      clear hb6 hown6 U5 u0 u1 u2 u3
      have u0 := U6.out.1.t.c0
      have u1 := U6.out.1.t.c1
      have u2 := U6.out.1.t.c2
      have u3 := U6.out.1.t.c3
      go_wp2_with fail
      refine (rupdate_is HEN.out.1 HEN.out.2.1 HEN.out.2.2 U6.out.1.t.rd (HR.out.below U6.out.1.t.below (Nat.le_refl _)) (HC.out.below U6.out.1.t.below (Nat.le_refl _)) (HV'.out.below U6.out.1.t.below (Nat.le_refl _)) (by omega) (by omega)).mono ?_
      rintro e w7 ⟨hb7, a7, c7, rfl, hown7⟩
      have U7 := Box.mk (And.intro (U6.out.1.step hb7) (And.intro (U6.out.2.call0 hb7) (Rd.ofOwn hown7)))
      clear hb7 hown7 U6 u0 u1 u2 u3
      go_wp2_with fail
      refine (sanity_any w7).mono ?_
      rintro e w8 ⟨rfl, hb8⟩
      have U8 := Box.mk (And.intro (U7.out.1.step hb8) (And.intro (U7.out.2.1.call0 hb8) (U7.out.2.2.call0 hb8)))
      clear hb8 U7
      go_wp2_with fail
      refine (rsame_is (d := true) (x := P) (y := P) (by simp) U8.out.1.x U8.out.1.y (by omega) (by omega)).mono ?_
      rintro e w9 ⟨rfl, hb9⟩
      have U9 := Box.mk (And.intro (U8.out.1.t.step hb9) (And.intro (U8.out.2.1.call0 hb9) (U8.out.2.2.call0 hb9)))
      clear hb9 U8
      have tE : (E == E) = true := by simp
      have tF : (F == F) = true := by simp
      go_wp2_with fail
      refine (rsame_is (d := true) (x := L) (y := L) (by simp) U9.out.2.1 U9.out.2.2 (by omega) (by omega)).mono ?_
      rintro e w10 ⟨rfl, hb10⟩
      have T10 := Box.mk (U9.out.1.step hb10)
      clear hb10 U9
      go_wp2_with fail
      refine (diff_is HDD.out.1 HDD.out.2 (HR.out.below T10.out.below (Nat.le_refl _)) (HV'.out.below T10.out.below (Nat.le_refl _)) (by omega) (by omega)).mono ?_
      rintro e w11 ⟨hb11, a11, c11, rfl, hown11⟩
      have T11 := Box.mk (T10.out.step hb11)
      have R11 := Box.mk (Rd.ofOwn hown11)
      clear hb11 hown11 T10
      go_wp2_with fail
      refine (rdiffm_is HDD.out.1 HDD.out.2 (HR.out.below T11.out.below (Nat.le_refl _)) (HV'.out.below T11.out.below (Nat.le_refl _)) (by omega) (by omega)).mono ?_
      rintro e w12 ⟨hb12, a12, c12, rfl, hown12⟩
      have T12 := Box.mk (T11.out.step hb12)
      have R12 := Box.mk (R11.out.call0 hb12)
      have S12 := Box.mk (Rd.ofOwn hown12)
      clear hb12 hown12 T11 R11
      go_wp2_with fail
      refine (same_is (d := true) (l := D) (m := D) (by simp) R12.out S12.out).mono ?_
      rintro e w13 ⟨rfl, q13, rfl⟩
      have B13 := Box.mk (below_drewN T12.out.below q13)
      go_wp2_with fail
      go_ret
      exact ⟨by first | rfl | simp, B13.out⟩
end Go.Proofs.Ytpgdfhncigmmbaa
