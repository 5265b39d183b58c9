/-
  The walk of RowMatchesSpec. No condition.
-/
import Derived.Test.YtpgdfhncigmmbaaRDec
import Derived.Test.YtpgdfhncigmmbaaLUpd
namespace Go.Proofs.Ytpgdfhncigmmbaa
open Go.RowKit

theorem rdecode_is {X : TabP} {l : List Int} {o : Option (List Val × Nat)} {V : List Val} {m N : Nat} {E : Int} (h : decT X.t l = o) (h1 : decV o = V) (h2 : decN o = N) (h3 : decE o = E) (h4 : V.length = m) {a : Option Addr} {n c : Nat} {w : World} (hX : TabRd w X) (hr : Rd w a n c 1 (intVals l)) (hn : n ≤ 1000) (hc : X.cols.length ≤ 8) : Calls Try.prog 15 #[.agg #[.string ⟨X.name.toArray⟩, .slice X.ca X.cols.length X.cc, .slice X.ia X.ixs.length X.ic, .slice X.ha X.chks.length X.hc], .slice a n c] w (RetDm V m N E w) := by
  subst h; subst h1; subst h2; subst h3; subst h4; exact rdecode_any X l a n c w hX hr hn hc
theorem decV_len {T : Tab} {l : List Int} {o : Option (List Val × Nat)} (h : decT T l = o) : (decV o).length ≤ T.cols.length := by
  subst h
  unfold decT
  cases hw : rdW lim40 l with
  | none => simp [decV]
  | some q =>
    simp only [Option.bind_some]
    split
    · simp [decV]
    · cases hd : decTo T.cols (q.1 / 256).toNat (q.1 % 256).toNat q.2 T.cols.length with
      | none => simp [decV]
      | some p =>
        have h := decTo_len hd
        simp [decV, h]

/-- What the statement keeps: the table, and two lists of integers. -/
structure MSt (w wr : World) (X : TabP) (L : List Int) (a1 a2 : Option Addr) (m c1 c2 : Nat) : Prop where
  t : TabIn w wr w.heap.size X
  x : Rd wr a1 m c1 1 (intVals L)
  y : Rd wr a2 m c2 1 (intVals L)
theorem MSt.step {w wr w' : World} {X : TabP} {L : List Int} {a1 a2 : Option Addr} {m c1 c2 : Nat} (h : MSt w wr X L a1 a2 m c1 c2) (hb : Below wr.heap.size wr w') : MSt w w' X L a1 a2 m c1 c2 := ⟨h.t.step hb, h.x.call0 hb, h.y.call0 hb⟩

set_option maxRecDepth 100000 in
set_option maxHeartbeats 8000000 in
theorem match_walk {X : TabP} {r : List Val} {l : List Int} {a b : Option Addr} {n c m d : Nat} {w : World} (hX : TabRd w X) (hr : Rd w a n c 3 (recC Val.enc r)) (hl : Rd w b m d 1 (intVals l)) : Calls Try.prog 3 #[X.v, .slice a n c, .slice b m d] w (RetV (.bool true) w) := by
  have hln := hr.rlen Val.enc_len (by omega)
  have hlm := hl.ilen
  have hnm := hr.lenMax
  have hmm := hl.lenMax
  have T1 := Box.mk (TabIn.start hX)
  have HR := Box.mk hr
  have HL := Box.mk hl
  clear hX hr hl
  unfold TabP.cs at T1
  unfold TabP.v
  have u0 := T1.out.c0
  have u1 := T1.out.c1
  have u2 := T1.out.c2
  have u3 := T1.out.c3
  generalize hV : validT X.t [⟨a, c, r⟩] = dd
  have HV := Box.mk hV
  clear hV
  go_enter Try.func3, Try.ntmps3
  go_upto_region 1 with fail
  generalize (w.alloc (.cells #[.string ⟨X.name.toArray⟩, .slice X.ca X.cols.length X.cc, .slice X.ia X.ixs.length X.ic, .slice X.ha X.chks.length X.hc] 26)) = W at *
  have T2 := Box.mk (T1.out.alloc (.cells #[.slice a n c] 28))
  have R2 := Box.mk (Blk.new (w := W) (k := W.heap.size) (ty := 28) (cs := [.slice a n c]) rfl rfl)
  clear T1
  go_wp2_with fail
  clear u0 u1 u2 u3
  generalize (W.alloc (.cells #[.slice a n c] 28)) = w2 at *
  refine (valid1_is HV.out T2.out.rd (HR.out.below T2.out.below (Nat.le_refl _)) R2.out).mono ?_
  rintro e w3 ⟨rfl, hb3⟩
  have T3 := Box.mk (T2.out.step hb3)
  clear hb3 T2 R2
  cases dd with
  | false =>
    go_wp2_with fail
    refine (sanity_any w3).mono ?_
    rintro e w4 ⟨rfl, hb4⟩
    have T4 := Box.mk (T3.out.step hb4)
    clear hb4
    go_wp2_with fail
    go_ret
    exact ⟨rfl, T4.out.below⟩
  | true =>
    obtain ⟨_, hck, hrt⟩ := validT_true HV.out
    obtain ⟨hok, h20⟩ := rightB_true (hrt ⟨a, c, r⟩ (by simp))
    have HOK := Box.mk hok
    have hc8 : X.cols.length ≤ 8 := (checkT_ok hck).cols8
    have hn20 : n ≤ 20 := by rw [← hln]; exact h20
    clear hck hrt h20 hok
    by_cases hm100 : 100 < m
    · go_wp2_with fail
      refine (sanity_any w3).mono ?_
      rintro e w4 ⟨rfl, hb4⟩
      have T4 := Box.mk (T3.out.step hb4)
      clear hb4
      go_wp2_with fail
      go_ret
      exact ⟨rfl, T4.out.below⟩
    · have hm100' : m ≤ 100 := by omega
      generalize hE : encR X.t r = L
      generalize hF : fitsT X.t r = F
      obtain ⟨lm, hlm'⟩ : ∃ lm, L.length = lm := ⟨_, rfl⟩
      have HEN := Box.mk (And.intro hE (And.intro hF hlm'))
      clear hE hF hlm'
      generalize hO : decT X.t l = O
      obtain ⟨V, hVV⟩ : ∃ V, decV O = V := ⟨_, rfl⟩
      obtain ⟨N, hNN⟩ : ∃ N, decN O = N := ⟨_, rfl⟩
      obtain ⟨G, hGG⟩ : ∃ G, decE O = G := ⟨_, rfl⟩
      obtain ⟨vm, hvm⟩ : ∃ vm, V.length = vm := ⟨_, rfl⟩
      have hvb : vm ≤ 1000 := by
        rw [← hvm, ← hVV]
        have h1 : (decV O).length ≤ X.cols.length := decV_len hO
        omega
      have HDE := Box.mk (And.intro hO (And.intro hVV (And.intro hNN (And.intro hGG hvm))))
      clear hO hVV hNN hGG hvm
      obtain ⟨Z, hZ⟩ : ∃ Z, (wordsR r).length = Z := ⟨_, rfl⟩
      have HZ := Box.mk hZ
      clear hZ
      have u0 := T3.out.c0
      have u1 := T3.out.c1
      have u2 := T3.out.c2
      have u3 := T3.out.c3
      go_wp2_with fail
      refine (encode_is HEN.out.1 HEN.out.2.1 HEN.out.2.2 T3.out.rd (HR.out.below T3.out.below (Nat.le_refl _))).mono ?_
      rintro e w4 ⟨hb4, a4, c4, rfl, hown4⟩
      have T4 := Box.mk (T3.out.step hb4)
      have R4 := Box.mk (Rd.ofOwn hown4)
      clear hb4 hown4 T3 u0 u1 u2 u3
      have u0 := T4.out.c0
      have u1 := T4.out.c1
      have u2 := T4.out.c2
      have u3 := T4.out.c3
      go_wp2_with fail
      refine (rencode_is HEN.out.1 HEN.out.2.1 HEN.out.2.2 T4.out.rd (HR.out.below T4.out.below (Nat.le_refl _))).mono ?_
      rintro e w5 ⟨hb5, a5, c5, rfl, hown5⟩
      have U5 := Box.mk (MSt.mk (T4.out.step hb5) (R4.out.call0 hb5) (Rd.ofOwn hown5))
      clear hb5 hown5 T4 R4 u0 u1 u2 u3
      have u0 := U5.out.t.c0
      have u1 := U5.out.t.c1
      have u2 := U5.out.t.c2
      have u3 := U5.out.t.c3
      go_wp2_with fail
      refine (decode_is HDE.out.1 HDE.out.2.1 HDE.out.2.2.1 HDE.out.2.2.2.1 HDE.out.2.2.2.2 U5.out.t.rd (HL.out.below U5.out.t.below (Nat.le_refl _)) (by omega) hc8).mono ?_
      rintro e w6 ⟨hb6, a6, c6, rfl, hown6⟩
      have U6 := Box.mk (And.intro (U5.out.step hb6) (Rd.ofOwn hown6))
      clear hb6 hown6 U5 u0 u1 u2 u3
      have u0 := U6.out.1.t.c0
      have u1 := U6.out.1.t.c1
      have u2 := U6.out.1.t.c2
      have u3 := U6.out.1.t.c3
      go_wp2_with fail
      refine (rdecode_is HDE.out.1 HDE.out.2.1 HDE.out.2.2.1 HDE.out.2.2.2.1 HDE.out.2.2.2.2 U6.out.1.t.rd (HL.out.below U6.out.1.t.below (Nat.le_refl _)) (by omega) hc8).mono ?_
      rintro e w7 ⟨hb7, a7, c7, rfl, hown7⟩
      have U7 := Box.mk (And.intro (U6.out.1.step hb7) (And.intro (U6.out.2.call0 hb7) (Rd.ofOwn hown7)))
      clear hb7 hown7 U6 u0 u1 u2 u3
      go_wp2_with fail
      refine (sanity_any w7).mono ?_
      rintro e w8 ⟨rfl, hb8⟩
      have U8 := Box.mk (And.intro (U7.out.1.step hb8) (And.intro (U7.out.2.1.call0 hb8) (U7.out.2.2.call0 hb8)))
      clear hb8 U7
      go_wp2_with fail
      refine (size_is HZ.out (HR.out.below U8.out.1.t.below (Nat.le_refl _)) hn20 HOK.out).mono ?_
      rintro e w9 ⟨rfl, hb9⟩
      have U9 := Box.mk (And.intro (U8.out.1.step hb9) (And.intro (U8.out.2.1.call0 hb9) (U8.out.2.2.call0 hb9)))
      clear hb9 U8
      go_wp2_with fail
      refine (rsize_is HZ.out (HR.out.below U9.out.1.t.below (Nat.le_refl _)) hn20 HOK.out).mono ?_
      rintro e w10 ⟨rfl, hb10⟩
      have U10 := Box.mk (And.intro (U9.out.1.step hb10) (And.intro (U9.out.2.1.call0 hb10) (U9.out.2.2.call0 hb10)))
      clear hb10 U9
      have tZ : ((Z : Int) == (Z : Int)) = true := by simp
      have tF : (F == F) = true := by simp
      have tN : ((N : Int) == (N : Int)) = true := by simp
      have tG : (G == G) = true := by simp
      go_wp2_with fail
      refine (same_is (d := true) (l := L) (m := L) (by simp) U10.out.1.x U10.out.1.y).mono ?_
      rintro e w11 ⟨rfl, q11, rfl⟩
      have B11 := Box.mk (And.intro (below_drewN U10.out.1.t.below q11) (And.intro ((U10.out.2.1).below (below_drewN (Below.refl _ _) q11) (Nat.le_refl _)) ((U10.out.2.2).below (below_drewN (Below.refl _ _) q11) (Nat.le_refl _))))
      clear U10
      go_wp2_with fail
      refine (rsame_is (d := true) (x := V) (y := V) (by simp) B11.out.2.1 B11.out.2.2 (by omega) (by omega)).mono ?_
      rintro e w12 ⟨rfl, hb12⟩
      have B12 := Box.mk (B11.out.1.trans (hb12.mono B11.out.1.size))
      clear hb12 B11
      go_wp2_with fail
      go_ret
      exact ⟨by first | rfl | simp, B12.out⟩
end Go.Proofs.Ytpgdfhncigmmbaa
