/-
  The walk of RowWordsAreUnique. No condition.
-/
import Derived.Test.YtpgdfhncigmmbaaLRds
import Derived.Deep.CutBlock
import Derived.Deep.CutRange
namespace Go.Proofs.Ytpgdfhncigmmbaa
open Go.RowKit

/-- Encode, whatever it returns; the words' number by name. -/
theorem encode_on {X : TabP} {r : List Val} {L : List Int} {m : Nat} {v : Int} (H : Box (encR X.t r = L ∧ fitsT X.t r = v ∧ L.length = m)) {a : Option Addr} {n c : Nat} {w : World} (hX : TabRd w X) (hr : Rd w a n c 3 (recC Val.enc r)) : Calls Try.prog 12 #[.agg #[.string ⟨X.name.toArray⟩, .slice X.ca X.cols.length X.cc, .slice X.ia X.ixs.length X.ic, .slice X.ha X.chks.length X.hc], .slice a n c] w (RetLEm L m v w) := encode_is H.out.1 H.out.2.1 H.out.2.2 hX hr
theorem uni_prefix {T : Tab} {r s : List Val} {L M : List Int} {v u : Int} {lm : Nat} (h1 : encR T r = L) (h2 : fitsT T r = v) (h3 : L.length = lm) (k1 : encR T s = M) (k2 : fitsT T s = u) (hv : v = 0) (hu : u = 0) (hp : L = M.take lm) : r = s ∧ L = M := by
  have hL : L = wordsR r := by rw [← h1]; exact if_pos (h2.trans hv)
  have hM : M = wordsR s := by rw [← k1]; exact if_pos (k2.trans hu)
  have : r = s := words_prefix (h2.trans hv) (k2.trans hu) (by rw [← hL, ← hM, h3]; exact hp)
  exact ⟨this, by rw [hL, hM, this]⟩

set_option maxRecDepth 100000 in
set_option maxHeartbeats 8000000 in
theorem uni_walk {X : TabP} {r s : List Val} {l : List Int} {a b v : Option Addr} {n c m d p q : Nat} {w : World} (hX : TabRd w X) (hr : Rd w a n c 3 (recC Val.enc r)) (hs : Rd w b m d 3 (recC Val.enc s)) (hl : Rd w v p q 1 (intVals l)) : Calls Try.prog 6 #[X.v, .slice a n c, .slice b m d, .slice v p q] w (RetV (.bool true) w) := by
  have hln := hr.rlen Val.enc_len (by omega)
  have hlm := hs.rlen Val.enc_len (by omega)
  have hlp := hl.ilen
  have hnm := hr.lenMax
  have hmm := hs.lenMax
  have hpm := hl.lenMax
  have T1 := Box.mk (TabIn.start hX)
  have HR := Box.mk hr
  have HS := Box.mk hs
  have HL := Box.mk hl
  clear hX hr hs hl
  unfold TabP.cs at T1
  unfold TabP.v
  have u0 := T1.out.c0
  have u1 := T1.out.c1
  have u2 := T1.out.c2
  have u3 := T1.out.c3
  generalize hV : validT X.t [⟨a, c, r⟩, ⟨b, d, s⟩] = dd
  have HV := Box.mk hV
  clear hV
  go_enter Try.func6, Try.ntmps6
  go_upto_region 1 with fail
  generalize (w.alloc (.cells #[.string ⟨X.name.toArray⟩, .slice X.ca X.cols.length X.cc, .slice X.ia X.ixs.length X.ic, .slice X.ha X.chks.length X.hc] 26)) = W at *
  have T2 := Box.mk (T1.out.alloc (.cells #[.slice a n c, .slice b m d] 28))
  have R2 := Box.mk (Blk.new (w := W) (k := W.heap.size) (ty := 28) (cs := [.slice a n c, .slice b m d]) rfl rfl)
  clear T1
  go_wp2_with fail
  clear u0 u1 u2 u3
  generalize (W.alloc (.cells #[.slice a n c, .slice b m d] 28)) = w2 at *
  refine (valid2_is HV.out T2.out.rd (HR.out.below T2.out.below (Nat.le_refl _)) (HS.out.below T2.out.below (Nat.le_refl _)) R2.out).mono ?_
  rintro e w3 ⟨rfl, hb3⟩
  have T3 := Box.mk (T2.out.step hb3)
  clear hb3 T2 R2
  cases dd with
  | false =>
    go_wp2_with fail
    refine (sanity_any w3).mono ?_
    rintro e w4 ⟨rfl, hb4⟩
    have T4 := Box.mk (T3.out.step hb4)
    clear hb4
    go_wp2_with fail
    go_ret
    exact ⟨rfl, T4.out.below⟩
  | true =>
    obtain ⟨_, hck, hrt⟩ := validT_true HV.out
    obtain ⟨hok, h20⟩ := rightB_true (hrt ⟨a, c, r⟩ (by simp))
    obtain ⟨hok2, h202⟩ := rightB_true (hrt ⟨b, d, s⟩ (by simp))
    have HOK := Box.mk (And.intro hck (And.intro hok hok2))
    have hn20 : n ≤ 20 := by rw [← hln]; exact h20
    have hm20 : m ≤ 20 := by rw [← hlm]; exact h202
    have hX8 : X.cols.length ≤ 8 := (checkT_ok hck).cols8
    clear hck hok hrt h20 hok2 h202
    by_cases hp100 : 100 < p
    · go_wp2_with fail
      refine (sanity_any w3).mono ?_
      rintro e w4 ⟨rfl, hb4⟩
      have T4 := Box.mk (T3.out.step hb4)
      clear hb4
      go_wp2_with fail
      go_ret
      exact ⟨rfl, T4.out.below⟩
    · have u0 := T3.out.c0
      have u1 := T3.out.c1
      have u2 := T3.out.c2
      have u3 := T3.out.c3
      generalize hL : encR X.t r = L
      generalize hE : fitsT X.t r = E
      obtain ⟨lm, hlm'⟩ : ∃ lm, L.length = lm := ⟨_, rfl⟩
      have HEN := Box.mk (And.intro hL (And.intro hE hlm'))
      generalize hM : encR X.t s = M
      generalize hF : fitsT X.t s = F
      obtain ⟨mm, hmm'⟩ : ∃ mm, M.length = mm := ⟨_, rfl⟩
      have HFN := Box.mk (And.intro hM (And.intro hF hmm'))
      clear hL hE hlm' hM hF hmm'
      go_wp2_with fail
      refine (encode_on HEN T3.out.rd (HR.out.below T3.out.below (Nat.le_refl _))).mono ?_
      rintro e w4 ⟨hb4, a4, c4, rfl, hown4⟩
      have T4 := Box.mk (T3.out.step hb4)
      have R4 := Box.mk (Rd.ofOwn hown4)
      clear hb4 hown4 T3 u0 u1 u2 u3
      have u0 := T4.out.c0
      have u1 := T4.out.c1
      have u2 := T4.out.c2
      have u3 := T4.out.c3
      go_wp2_with fail
      refine (encode_on HFN T4.out.rd (HS.out.below T4.out.below (Nat.le_refl _))).mono ?_
      rintro e w5 ⟨hb5, a5, c5, rfl, hown5⟩
      have T5 := Box.mk (T4.out.step hb5)
      have R5 := Box.mk (R4.out.call0 hb5)
      have S5 := Box.mk (Rd.ofOwn hown5)
      clear hb5 hown5 T4 R4 u0 u1 u2 u3
      have hlmx := R5.out.lenMax
      have hmmx := S5.out.lenMax
      have hc5 := S5.out.hcap
      have hcx := S5.out.hmax
      unfold maxLen at hcx
      go_upto_region 6 with fail
      go_cut [77] from 44 (fun s77 wx => s77 = .bool false ∧ TabIn w wx w.heap.size X)
      case first =>
        by_cases hE0 : E = 0
        · have tE : (E == 0) = true := by simp [hE0]
          by_cases hF0 : F = 0
          · have tF : (F == 0) = true := by simp [hF0]
            by_cases hlmm : lm ≤ mm
            · have tL : decide ((lm : Int) ≤ (mm : Int)) = true := decide_eq_true (by omega)
              have tL2 : decide (lm ≤ mm) = true := decide_eq_true hlmm
              have HPX := Box.mk (And.intro hE0 hF0)
              have HRP := Box.mk (show Rd w5 a5 lm c5 1 (intVals (M.take lm)) from by rw [intVals_take]; exact S5.out.pre lm hlmm)
              have q1 : (lm : Int) ≤ (c5 : Int) := by omega
              clear hE0 hF0
              go_wp2_with fail
              generalize hdq : decide (L = M.take lm) = dq
              refine (same_is hdq R5.out HRP.out).mono ?_
              rintro e w6 ⟨rfl, q6, rfl⟩
              have T6 := Box.mk (T5.out.drewN q6)
              clear tL tL2
              cases dq with
              | false =>
                clear hdq
                go_wp2_with fail
                go_meet
                exact ⟨rfl, T6.out⟩
              | true =>
                obtain ⟨hrs, hLM⟩ := uni_prefix HEN.out.1 HEN.out.2.1 HEN.out.2.2 HFN.out.1 HFN.out.2.1 HPX.out.1 HPX.out.2 (of_decide_eq_true hdq)
                have hmlm : mm = lm := by rw [← HFN.out.2.2, ← HEN.out.2.2, hLM]
                have t1 : decide ((lm : Int) < (mm : Int)) = false := decide_eq_false (by omega)
                have t2 : decide (lm < mm) = false := decide_eq_false (by omega)
                have HRS := Box.mk hrs
                clear hdq hrs hLM hmlm
                go_wp2_with fail
                refine (rsame_is (d := true) (decide_eq_true HRS.out) (HR.out.below T6.out.below (Nat.le_refl _)) (HS.out.below T6.out.below (Nat.le_refl _)) (by omega) (by omega)).mono ?_
                rintro e w7 ⟨rfl, hb7⟩
                have T7 := Box.mk (T6.out.step hb7)
                clear hb7
                go_wp2_with fail
                go_meet
                exact ⟨rfl, T7.out⟩
            · have tL : decide ((lm : Int) ≤ (mm : Int)) = false := decide_eq_false (by omega)
              have tL2 : decide (lm ≤ mm) = false := decide_eq_false hlmm
              clear hlmm hE0 hF0
              go_wp2_with fail
              go_meet
              exact ⟨rfl, T5.out⟩
          · have tF : (F == 0) = false := by simp [hF0]
            clear hF0 hE0
            go_wp2_with fail
            go_meet
            exact ⟨rfl, T5.out⟩
        · have tE : (E == 0) = false := by simp [hE0]
          clear hE0
          go_wp2_with fail
          go_meet
          exact ⟨rfl, T5.out⟩
      case rest =>
        obtain ⟨rfl, hT⟩ := hcut
        have T6 := Box.mk hT
        clear hT T5 R5 S5 HEN HFN hlmx hmmx hc5 hcx
        have u0 := T6.out.c0
        have u1 := T6.out.c1
        have u2 := T6.out.c2
        have u3 := T6.out.c3
        generalize ho : decT X.t l = o
        cases o with
        | none =>
          go_wp2_with fail
          refine (decode_is (V := []) (m := 0) (N := 0) (E := 3) ho rfl rfl rfl rfl T6.out.rd (HL.out.below T6.out.below (Nat.le_refl _)) (by omega) hX8).mono ?_
          rintro e w8 ⟨hb8, a8, c8, rfl, _⟩
          have T8 := Box.mk (T6.out.step hb8)
          clear hb8 ho
          go_wp2_with fail
          refine (sanity_any w8).mono ?_
          rintro e w9 ⟨rfl, hb9⟩
          have T9 := Box.mk (T8.out.step hb9)
          clear hb9
          go_wp2_with fail
          go_ret
          exact ⟨by first | rfl | simp, T9.out.below⟩
        | some xN =>
          obtain ⟨x, N⟩ := xN
          have HO := Box.mk ho
          obtain ⟨hN1, hN2⟩ := decT_num ho
          rw [hlp] at hN2
          obtain ⟨xm, hxm⟩ : ∃ xm, x.length = xm := ⟨_, rfl⟩
          have HXM := Box.mk hxm
          clear ho
          go_wp2_with fail
          refine (decode_is (V := x) (m := xm) (N := N) (E := 0) HO.out rfl rfl rfl hxm T6.out.rd (HL.out.below T6.out.below (Nat.le_refl _)) (by omega) hX8).mono ?_
          rintro e w8 ⟨hb8, a8, c8, rfl, hown8⟩
          have T8 := Box.mk (T6.out.step hb8)
          have X8 := Box.mk (Rd.ofOwn hown8)
          clear hb8 hown8 T6 u0 u1 u2 u3 hxm
          have u0 := T8.out.c0
          have u1 := T8.out.c1
          have u2 := T8.out.c2
          have u3 := T8.out.c3
          have t1 : decide ((N : Int) < 1) = false := decide_eq_false (by omega)
          have t2 : decide (p < N) = false := decide_eq_false (by omega)
          have t3 : decide ((p : Int) < (N : Int)) = false := decide_eq_false (by omega)
          generalize hL : encR X.t x = L3
          generalize hE : fitsT X.t x = E3
          obtain ⟨m3, hm3⟩ : ∃ m3, L3.length = m3 := ⟨_, rfl⟩
          have HEN := Box.mk (And.intro hL (And.intro hE hm3))
          have hbin := decT_fits HOK.out.1 HO.out
          rw [hE] at hbin
          clear hL hE hm3
          go_wp2_with fail
          refine (encode_on HEN T8.out.rd X8.out).mono ?_
          rintro e w9 ⟨hb9, a9, c9, rfl, hown9⟩
          have T9 := Box.mk (T8.out.step hb9)
          have L9 := Box.mk (Rd.ofOwn hown9)
          clear hb9 hown9 T8 X8 u0 u1 u2 u3 t1 t2 t3
          have hlpos : 0 < l.length := by omega
          obtain ⟨g0, o0, rfl, hc0⟩ := (HL.out.below T9.out.below (Nat.le_refl _)).intAtD 0 (by omega)
          simp only [Nat.add_zero] at hc0
          have hpos : 0 ≤ l.getD 0 0 := by
            obtain ⟨H, lh, rest, h1, _⟩ := decT_some HO.out
            have := (rdW_some h1).1
            rw [this]; show (0 : Int) ≤ (H : Int); omega
          have HWD := Box.mk (fun hn => decT_words HOK.out.1 HO.out hn)
          have hlim : l.getD 0 0 < 1099511627776 := by
            obtain ⟨H, lh, rest, h1, _⟩ := decT_some HO.out
            have h2 := rdW_some h1
            rw [h2.1]; show (H : Int) < _; have := h2.2.2; unfold lim40 at this; omega
          generalize hl0 : l.getD 0 0 = l0 at *
          obtain ⟨H, rfl⟩ := Int.eq_ofNat_of_zero_le hpos
          have HH := Box.mk hlim
          clear hlim
          clear hpos hl0
          go_upto_region 12 with fail
          have HS1 : TabIn w w9.drew w.heap.size X ∧ w9.drew.cell? ⟨g0, o0, none⟩ = some (.int .i64 (H : Int)) := ⟨T9.out.step (Below.refl _ _).drew, hc0⟩
          have L10 := Box.mk L9.out.drew
          clear T9 L9 hc0
          rcases hbin with rfl | rfl
          · by_cases hq : H / 256 < X.cols.length
            · have HQ := Box.mk (show decide ((H : Int) / 256 < (X.cols.length : Int)) = true from decide_eq_true (by omega))
              clear hq
              refine wp_region_held_drew (S := fun w' => TabIn w w' w.heap.size X ∧ w'.cell? ⟨g0, o0, none⟩ = some (.int .i64 (H : Int))) (by kernel_rfl) HS1 (fun _ => ?_)
              refine wpAnyH_take (i := 0) (v := ?_) rfl (by kernel_rfl) (by kernel_rfl) (by kernel_rfl) (fun _ _ _ h => h) (yieldsIf_val (by rfl) (fun w' hS => ?_)) HS1 ?_
              rotate_left
              · skip
                go_simp
                all_goals with_reducible rfl
              conv =>
                arg 8
                simp [go_sem]
              refine wpAnyH_take (i := 1) (v := ?_) rfl (by kernel_rfl) (by kernel_rfl) (by kernel_rfl) (fun _ _ _ h => h) (yieldsIf_val (by rfl) (fun w' hS => ?_)) HS1 ?_
              rotate_left
              · skip
                go_simp
                all_goals with_reducible rfl
              conv =>
                arg 8
                simp [go_sem]
              refine wpAnyH_take (i := 2) (v := ?_) rfl (by kernel_rfl) (by kernel_rfl) (by kernel_rfl) (fun _ _ _ h => h) (yieldsIf_val (by rfl) (fun w' hS => ?_)) HS1 ?_
              rotate_left
              · skip
                go_simp
                all_goals with_reducible rfl
              conv =>
                arg 8
                simp [go_sem]
              refine wpAnyH_take (i := 3) (v := ?_) rfl (by kernel_rfl) (by kernel_rfl) (by kernel_rfl) (fun _ _ _ h => h) (yieldsIf_val (by rfl) (fun w' hS => ?_)) HS1 ?_
              rotate_left
              · skip
                go_simp
                all_goals with_reducible rfl
              conv =>
                arg 8
                simp [go_sem]
              refine wpAnyH_take (i := 4) (v := ?_) rfl (by kernel_rfl) (by kernel_rfl) (by kernel_rfl) (fun _ _ _ h => h) (yieldsIf_val (by rfl) (fun w' hS => ?_)) HS1 ?_
              rotate_left
              · skip
                have q0 : 0 < p := by omega
                go_simp
                all_goals with_reducible rfl
              conv =>
                arg 8
                simp [go_sem]
              refine wpAnyH_take (i := 5) (v := ?_) rfl (by kernel_rfl) (by kernel_rfl) (by kernel_rfl) (fun _ _ _ h => h) (yieldsIf_val (by rfl) (fun w' hS => ?_)) HS1 ?_
              rotate_left
              · skip
                have q := hS.2
                go_simp
                all_goals with_reducible rfl
              conv =>
                arg 8
                simp [go_sem]
              refine wpAnyH_take (i := 6) (v := ?_) rfl (by kernel_rfl) (by kernel_rfl) (by kernel_rfl) (fun _ _ _ h => h) (yieldsIf_val (by rfl) (fun w' hS => ?_)) HS1 ?_
              rotate_left
              · skip
                have q : IntKind.i64.wrap ((H : Int) / 256) = (H : Int) / 256 := by rw [IntKind.wrap_i64]; have h := HH.out; omega
                go_simp
                all_goals with_reducible rfl
              conv =>
                arg 8
                simp [go_sem]
              refine wpAnyH_take (i := 7) (v := ?_) rfl (by kernel_rfl) (by kernel_rfl) (by kernel_rfl) (fun _ _ _ h => h) (yieldsIf_val (by rfl) (fun w' hS => ?_)) HS1 ?_
              rotate_left
              · skip
                go_simp
                all_goals with_reducible rfl
              conv =>
                arg 8
                simp [go_sem]
              refine wpAnyH_take (i := 8) (v := ?_) rfl (by kernel_rfl) (by kernel_rfl) (by kernel_rfl) (fun _ _ _ h => h) (yieldsIf_val (by rfl) (fun w' hS => ?_)) HS1 ?_
              rotate_left
              · skip
                have q := hS.1.c1
                go_simp
                all_goals with_reducible rfl
              conv =>
                arg 8
                simp [go_sem]
              refine wpAnyH_take (i := 9) (v := ?_) rfl (by kernel_rfl) (by kernel_rfl) (by kernel_rfl) (fun _ _ _ h => h) (yieldsIf_val (by rfl) (fun w' hS => ?_)) HS1 ?_
              rotate_left
              · skip
                go_simp
                all_goals with_reducible rfl
              conv =>
                arg 8
                simp [go_sem]
              refine wpAnyH_take (i := 10) (v := ?_) rfl (by kernel_rfl) (by kernel_rfl) (by kernel_rfl) (fun _ _ _ h => h) (yieldsIf_val (by rfl) (fun w' hS => ?_)) HS1 ?_
              rotate_left
              · skip
                have q := HQ.out
                go_simp
                all_goals with_reducible rfl
              conv =>
                arg 8
                simp [go_sem]
              refine wpAnyH_take (i := 11) (v := ?_) rfl (by kernel_rfl) (by kernel_rfl) (by kernel_rfl) (fun _ _ _ h => h) (yieldsIf_val (by rfl) (fun w' hS => ?_)) HS1 ?_
              rotate_left
              · skip
                go_simp
                all_goals with_reducible rfl
              conv =>
                arg 8
                simp [go_sem]
              refine ⟨by kernel_rfl, ?_⟩
              conv =>
                arg 5
                simp [go_sem]
              have T10 := Box.mk HS1.1
              clear HS1
              go_wp2_with fail
              refine (sanity_any _).mono ?_
              rintro e w11 ⟨rfl, hb11⟩
              have T11 := Box.mk (T10.out.step hb11)
              clear hb11
              go_wp2_with fail
              go_ret
              exact ⟨rfl, T11.out.below⟩
            · have HQ := Box.mk (show decide ((H : Int) / 256 < (X.cols.length : Int)) = false from decide_eq_false (by omega))
              have HWW := Box.mk (show L3 = l.take N from by rw [← HEN.out.1]; exact (if_pos HEN.out.2.1).trans (HWD.out (by show (X.cols.length : Int) ≤ (H : Int) / 256; omega)))
              clear hq
              refine wp_region_held_drew (S := fun w' => TabIn w w' w.heap.size X ∧ w'.cell? ⟨g0, o0, none⟩ = some (.int .i64 (H : Int))) (by kernel_rfl) HS1 (fun _ => ?_)
              refine wpAnyH_take (i := 0) (v := ?_) rfl (by kernel_rfl) (by kernel_rfl) (by kernel_rfl) (fun _ _ _ h => h) (yieldsIf_val (by rfl) (fun w' hS => ?_)) HS1 ?_
              rotate_left
              · skip
                go_simp
                all_goals with_reducible rfl
              conv =>
                arg 8
                simp [go_sem]
              refine wpAnyH_take (i := 1) (v := ?_) rfl (by kernel_rfl) (by kernel_rfl) (by kernel_rfl) (fun _ _ _ h => h) (yieldsIf_val (by rfl) (fun w' hS => ?_)) HS1 ?_
              rotate_left
              · skip
                go_simp
                all_goals with_reducible rfl
              conv =>
                arg 8
                simp [go_sem]
              refine wpAnyH_take (i := 2) (v := ?_) rfl (by kernel_rfl) (by kernel_rfl) (by kernel_rfl) (fun _ _ _ h => h) (yieldsIf_val (by rfl) (fun w' hS => ?_)) HS1 ?_
              rotate_left
              · skip
                go_simp
                all_goals with_reducible rfl
              conv =>
                arg 8
                simp [go_sem]
              refine wpAnyH_take (i := 3) (v := ?_) rfl (by kernel_rfl) (by kernel_rfl) (by kernel_rfl) (fun _ _ _ h => h) (yieldsIf_val (by rfl) (fun w' hS => ?_)) HS1 ?_
              rotate_left
              · skip
                go_simp
                all_goals with_reducible rfl
              conv =>
                arg 8
                simp [go_sem]
              refine wpAnyH_take (i := 4) (v := ?_) rfl (by kernel_rfl) (by kernel_rfl) (by kernel_rfl) (fun _ _ _ h => h) (yieldsIf_val (by rfl) (fun w' hS => ?_)) HS1 ?_
              rotate_left
              · skip
                have q0 : 0 < p := by omega
                go_simp
                all_goals with_reducible rfl
              conv =>
                arg 8
                simp [go_sem]
              refine wpAnyH_take (i := 5) (v := ?_) rfl (by kernel_rfl) (by kernel_rfl) (by kernel_rfl) (fun _ _ _ h => h) (yieldsIf_val (by rfl) (fun w' hS => ?_)) HS1 ?_
              rotate_left
              · skip
                have q := hS.2
                go_simp
                all_goals with_reducible rfl
              conv =>
                arg 8
                simp [go_sem]
              refine wpAnyH_take (i := 6) (v := ?_) rfl (by kernel_rfl) (by kernel_rfl) (by kernel_rfl) (fun _ _ _ h => h) (yieldsIf_val (by rfl) (fun w' hS => ?_)) HS1 ?_
              rotate_left
              · skip
                have q : IntKind.i64.wrap ((H : Int) / 256) = (H : Int) / 256 := by rw [IntKind.wrap_i64]; have h := HH.out; omega
                go_simp
                all_goals with_reducible rfl
              conv =>
                arg 8
                simp [go_sem]
              refine wpAnyH_take (i := 7) (v := ?_) rfl (by kernel_rfl) (by kernel_rfl) (by kernel_rfl) (fun _ _ _ h => h) (yieldsIf_val (by rfl) (fun w' hS => ?_)) HS1 ?_
              rotate_left
              · skip
                go_simp
                all_goals with_reducible rfl
              conv =>
                arg 8
                simp [go_sem]
              refine wpAnyH_take (i := 8) (v := ?_) rfl (by kernel_rfl) (by kernel_rfl) (by kernel_rfl) (fun _ _ _ h => h) (yieldsIf_val (by rfl) (fun w' hS => ?_)) HS1 ?_
              rotate_left
              · skip
                have q := hS.1.c1
                go_simp
                all_goals with_reducible rfl
              conv =>
                arg 8
                simp [go_sem]
              refine wpAnyH_take (i := 9) (v := ?_) rfl (by kernel_rfl) (by kernel_rfl) (by kernel_rfl) (fun _ _ _ h => h) (yieldsIf_val (by rfl) (fun w' hS => ?_)) HS1 ?_
              rotate_left
              · skip
                go_simp
                all_goals with_reducible rfl
              conv =>
                arg 8
                simp [go_sem]
              refine wpAnyH_take (i := 10) (v := ?_) rfl (by kernel_rfl) (by kernel_rfl) (by kernel_rfl) (fun _ _ _ h => h) (yieldsIf_val (by rfl) (fun w' hS => ?_)) HS1 ?_
              rotate_left
              · skip
                have q := HQ.out
                go_simp
                all_goals with_reducible rfl
              conv =>
                arg 8
                simp [go_sem]
              refine wpAnyH_take (i := 11) (v := ?_) rfl (by kernel_rfl) (by kernel_rfl) (by kernel_rfl) (fun _ _ _ h => h) (yieldsIf_val (by rfl) (fun w' hS => ?_)) HS1 ?_
              rotate_left
              · skip
                go_simp
                all_goals with_reducible rfl
              conv =>
                arg 8
                simp [go_sem]
              refine ⟨by kernel_rfl, ?_⟩
              conv =>
                arg 5
                simp [go_sem]
              have T10 := Box.mk HS1.1
              clear HS1
              go_wp2_with fail
              refine (sanity_any _).mono ?_
              rintro e w11 ⟨rfl, hb11⟩
              have T11 := Box.mk (T10.out.step hb11)
              have L11 := Box.mk (L10.out.call0 hb11)
              clear hb11 T10 L10
              have hcap := HL.out.hcap
              have q1 : (N : Int) ≤ (q : Int) := by omega
              have q0 : (0 : Int) ≤ (N : Int) := by omega
              have HP := Box.mk (show Rd w11 (some ⟨g0, o0, none⟩) N q 1 (intVals (l.take N)) from by rw [intVals_take]; exact (HL.out.below T11.out.below (Nat.le_refl _)).pre N hN2)
              go_wp2_with fail
              refine (same_is (d := true) (decide_eq_true HWW.out) L11.out HP.out).mono ?_
              rintro e w12 ⟨rfl, q12, rfl⟩
              have T12 := Box.mk (T11.out.drewN q12)
              go_wp2_with fail
              go_ret
              exact ⟨by first | rfl | simp, T12.out.below⟩
          ·
            refine wp_region_held_drew (S := fun w' => TabIn w w' w.heap.size X ∧ w'.cell? ⟨g0, o0, none⟩ = some (.int .i64 (H : Int))) (by kernel_rfl) HS1 (fun _ => ?_)
            refine wpAnyH_take (i := 0) (v := ?_) rfl (by kernel_rfl) (by kernel_rfl) (by kernel_rfl) (fun _ _ _ h => h) (yieldsIf_val (by rfl) (fun w' hS => ?_)) HS1 ?_
            rotate_left
            · skip
              go_simp
              all_goals with_reducible rfl
            conv =>
              arg 8
              simp [go_sem]
            refine wpAnyH_take (i := 1) (v := ?_) rfl (by kernel_rfl) (by kernel_rfl) (by kernel_rfl) (fun _ _ _ h => h) (yieldsIf_val (by rfl) (fun w' hS => ?_)) HS1 ?_
            rotate_left
            · skip
              go_simp
              all_goals with_reducible rfl
            conv =>
              arg 8
              simp [go_sem]
            refine wpAnyH_take (i := 2) (v := ?_) rfl (by kernel_rfl) (by kernel_rfl) (by kernel_rfl) (fun _ _ _ h => h) (yieldsIf_val (by rfl) (fun w' hS => ?_)) HS1 ?_
            rotate_left
            · skip
              go_simp
              all_goals with_reducible rfl
            conv =>
              arg 8
              simp [go_sem]
            refine wpAnyH_take (i := 3) (v := undef) rfl (by kernel_rfl) (by kernel_rfl) (by kernel_rfl) (fun _ _ _ h => h) (Or.inr ⟨by rfl, rfl⟩) HS1 ?_
            conv =>
              arg 8
              simp [go_sem]
            refine wpAnyH_take (i := 4) (v := undef) rfl (by kernel_rfl) (by kernel_rfl) (by kernel_rfl) (fun _ _ _ h => h) (Or.inr ⟨by rfl, rfl⟩) HS1 ?_
            conv =>
              arg 8
              simp [go_sem]
            refine wpAnyH_take (i := 5) (v := undef) rfl (by kernel_rfl) (by kernel_rfl) (by kernel_rfl) (fun _ _ _ h => h) (Or.inr ⟨by rfl, rfl⟩) HS1 ?_
            conv =>
              arg 8
              simp [go_sem]
            refine wpAnyH_take (i := 6) (v := undef) rfl (by kernel_rfl) (by kernel_rfl) (by kernel_rfl) (fun _ _ _ h => h) (Or.inr ⟨by rfl, rfl⟩) HS1 ?_
            conv =>
              arg 8
              simp [go_sem]
            refine wpAnyH_take (i := 7) (v := undef) rfl (by kernel_rfl) (by kernel_rfl) (by kernel_rfl) (fun _ _ _ h => h) (Or.inr ⟨by rfl, rfl⟩) HS1 ?_
            conv =>
              arg 8
              simp [go_sem]
            refine wpAnyH_take (i := 8) (v := undef) rfl (by kernel_rfl) (by kernel_rfl) (by kernel_rfl) (fun _ _ _ h => h) (Or.inr ⟨by rfl, rfl⟩) HS1 ?_
            conv =>
              arg 8
              simp [go_sem]
            refine wpAnyH_take (i := 9) (v := undef) rfl (by kernel_rfl) (by kernel_rfl) (by kernel_rfl) (fun _ _ _ h => h) (Or.inr ⟨by rfl, rfl⟩) HS1 ?_
            conv =>
              arg 8
              simp [go_sem]
            refine wpAnyH_take (i := 10) (v := undef) rfl (by kernel_rfl) (by kernel_rfl) (by kernel_rfl) (fun _ _ _ h => h) (Or.inr ⟨by rfl, rfl⟩) HS1 ?_
            conv =>
              arg 8
              simp [go_sem]
            refine wpAnyH_take (i := 11) (v := ?_) rfl (by kernel_rfl) (by kernel_rfl) (by kernel_rfl) (fun _ _ _ h => h) (yieldsIf_val (by rfl) (fun w' hS => ?_)) HS1 ?_
            rotate_left
            · skip
              go_simp
              all_goals with_reducible rfl
            conv =>
              arg 8
              simp [go_sem]
            refine ⟨by kernel_rfl, ?_⟩
            conv =>
              arg 5
              simp [go_sem]
            have T10 := Box.mk HS1.1
            clear HS1
            go_wp2_with fail
            refine (sanity_any _).mono ?_
            rintro e w11 ⟨rfl, hb11⟩
            have T11 := Box.mk (T10.out.step hb11)
            clear hb11
            go_wp2_with fail
            go_ret
            exact ⟨rfl, T11.out.below⟩
end Go.Proofs.Ytpgdfhncigmmbaa
