/-
  The walk of SchemaWordsRoundTrip. No condition.
-/
import Derived.Test.YtgimkipekoabbaaLPw
import Derived.Test.YtgimkipekoabbaaPrs3
namespace Go.Proofs.Ytgimkipekoabbaa
open Go.RowKit

theorem flatW_alle {α : Type} (f : α → List Int) (b : Nat) : ∀ (l : List α), (∀ x ∈ l, (f x).length ≤ b) → (flatW f l).length ≤ b * l.length
  | [], _ => by simp [flatW]
  | x :: l, h => by
    have h1 := flatW_alle f b l (fun y hy => h y (List.mem_cons_of_mem _ hy))
    have h2 := h x (List.mem_cons_self ..)
    simp only [flatW, List.map_cons, List.flatten_cons, List.length_append, List.length_cons] at h1 ⊢
    rw [Nat.mul_add]; omega
theorem wordsT_le {T : Tab} (h : checkT T = 0) : (wordsT T).length ≤ 127 := by
  have H := checkT_ok h
  have h1 := H.name16
  have h2 := H.cols8; have h3 := H.ixs4; have h4 := H.chks4
  have c1 := flatW_alle colW 5 T.cols (fun c hc => by obtain ⟨i, hi, rfl⟩ := List.mem_iff_getElem.1 hc; have := colW_le H i hi; rwa [getD_eq hi] at this)
  have c2 := flatW_alle ixW 6 T.ixs (fun c hc => by
    obtain ⟨i, hi, rfl⟩ := List.mem_iff_getElem.1 hc
    have := H.ix hi; rw [getD_eq hi] at this
    unfold ixW; rw [List.length_append, textW_length]; unfold nWords; simp; omega)
  have c3 := flatW_alle chkW 10 T.chks (fun c hc => by
    obtain ⟨i, hi, rfl⟩ := List.mem_iff_getElem.1 hc
    have := H.chk hi; rw [getD_eq hi] at this
    have := valW_le this.2.2.2.2.1
    unfold chkW; rw [List.length_append]; simp; omega)
  have e : 5 * T.cols.length ≤ 40 ∧ 6 * T.ixs.length ≤ 24 ∧ 10 * T.chks.length ≤ 40 := by omega
  have ht : (textW T.name).length ≤ 4 := by rw [textW_length]; unfold nWords; omega
  unfold wordsT
  simp only [List.length_append, List.length_cons, List.length_nil]
  omega

set_option maxRecDepth 20000 in
set_option maxHeartbeats 4000000 in
theorem rt_walk (X : TabP) (w : World) (hr : TabRd w X) : Calls Try.prog 13 #[X.v] w (RetV (.bool true) w) := by
  generalize hv1 : checkT X.t = v1
  generalize hb1 : (if checkT X.t = 0 then wordsT X.t else []) = L
  have HV := Box.mk (And.intro hv1 hb1)
  clear hv1 hb1
  generalize hf : fewB X.t = fb
  have HF := Box.mk hf
  clear hf
  have T1 := Box.mk (TabIn.start hr)
  clear hr
  unfold TabP.cs at T1
  unfold TabP.v
  go_enter Try.func13, Try.ntmps13
  go_wp2_with fail
  generalize (w.alloc (.cells #[.string ⟨X.name.toArray⟩, .slice X.ca X.cols.length X.cc, .slice X.ia X.ixs.length X.ic, .slice X.ha X.chks.length X.hc] 28)) = W at *
  generalize hg : w.heap.size = g at *
  have HG := Box.mk hg
  clear hg
  refine (sanity_any W).mono ?_
  rintro e w2 ⟨rfl, hb⟩
  have T2 := Box.mk (T1.out.step hb)
  clear hb T1
  have x0 := T2.out.c0
  have x1 := T2.out.c1
  have x2 := T2.out.c2
  have x3 := T2.out.c3
  go_wp2_with fail
  refine (few_is HF.out T2.out.rd).mono ?_
  rintro e w3 ⟨rfl, hb⟩
  have T3 := Box.mk (T2.out.step hb)
  clear hb T2 x0 x1 x2 x3
  cases fb with
  | false =>
    go_wp2_with fail
    go_ret
    exact ⟨rfl, HG.out ▸ T3.out.below⟩
  | true =>
    have x0 := T3.out.c0
    have x1 := T3.out.c1
    have x2 := T3.out.c2
    have x3 := T3.out.c3
    go_wp2_with fail
    refine (words_is HV.out.1 HV.out.2 T3.out.rd).mono ?_
    rintro e w4 ⟨hb, a4, n4, c4, rfl, hrd4⟩
    have T4 := Box.mk (T3.out.step hb)
    have R4 := Box.mk hrd4
    clear hb T3 x0 x1 x2 x3 hrd4
    have x0 := T4.out.c0
    have x1 := T4.out.c1
    have x2 := T4.out.c2
    have x3 := T4.out.c3
    go_wp2_with fail
    refine (chk_is HV.out.1 T4.out.rd).mono ?_
    rintro e w5 ⟨rfl, hb⟩
    have T5 := Box.mk (T4.out.step hb)
    have R5 := Box.mk (R4.out.call0 hb)
    clear hb T4 R4 x0 x1 x2 x3
    by_cases h0 : v1 = 0
    · subst h0
      have hL := HV.out.2
      rw [if_pos HV.out.1] at hL
      subst hL
      have HP := Box.mk (parseT_up HV.out.1)
      have HOK := Box.mk (parseT_inv HP.out).2.2
      obtain rfl : (wordsT X.t).length = n4 := R5.out.ilen
      obtain ⟨N, hN⟩ : ∃ N, (wordsT X.t).length = N := ⟨_, rfl⟩
      have hN1 : N ≤ 127 := by rw [← hN]; exact wordsT_le HV.out.1
      have HNN := Box.mk hN
      rw [hN] at R5 ⊢
      clear hN
      go_wp2_with fail
      go_loopw [6] (fun i wr => ∃ k : Nat, k ≤ N ∧ i = .int .i64 k ∧ wr = w5) (fun i _ => N - (intOf i).toNat)
      case atStart => exact ⟨0, Nat.zero_le _, rfl, rfl⟩
      case round =>
        obtain ⟨k, hk, rfl, rfl⟩ := hrel
        by_cases hlt : k < N
        · obtain ⟨gb, off, rfl, hc⟩ := R5.out.intAtD k hlt
          have hm := HOK.out ((wordsT X.t).getD k 0) (by
            rw [List.getD_eq_getElem?_getD, List.getElem?_eq_getElem (by rw [HNN.out]; exact hlt), Option.getD_some]
            exact List.getElem_mem _)
          generalize (wordsT X.t).getD k 0 = m at *
          obtain ⟨hm0, hm1⟩ := hm
          unfold lim40 at hm1
          go_wp2_with fail
          exact ⟨⟨k + 1, by omega, by go_num, trivial⟩, by simp [intOf]; omega⟩
        · obtain rfl : k = N := by omega
          go_wp2_with fail
          refine (parse_is R5.out HP.out).mono ?_
          rintro e w6 ⟨hb, Y, rfl, hY, hYt⟩
          have T6 := Box.mk (T5.out.step hb)
          have HY := Box.mk (And.intro (hY.below ((Below.refl _ _).alloc (Nat.le_refl _) (.cells #[.string ⟨Y.name.toArray⟩, .slice Y.ca Y.cols.length Y.cc, .slice Y.ia Y.ixs.length Y.ic, .slice Y.ha Y.chks.length Y.hc] 28))) (show Y.t = X.t from hYt))
          have T7 := Box.mk (T6.out.alloc (.cells #[.string ⟨Y.name.toArray⟩, .slice Y.ca Y.cols.length Y.cc, .slice Y.ia Y.ixs.length Y.ic, .slice Y.ha Y.chks.length Y.hc] 28))
          clear hb hY hYt T5 T6
          have x0 := T7.out.c0
          have x1 := T7.out.c1
          have x2 := T7.out.c2
          have x3 := T7.out.c3
          unfold TabP.v
          go_wp2_with fail
          refine (same_tabs HY.out.2 HY.out.1 T7.out.rd).mono ?_
          rintro e w8 ⟨rfl, hb⟩
          have T8 := Box.mk (T7.out.step hb)
          clear hb T7 x0 x1 x2 x3
          go_wp2_with fail
          go_ret
          exact ⟨by first | rfl | simp, HG.out ▸ T8.out.below⟩
    · have hL := HV.out.2
      rw [if_neg (by rw [HV.out.1]; exact h0)] at hL
      subst hL
      obtain rfl : 0 = n4 := R5.out.ilen
      have hvv : (v1 == 0) = false := by simp [h0]
      have x0 := T5.out.c0
      have x1 := T5.out.c1
      have x2 := T5.out.c2
      have x3 := T5.out.c3
      go_wp2_with fail
      refine (chk_is HV.out.1 T5.out.rd).mono ?_
      rintro e w6 ⟨rfl, hb⟩
      have T6 := Box.mk (T5.out.step hb)
      clear hb T5 x0 x1 x2 x3
      go_wp2_with fail
      go_ret
      exact ⟨by first | rfl | simp, HG.out ▸ T6.out.below⟩
end Go.Proofs.Ytgimkipekoabbaa
