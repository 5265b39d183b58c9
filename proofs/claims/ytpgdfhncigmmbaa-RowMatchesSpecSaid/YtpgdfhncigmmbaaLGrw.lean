/-
  The walk of RowGrows. No condition.
-/
import Derived.Test.YtpgdfhncigmmbaaPlD
import Derived.Test.YtpgdfhncigmmbaaWAddC
namespace Go.Proofs.Ytpgdfhncigmmbaa
open Go.RowKit

theorem valid1_is {X : TabP} {r : List Val} {a : Option Addr} {n c g : Nat} {d : Bool} (h : validT X.t [⟨a, c, r⟩] = d) {w : World} (hX : TabRd w X) (hr : Rd w a n c 3 (recC Val.enc r)) (hb : Blk w g 28 [.slice a n c]) : Calls Try.prog 10 #[.agg #[.string ⟨X.name.toArray⟩, .slice X.ca X.cols.length X.cc, .slice X.ia X.ixs.length X.ic, .slice X.ha X.chks.length X.hc], .slice (some ⟨g, 0, none⟩) 1 1] w (RetV (.bool d) w) := by
  have hln := hr.rlen Val.enc_len (by omega)
  subst hln
  subst h
  exact valid_rows X (l := [⟨a, c, r⟩]) hX (rd_cells hb rfl (by unfold maxLen; omega)) (fun p hp => by
    rw [List.mem_singleton] at hp; subst hp; exact hr)
theorem valid2_is {X : TabP} {r s : List Val} {a b : Option Addr} {n c m e g : Nat} {d : Bool} (h : validT X.t [⟨a, c, r⟩, ⟨b, e, s⟩] = d) {w : World} (hX : TabRd w X) (hr : Rd w a n c 3 (recC Val.enc r)) (hs : Rd w b m e 3 (recC Val.enc s)) (hb : Blk w g 28 [.slice a n c, .slice b m e]) : Calls Try.prog 10 #[.agg #[.string ⟨X.name.toArray⟩, .slice X.ca X.cols.length X.cc, .slice X.ia X.ixs.length X.ic, .slice X.ha X.chks.length X.hc], .slice (some ⟨g, 0, none⟩) 2 2] w (RetV (.bool d) w) := by
  have hln := hr.rlen Val.enc_len (by omega)
  have hlm := hs.rlen Val.enc_len (by omega)
  subst hln; subst hlm
  subst h
  exact valid_rows X (l := [⟨a, c, r⟩, ⟨b, e, s⟩]) hX (rd_cells hb rfl (by unfold maxLen; omega)) (fun p hp => by
    simp only [List.mem_cons, List.not_mem_nil, or_false] at hp
    rcases hp with rfl | rfl
    · exact hr
    · exact hs)
theorem addCol_is {X : TabP} {c : Col} {T : Tab} {v : Int} (h1 : addColT X.t c = T) (h2 : addColE X.t c = v) {w : World} (hX : TabRd w X) : Calls Try.prog 31 #[.agg #[.string ⟨X.name.toArray⟩, .slice X.ca X.cols.length X.cc, .slice X.ia X.ixs.length X.ic, .slice X.ha X.chks.length X.hc], .agg #[.string ⟨c.name.toArray⟩, .int .i64 c.kind, .bool c.null]] w (RetTab T v w) := by
  subst h1; subst h2; exact addColumn_any X c w hX
theorem addColE_zero {T : Tab} {c : Col} (h : addColE T c = 0) : checkT T = 0 ∧ c.null = true ∧ checkT (T.addCol c) = 0 ∧ addColT T c = T.addCol c := by
  have h4 : addColT T c = T.addCol c := if_pos h
  unfold addColE at h
  by_cases h0 : checkT T = 0
  · rw [h0, if_neg (by decide)] at h
    cases hc : c.null with
    | false => rw [hc, if_pos rfl] at h; cases h
    | true => rw [hc, if_neg (by decide)] at h; exact ⟨h0, rfl, h, h4⟩
  · rw [if_pos h0] at h; exact absurd h h0

set_option maxRecDepth 100000 in
set_option maxHeartbeats 8000000 in
theorem grows_walk {X : TabP} {y : Col} {r : List Val} {a : Option Addr} {n c : Nat} {w : World} (hX : TabRd w X) (hr : Rd w a n c 3 (recC Val.enc r)) : Calls Try.prog 9 #[X.v, y.v, .slice a n c] w (RetV (.bool true) w) := by
  have hln := hr.rlen Val.enc_len (by omega)
  have hnm := hr.lenMax
  have hsz : (⟨y.name.toArray⟩ : ByteArray).size = y.name.length := str_size y.name
  have T1 := Box.mk ((TabIn.start hX).alloc (.cells #[.string ⟨y.name.toArray⟩, .int .i64 y.kind, .bool y.null] 55))
  have C1 := Box.mk (Blk.new (w := w.alloc (.cells X.cs.toArray 26)) (k := w.heap.size + 1) (ty := 55) (cs := [.string ⟨y.name.toArray⟩, .int .i64 y.kind, .bool y.null]) (by simp) rfl)
  have HR := Box.mk hr
  clear hX hr
  unfold TabP.cs at T1 C1
  unfold TabP.v Col.v
  have u0 := T1.out.c0
  have u1 := T1.out.c1
  have u2 := T1.out.c2
  have u3 := T1.out.c3
  generalize hV : validT X.t [⟨a, c, r⟩] = d
  have HV := Box.mk hV
  clear hV
  go_enter Try.func9, Try.ntmps9
  go_upto_region 1 with fail
  generalize ((w.alloc (.cells #[.string ⟨X.name.toArray⟩, .slice X.ca X.cols.length X.cc, .slice X.ia X.ixs.length X.ic, .slice X.ha X.chks.length X.hc] 26)).alloc (.cells #[.string ⟨y.name.toArray⟩, .int .i64 y.kind, .bool y.null] 55)) = W at *
  have T2 := Box.mk (T1.out.alloc (.cells #[.slice a n c] 28))
  have C2 := Box.mk (C1.out.alloc (.cells #[.slice a n c] 28))
  have R2 := Box.mk (Blk.new (w := W) (k := W.heap.size) (ty := 28) (cs := [.slice a n c]) rfl rfl)
  clear T1 C1
  go_wp2_with fail
  clear u0 u1 u2 u3
  generalize (W.alloc (.cells #[.slice a n c] 28)) = w2 at *
  refine (valid1_is HV.out T2.out.rd (HR.out.below T2.out.below (Nat.le_refl _)) R2.out).mono ?_
  rintro e w3 ⟨rfl, hb3⟩
  have T3 := Box.mk (T2.out.step hb3)
  have C3 := Box.mk (C2.out.call0 hb3)
  clear hb3 T2 C2 R2
  cases d with
  | false =>
    go_wp2_with fail
    refine (sanity_any w3).mono ?_
    rintro e w4 ⟨rfl, hb4⟩
    have T4 := Box.mk (T3.out.step hb4)
    clear hb4
    go_wp2_with fail
    go_ret
    exact ⟨rfl, T4.out.below⟩
  | true =>
    obtain ⟨_, hck, hrt⟩ := validT_true HV.out
    obtain ⟨hok, h20⟩ := rightB_true (hrt _ (List.mem_singleton_self _))
    have HOK := Box.mk (And.intro hck hok)
    have hn20 : n ≤ 20 := by rw [← hln]; exact h20
    clear hck hok hrt h20
    have v0 := C3.out.cellOf (i := 0) rfl
    have v1 := C3.out.cellOf (i := 1) rfl
    have v2 := C3.out.cellOf (i := 2) rfl
    by_cases h100 : 100 < y.name.length
    · go_wp2_with fail
      refine (sanity_any w3).mono ?_
      rintro e w4 ⟨rfl, hb4⟩
      have T4 := Box.mk (T3.out.step hb4)
      clear hb4
      go_wp2_with fail
      go_ret
      exact ⟨rfl, T4.out.below⟩
    · have u0 := T3.out.c0
      have u1 := T3.out.c1
      have u2 := T3.out.c2
      have u3 := T3.out.c3
      generalize hL : encR X.t r = L
      generalize hE : fitsT X.t r = E
      obtain ⟨lm, hlm⟩ : ∃ lm, L.length = lm := ⟨_, rfl⟩
      have HEN := Box.mk (And.intro hL (And.intro hE hlm))
      clear hL hE hlm
      go_wp2_with fail
      refine (encode_is HEN.out.1 HEN.out.2.1 HEN.out.2.2 T3.out.rd (HR.out.below T3.out.below (Nat.le_refl _))).mono ?_
      rintro e w4 ⟨hb4, a4, c4, rfl, hown4⟩
      have T4 := Box.mk (T3.out.step hb4)
      have C4 := Box.mk (C3.out.call0 hb4)
      have R4 := Box.mk (Rd.ofOwn hown4)
      clear hb4 hown4 T3 C3 u0 u1 u2 u3 v0 v1 v2
      have v0 := C4.out.cellOf (i := 0) rfl
      have v1 := C4.out.cellOf (i := 1) rfl
      have v2 := C4.out.cellOf (i := 2) rfl
      have u0 := T4.out.c0
      have u1 := T4.out.c1
      have u2 := T4.out.c2
      have u3 := T4.out.c3
      generalize hA : addColT X.t y = A
      generalize hF : addColE X.t y = F
      have HAC := Box.mk (And.intro hA hF)
      clear hA hF
      go_wp2_with fail
      refine (addCol_is HAC.out.1 HAC.out.2 T4.out.rd).mono ?_
      rintro e w5 ⟨hb5, Y, rfl, hY, hYt⟩
      have T5 := Box.mk (T4.out.step hb5)
      have R5 := Box.mk (R4.out.call0 hb5)
      have Y6 := Box.mk (And.intro (TabIn.start hY) hYt)
      have T6 := Box.mk (T5.out.alloc (.cells Y.cs.toArray 26))
      have R6 := Box.mk (R5.out.alloc (.cells Y.cs.toArray 26))
      clear hb5 hY hYt T4 C4 R4 T5 R5 u0 u1 u2 u3 v0 v1 v2
      unfold TabP.cs at Y6 T6 R6
      unfold TabP.v
      by_cases hE0 : E = 0
      · subst hE0
        by_cases hF0 : F = 0
        · subst hF0
          obtain ⟨k1, k2, k3, k4⟩ := addColE_zero HAC.out.2
          have hA := HAC.out.1.symm.trans k4
          have hLw : L = wordsR r := by rw [← HEN.out.1]; exact if_pos HEN.out.2.1
          have hfw := fits_words HEN.out.2.1
          have hY8 : Y.cols.length ≤ 8 := (checkT_ok (show checkT Y.t = 0 from by rw [Y6.out.2, hA]; exact k3)).cols8
          have HD := Box.mk (show decT Y.t L = some (r ++ [zval], lm) from by
            rw [Y6.out.2, hA, hLw, decT_grown HEN.out.2.1 k2, ← hLw, HEN.out.2.2])
          have hlm : lm ≤ 73 := by rw [← HEN.out.2.2, hLw]; exact hfw.2
          clear k1 k2 k3 k4 hA hLw hfw
          go_upto_region 8 with fail
          generalize (w5.alloc (.cells #[.string ⟨Y.name.toArray⟩, .slice Y.ca Y.cols.length Y.cc, .slice Y.ia Y.ixs.length Y.ic, .slice Y.ha Y.chks.length Y.hc] 26)) = w6 at *
          generalize w5.heap.size = g5 at *
          have u0 := Y6.out.1.c0
          have u1 := Y6.out.1.c1
          have u2 := Y6.out.1.c2
          have u3 := Y6.out.1.c3
          go_wp2_with fail
          refine (decode_is (m := n + 1) HD.out rfl rfl rfl (by show (r ++ [zval]).length = _; simp [hln]) Y6.out.1.rd R6.out (by omega) hY8).mono ?_
          rintro e w7 ⟨hb7, a7, c7, rfl, hown7⟩
          have T7 := Box.mk (T6.out.step hb7)
          have R7 := Box.mk (Rd.ofOwn hown7)
          clear hb7 hown7 u0 u1 u2 u3 Y6 T6 R6
          have hdn : decN (some (r ++ [zval], lm)) = lm := rfl
          have hde : decE (some (r ++ [zval], lm)) = 0 := rfl
          rw [hdn, hde]
          go_wp2_with fail
          refine (sanity_any w7).mono ?_
          rintro e w8 ⟨rfl, hb8⟩
          have T8 := Box.mk (T7.out.step hb8)
          have R8 := Box.mk (R7.out.call0 hb8)
          clear hb8 T7 R7
          have hcap := HR.out.hcap
          have hcmx := HR.out.hmax
          unfold maxLen at hcmx
          have F8 := Box.mk ((HR.out.below T8.out.below (Nat.le_refl _)).full.alloc (.cells #[.int .i64 0, .int .i64 0, .string ⟨#[]⟩] 59))
          have T9 := Box.mk (T8.out.alloc (.cells #[.int .i64 0, .int .i64 0, .string ⟨#[]⟩] 59))
          have R9 := Box.mk (R8.out.alloc (.cells #[.int .i64 0, .int .i64 0, .string ⟨#[]⟩] 59))
          have SRC := Box.mk (Src.ofRd (P := Try.prog) (rd_newAt (w := w8) (arr := #[.int .i64 0, .int .i64 0, .string ⟨#[]⟩]) (cs := recC Val.enc [zval]) (e := 59) (n := 1) (g := w8.heap.size) (size := 3) rfl rfl rfl (by simp [maxLen])) (recC_one Val.enc_one _))
          go_wp2_with (first | (with_reducible show wpList _ _ _ _ _ _; refine wpList_lit_one rfl 28 (.tmp 73) rfl sl_row (cs := [.int .i64 0, .int .i64 0, .string ⟨#[]⟩]) rfl rfl (by omega) (by omega) ?_) | (at_builtin; refine wpList_append_full rfl _ _ 28 28 rfl sl_row (.inl sl_row.ht) rfl F8.out rfl SRC.out (by omega) (by unfold maxLen; omega) ?_; intro a9 c9 w9 hrd9 hb9))
          have RX := Box.mk (show Rd w9 a9 (n + 1) c9 3 (recC Val.enc (r ++ [zval])) from by rw [recC_append]; exact hrd9)
          have T10 := Box.mk (T9.out.step hb9)
          refine (rsame_is (d := true) (x := r ++ [zval]) (y := r ++ [zval]) (by simp) (R9.out.call0 hb9) RX.out (by omega) (by omega)).mono ?_
          rintro e w10 ⟨rfl, hb10⟩
          have T11 := Box.mk (T10.out.step hb10)
          clear hb10 hb9 hrd9
          go_wp2_with fail
          go_ret
          exact ⟨by first | rfl | simp, T11.out.below⟩
        · have hFb : (F != 0) = true := by simp [hF0]
          clear hF0
          go_wp2_with fail
          refine (sanity_any _).mono ?_
          rintro e w7 ⟨rfl, hb7⟩
          have T7 := Box.mk (T6.out.step hb7)
          clear hb7
          go_wp2_with fail
          go_ret
          exact ⟨rfl, T7.out.below⟩
      · have hEb : (E != 0) = true := by simp [hE0]
        clear hE0
        go_wp2_with fail
        refine (sanity_any _).mono ?_
        rintro e w7 ⟨rfl, hb7⟩
        have T7 := Box.mk (T6.out.step hb7)
        clear hb7
        go_wp2_with fail
        go_ret
        exact ⟨rfl, T7.out.below⟩
end Go.Proofs.Ytpgdfhncigmmbaa
