/-
  The walks of the reference's Words, Size and Encode. No condition.
-/
import Derived.Test.YtpgdfhncigmmbaaRTxt
import Derived.Test.YtpgdfhncigmmbaaRUpd
import Derived.Test.YtpgdfhncigmmbaaSane
namespace Go.Proofs.Ytpgdfhncigmmbaa
open Go.RowKit

theorem rpackm_is {s : List UInt8} {L : List Int} {m : Nat} (h : textW s = L) (h2 : L.length = m) (w : World) (hs : s.length ≤ 1000) : Calls Try.prog 23 #[.string ⟨s.toArray⟩] w (RetLm L m w) := by
  subst h; subst h2; exact rpack_any s w hs
theorem flatW_nil {r : List Val} {k : Nat} (hk : k < r.length) {v : Val} (hv : r.getD k default = v) (h0 : v.kind = 0) : flatW valR (r.take (k + 1)) = flatW valR (r.take k) ∧ nullsN r (k + 1) = nullsN r k + 2 ^ k := by
  rw [flatW_succ _ _ _ hk, hv, nullsN_succ, hv, if_pos h0, show valR v = [] from if_pos h0, List.append_nil]; exact ⟨rfl, rfl⟩
theorem flatW_some {r : List Val} {k : Nat} (hk : k < r.length) {v : Val} (hv : r.getD k default = v) (h0 : v.kind ≠ 0) : flatW valR (r.take (k + 1)) = flatW valR (r.take k) ++ valR v ∧ nullsN r (k + 1) = nullsN r k := by
  rw [flatW_succ _ _ _ hk, hv, nullsN_succ, hv, if_neg h0]; exact ⟨rfl, rfl⟩
theorem flatW_vlen {r : List Val} (h : OkR r) (k : Nat) (hk : k ≤ r.length) : (flatW valR (r.take k)).length ≤ 9 * k := flatW_le (f := valR) (l := r) (c := 9) (fun _ hi => valR_len (h.at hi)) k hk
theorem wordsR_cons (r : List Val) : intVals (wordsR r) = [.int .i64 (((256 * r.length + nullsN r r.length : Nat) : Int))] ++ intVals (flatW valR (r.take r.length)) := by
  unfold wordsR wordsUp; simp [intVals]

set_option maxRecDepth 20000 in
set_option maxHeartbeats 8000000 in
theorem rwords_any {r : List Val} {a : Option Addr} {n c : Nat} {w : World} (hr : Rd w a n c 3 (recC Val.enc r)) (hn : n ≤ 20) (hok : OkR r) : Calls Try.prog 38 #[.slice a n c] w (RetL (wordsR r) w) := by
  have hln := hr.rlen Val.enc_len (by omega)
  have HR := Box.mk hr
  have HOK := Box.mk hok
  clear hr hok
  go_enter Try.func38, Try.ntmps38
  go_wp2_with fail
  go_loopw [3, 4, 5] (fun f v i wr => ∃ (k : Nat) (x : Int) (N : Nat) (a2 : Option Addr) (L c2 : Nat), k ≤ n ∧ x = 256 * (n : Int) + (N : Int) ∧ N < 1048576 ∧ i = .int .i64 k ∧ f = .int .i64 x ∧ v = .slice a2 L c2 ∧ Box (N = nullsN r k ∧ L = (flatW valR (r.take k)).length ∧ Own w.heap.size wr [RowP 3 1 a2 L c2 (intVals (flatW valR (r.take k)))] ∧ Below w.heap.size w wr)) (fun _ _ i _ => n - (intOf i).toNat)
  case atStart => exact ⟨0, 256 * (n : Int), 0, none, 0, 0, Nat.zero_le _, by omega, by omega, rfl, by first | rfl | go_num, rfl, ⟨rfl, by simp [flatW], by rw [show intVals (flatW valR (r.take 0)) = [] from by simp [flatW, intVals]]; exact (Own.start w).nilRow _ _, Below.refl _ _⟩⟩
  case round =>
    obtain ⟨k, x, N, a2, L, c2, hk, hx, hN, rfl, rfl, rfl, HB⟩ := hrel
    by_cases hlt : k < n
    · have hL : L ≤ 9 * k := by rw [HB.out.2.1]; exact flatW_vlen HOK.out k (by omega)
      obtain ⟨g, off, rfl, hgb, hc⟩ := HR.out.recAt Val.enc_len (by omega) k hlt
      have hv := HOK.out.at (k := k) (by omega)
      generalize hy : r.getD k default = y at *
      rcases okV_cases hv with rfl | ⟨x1, rfl, hx1⟩ | ⟨s, rfl, hs⟩ | ⟨x1, rfl, hx1⟩
      · have c0 := (HB.out.2.2.2.cell (p := ⟨g, off + k * 3, none⟩) (cell_block_lt (hc 0 _ rfl))).trans (hc 0 _ rfl)
        obtain ⟨h1, h2⟩ := flatW_nil (r := r) (k := k) (by omega) hy rfl
        have hnb := nullsN_bd r (k := k + 1) (by omega)
        have HS := wrap_pow k (by omega)
        have hpk : 2 ^ k ≤ 2 ^ 20 := Nat.pow_le_pow_right (by omega) (show k ≤ 20 by omega)
        have hpk2 : (2 : Nat) ^ 20 = 1048576 := by decide
        rw [hpk2] at hpk
        generalize hP : 2 ^ k = P at *
        have HN := Box.mk (And.intro h1 h2)
        rw [h2, ← HB.out.1] at hnb
        clear hc hgb hv hy h1 h2 hpk2 hP
        go_wp2_with fail
        refine ⟨⟨k + 1, x + P, N + P, a2, L, c2, hlt, by omega, by omega, by go_num, by go_num, rfl, ⟨?_, ?_, ?_, HB.out.2.2.2⟩⟩, by simp [intOf]; omega⟩
        · rw [HN.out.2, HB.out.1]
        · rw [HN.out.1]; exact HB.out.2.1
        · rw [HN.out.1]; exact HB.out.2.2.1
      · have c0 := (HB.out.2.2.2.cell (p := ⟨g, off + k * 3, none⟩) (cell_block_lt (hc 0 _ rfl))).trans (hc 0 _ rfl)
        have c1 := (HB.out.2.2.2.cell (p := ⟨g, off + k * 3 + 1, none⟩) (cell_block_lt (hc 1 _ rfl))).trans (hc 1 _ rfl)
        obtain ⟨h1, h2⟩ := flatW_some (r := r) (k := k) (by omega) hy (by show (1 : Int) ≠ 0; decide)
        have HN := Box.mk (And.intro h1 h2)
        have HO := Box.mk (And.intro (HB.out.2.2.1.new [.int .i64 (x1 + 549755813888)] 3) (HB.out.2.2.2.alloc HB.out.2.2.2.size (.cells #[.int .i64 (x1 + 549755813888)] 3)))
        clear hc hgb hv hy h1 h2
        go_wp2_with (at_builtin; refine wpList_append_src rfl _ _ 29 29 rfl sl_int (.inl sl_int.ht) rfl (HO.out.1.row 0 rfl) rfl (Src.oneNew _ _ _ rfl) (by omega) (by unfold maxLen; omega) (by simp) ?_; intro a3 c3 w3 hown3 hgr3 hnew3; have HG := Box.mk (HO.out.1.grown 0 rfl hown3 hgr3 hnew3); clear hown3 hgr3 hnew3)
        refine ⟨⟨k + 1, x, N, a3, L + 1, c3, hlt, hx, hN, by go_num, by rw [hx], rfl, ⟨?_, ?_, ?_, HO.out.2.trans HG.out.2⟩⟩, by simp [intOf]; omega⟩
        · rw [HN.out.2, HB.out.1]
        · rw [HN.out.1, List.length_append, ← HB.out.2.1]; rfl
        · rw [HN.out.1, valR_int, show intVals (flatW valR (r.take k) ++ [x1 + 549755813888]) = intVals (flatW valR (r.take k)) ++ [.int .i64 (x1 + 549755813888)] from by simp [intVals]]; exact HG.out.1.drop 1
      · have HC := Box.mk (And.intro (hc 0 _ rfl) (hc 2 _ rfl))
        have c0 := (HB.out.2.2.2.cell (p := ⟨g, off + k * 3, none⟩) (cell_block_lt HC.out.1)).trans HC.out.1
        have c2' := (HB.out.2.2.2.cell (p := ⟨g, off + k * 3 + 2, none⟩) (cell_block_lt HC.out.2)).trans HC.out.2
        have hsz : (⟨s.toArray⟩ : ByteArray).size = s.length := str_size s
        obtain ⟨h1, h2⟩ := flatW_some (r := r) (k := k) (by omega) hy (by show (2 : Int) ≠ 0; decide)
        have HN := Box.mk (And.intro h1 h2)
        obtain ⟨p, hp⟩ : ∃ p, (textW s).length = p := ⟨_, rfl⟩
        have hpb : p ≤ 8 := by rw [← hp, textW_length]; unfold nWords; omega
        have HP := Box.mk hp
        have HO := Box.mk (And.intro (HB.out.2.2.1.new [.int .i64 (s.length : Int)] 3) (HB.out.2.2.2.alloc HB.out.2.2.2.size (.cells #[.int .i64 (s.length : Int)] 3)))
        clear hc hgb hv hy h1 h2 hp
        go_wp2_with (at_builtin; refine wpList_append_src rfl _ _ 29 29 rfl sl_int (.inl sl_int.ht) rfl (HO.out.1.row 0 rfl) rfl (Src.oneNew _ _ _ rfl) (by omega) (by unfold maxLen; omega) (by simp) ?_; intro a3 c3 w3 hown3 hgr3 hnew3; have HG := Box.mk (And.intro ((HO.out.1.grown 0 rfl hown3 hgr3 hnew3).1.drop 1) (HO.out.2.trans (HO.out.1.grown 0 rfl hown3 hgr3 hnew3).2)); have d2 := (HG.out.2.cell (p := ⟨g, off + k * 3 + 2, none⟩) (cell_block_lt HC.out.2)).trans HC.out.2; clear hown3 hgr3 hnew3 c0 c2')
        refine (rpackm_is rfl HP.out w3 (by omega)).mono ?_
        rintro e w4 ⟨hb4, a4, c4, rfl, hown4⟩
        have H4 := Box.mk (And.intro (HG.out.1.newRow hb4 hown4 (Nat.le_refl _)) (HG.out.2.trans (hb4.mono HG.out.2.size)))
        have SRC := Box.mk (Src.ofRd (P := Try.prog) (Rd.ofOwn hown4) (intVals_one _))
        clear hb4 hown4 HG d2
        go_wp2_with (at_builtin; refine wpList_append_src rfl _ _ 29 29 rfl sl_int (.inl sl_int.ht) rfl (H4.out.1.row 0 rfl) rfl SRC.out (by omega) (by unfold maxLen; omega) (by simp) ?_; intro a5 c5 w5 hown5 hgr5 hnew5; have HG := Box.mk (H4.out.1.grown 0 rfl hown5 hgr5 hnew5); clear hown5 hgr5 hnew5)
        refine ⟨⟨k + 1, x, N, a5, L + 1 + p, c5, hlt, hx, hN, by go_num, by rw [hx], rfl, ⟨?_, ?_, ?_, H4.out.2.trans HG.out.2⟩⟩, by simp [intOf]; omega⟩
        · rw [HN.out.2, HB.out.1]
        · rw [HN.out.1, valR_text, List.length_append, List.length_append, ← HB.out.2.1, HP.out]; simp; omega
        · rw [HN.out.1, valR_text, show intVals (flatW valR (r.take k) ++ ([(s.length : Int)] ++ textW s)) = intVals (flatW valR (r.take k)) ++ [.int .i64 (s.length : Int)] ++ intVals (textW s) from by simp [intVals]]; exact HG.out.1.drop 1
      · have c0 := (HB.out.2.2.2.cell (p := ⟨g, off + k * 3, none⟩) (cell_block_lt (hc 0 _ rfl))).trans (hc 0 _ rfl)
        have c1 := (HB.out.2.2.2.cell (p := ⟨g, off + k * 3 + 1, none⟩) (cell_block_lt (hc 1 _ rfl))).trans (hc 1 _ rfl)
        obtain ⟨h1, h2⟩ := flatW_some (r := r) (k := k) (by omega) hy (by show (3 : Int) ≠ 0; decide)
        have HN := Box.mk (And.intro h1 h2)
        have HO := Box.mk (And.intro (HB.out.2.2.1.new [.int .i64 x1] 3) (HB.out.2.2.2.alloc HB.out.2.2.2.size (.cells #[.int .i64 x1] 3)))
        clear hc hgb hv hy h1 h2
        go_wp2_with (at_builtin; refine wpList_append_src rfl _ _ 29 29 rfl sl_int (.inl sl_int.ht) rfl (HO.out.1.row 0 rfl) rfl (Src.oneNew _ _ _ rfl) (by omega) (by unfold maxLen; omega) (by simp) ?_; intro a3 c3 w3 hown3 hgr3 hnew3; have HG := Box.mk (HO.out.1.grown 0 rfl hown3 hgr3 hnew3); clear hown3 hgr3 hnew3)
        refine ⟨⟨k + 1, x, N, a3, L + 1, c3, hlt, hx, hN, by go_num, by rw [hx], rfl, ⟨?_, ?_, ?_, HO.out.2.trans HG.out.2⟩⟩, by simp [intOf]; omega⟩
        · rw [HN.out.2, HB.out.1]
        · rw [HN.out.1, List.length_append, ← HB.out.2.1]; rfl
        · rw [HN.out.1, valR_bool, show intVals (flatW valR (r.take k) ++ [x1]) = intVals (flatW valR (r.take k)) ++ [.int .i64 x1] from by simp [intVals]]; exact HG.out.1.drop 1
    · obtain rfl : k = n := by omega
      have hL : L ≤ 9 * k := by rw [HB.out.2.1]; exact flatW_vlen HOK.out k (by omega)
      have HW := Box.mk (wordsR_cons r)
      have HWL := Box.mk (show (wordsR r).length = 1 + L from by
        have h1 : (intVals (wordsR r)).length = (wordsR r).length := by simp [intVals]
        rw [← h1, HW.out, HB.out.2.1, hln]; simp [intVals]; omega)
      rw [hln, ← HB.out.1] at HW
      have hB2 := HB.out.2.2
      have B0 : Blk (wr.alloc (.cells #[.int .i64 x] 3)) wr.heap.size 3 [.int .i64 x] := Blk.new rfl rfl
      have HO := Box.mk (hB2.1.newRow ((Below.refl _ _).alloc (Nat.le_refl _) (.cells #[.int .i64 x] 3)) (own_new (base := wr.heap.size) (n := 1) (size := 1) B0 (Nat.le_refl _) rfl (by decide)) (Nat.le_refl _))
      have HBB := Box.mk (hB2.2.alloc hB2.2.size (.cells #[.int .i64 x] 3))
      have SRC := Box.mk (Src.ofRd (P := Try.prog) (Rd.ofOwn (HO.out.row 0 rfl)) (intVals_one _))
      have HX := Box.mk hx
      clear hB2 B0 hx
      go_wp2_with (at_builtin; refine wpList_append_src rfl _ _ 29 29 rfl sl_int (.inl sl_int.ht) rfl (HO.out.row 1 rfl) rfl SRC.out (by omega) (by unfold maxLen; omega) (by simp) ?_; intro a3 c3 w3 hown3 hgr3 hnew3; have HG := Box.mk (HO.out.grown 1 rfl hown3 hgr3 hnew3); clear hown3 hgr3 hnew3)
      go_ret
      refine ⟨HBB.out.trans HG.out.2, a3, c3, by rw [HWL.out]; rfl, ?_⟩
      rw [HWL.out, HW.out, show ((256 * k + N : Nat) : Int) = x from by have := HX.out; omega]; exact HG.out.1.rowB 1 rfl

theorem rsize_is {r : List Val} {N : Nat} (h : (wordsR r).length = N) {a : Option Addr} {n c : Nat} {w : World} (hr : Rd w a n c 3 (recC Val.enc r)) (hn : n ≤ 20) (hok : OkR r) : Calls Try.prog 17 #[.slice a n c] w (RetV (.int .i64 (N : Nat)) w) := by
  have HC := Box.mk (rwords_any hr hn hok)
  have HN := Box.mk h
  clear hr hok h
  go_enter Try.func17, Try.ntmps17
  go_wp2_with fail
  refine HC.out.mono ?_
  rintro e w2 ⟨hb2, a2, c2, rfl, hown2⟩
  rw [HN.out] at *
  go_wp2_with fail
  go_ret
  exact ⟨by rfl, hb2⟩

set_option maxRecDepth 20000 in
set_option maxHeartbeats 4000000 in
theorem rencode_any (X : TabP) (r : List Val) (a : Option Addr) (n c : Nat) (w : World) (hX : TabRd w X) (hr : Rd w a n c 3 (recC Val.enc r)) : Calls Try.prog 13 #[X.v, .slice a n c] w (RetLE (encR X.t r) (fitsT X.t r) w) := by
  have hln := hr.rlen Val.enc_len (by omega)
  generalize hE : fitsT X.t r = E
  have HE := Box.mk hE
  clear hE
  have T1 := Box.mk (TabIn.start hX)
  have R1 := Box.mk (hr.alloc (.cells X.cs.toArray 26))
  clear hX hr
  unfold TabP.cs at T1 R1
  unfold TabP.v
  have u0 := T1.out.c0
  have u1 := T1.out.c1
  have u2 := T1.out.c2
  have u3 := T1.out.c3
  go_enter Try.func13, Try.ntmps13
  go_wp2_with fail
  generalize (w.alloc (.cells #[.string ⟨X.name.toArray⟩, .slice X.ca X.cols.length X.cc, .slice X.ia X.ixs.length X.ic, .slice X.ha X.chks.length X.hc] 26)) = W at *
  refine (rfits_is HE.out T1.out.rd R1.out).mono ?_
  rintro e w2 ⟨rfl, hb⟩
  have T2 := Box.mk (T1.out.step hb)
  have R2 := Box.mk (R1.out.call0 hb)
  clear hb T1 R1 u0 u1 u2 u3
  by_cases h0 : E = 0
  · subst h0
    have hf := fits_len HE.out
    have hn : n ≤ 20 := by have h1 : r.length = X.cols.length := hf.1; have h2 : X.cols.length ≤ 8 := hf.2.1; omega
    have HK := Box.mk (fits_okR HE.out)
    clear hf
    go_wp2_with fail
    refine (rwords_any R2.out hn HK.out).mono ?_
    rintro e w3 ⟨hb3, a3, c3, rfl, hown⟩
    have H3 := Box.mk (And.intro (T2.out.below.trans (hb3.mono T2.out.below.size)) (own_base hown T2.out.below.size))
    clear hb3 hown
    go_wp2_with fail
    go_ret2
    unfold encR
    rw [if_pos HE.out]
    exact ⟨H3.out.1, a3, c3, rfl, H3.out.2⟩
  · have hb0 : (E != 0) = true := by simp [h0]
    go_wp2_with fail
    go_ret2
    unfold encR
    rw [if_neg (by rw [HE.out]; exact h0)]
    exact ⟨T2.out.below, none, 0, rfl, World.ownsRow_nil _ _ _ _⟩
theorem rencode_is {X : TabP} {r : List Val} {L : List Int} {m : Nat} {v : Int} (h1 : encR X.t r = L) (h2 : fitsT X.t r = v) (hm : L.length = m) {a : Option Addr} {n c : Nat} {w : World} (hX : TabRd w X) (hr : Rd w a n c 3 (recC Val.enc r)) : Calls Try.prog 13 #[.agg #[.string ⟨X.name.toArray⟩, .slice X.ca X.cols.length X.cc, .slice X.ia X.ixs.length X.ic, .slice X.ha X.chks.length X.hc], .slice a n c] w (RetLEm L m v w) := by
  subst h1; subst h2; subst hm; exact rencode_any X r a n c w hX hr
end Go.Proofs.Ytpgdfhncigmmbaa
