/-
  The walk of the reference's guess. No condition.
-/
import Derived.Test.YtgimkipekoabbaaQSt
namespace Go.Proofs.Ytgimkipekoabbaa
open Go.RowKit

def gC (l : List Int) : Col × List Int := (⟨(gT ((gW l).1 / 8).toNat (gW l).2).1, (gW l).1 % 4, decide ((gW l).1 / 4 % 2 = 1)⟩, (gT ((gW l).1 / 8).toNat (gW l).2).2)
def gI (l : List Int) : Ix × List Int :=
  (⟨(gT ((gW l).1 / 32).toNat (gW (gW l).2).2).1, digits (gW (gW l).2).1 ((gW l).1 / 2 % 16).toNat, decide ((gW l).1 % 2 = 1)⟩, (gT ((gW l).1 / 32).toNat (gW (gW l).2).2).2)
def gKind (cols : List Col) (m : Int) : Int := if m % 16 < cols.length then (cols.getD (m % 16).toNat default).kind else 2
def gK (cols : List Col) (l : List Int) : Chk × List Int := (⟨(gW l).1 % 16, (gW l).1 / 16, (gV (gKind cols (gW l).1) (gW l).2).1⟩, (gV (gKind cols (gW l).1) (gW l).2).2)
def gMany {α : Type} (f : List Int → α × List Int) (l : List Int) : Nat → List α × List Int
  | 0 => ([], l)
  | k + 1 => ((gMany f l k).1 ++ [(f (gMany f l k).2).1], (f (gMany f l k).2).2)
theorem gMany_len {α : Type} (f : List Int → α × List Int) (l : List Int) : ∀ k, (gMany f l k).1.length = k
  | 0 => rfl
  | k + 1 => by unfold gMany; rw [List.length_append, gMany_len f l k]; rfl
theorem gMany_succ {α : Type} {f : List Int → α × List Int} {l lk l' : List Int} {b : List α} {x : α} {k : Nat} (h : gMany f l k = (b, lk)) (hx : f lk = (x, l')) : gMany f l (k + 1) = (b ++ [x], l') := by unfold gMany; rw [h]; simp [hx]
theorem gC_eq {l lm l2 : List Int} {m : Int} {x : List UInt8} (h : gW l = (m, lm)) (h2 : gT (m / 8).toNat lm = (x, l2)) : gC l = (⟨x, m % 4, (m / 4 % 2 == 1)⟩, l2) := by unfold gC; rw [h]; simp only [h2]; rfl
theorem gI_eq {l lm lc lx : List Int} {m c : Int} {x : List UInt8} (h : gW l = (m, lm)) (h2 : gW lm = (c, lc)) (h3 : gT (m / 32).toNat lc = (x, lx)) : gI l = (⟨x, digits c (m / 2 % 16).toNat, (m % 2 == 1)⟩, lx) := by unfold gI; rw [h]; simp only [h2, h3]; rfl
theorem gK_eq {cols : List Col} {l lm lx : List Int} {m : Int} {v : Val} {K : Int} (h : gW l = (m, lm)) (hk : gKind cols m = K) (h3 : gV K lm = (v, lx)) : gK cols l = (⟨m % 16, m / 16, v⟩, lx) := by unfold gK; rw [h]; simp only [hk, h3]
def gHead (l : List Int) : Int := (gW l).1
def gName (l : List Int) : List UInt8 × List Int := gT (gHead l / 4096).toNat (gW l).2
def gCols (l : List Int) : List Col × List Int := gMany gC (gName l).2 (gHead l % 16).toNat
def gIxs (l : List Int) : List Ix × List Int := gMany gI (gCols l).2 (gHead l / 16 % 16).toNat
def gChks (l : List Int) : List Chk × List Int := gMany (gK (gCols l).1) (gIxs l).2 (gHead l / 256 % 16).toNat
/-- The table that guess makes of a list of words. -/
def guessT (l : List Int) : Tab := ⟨(gName l).1, (gCols l).1, (gIxs l).1, (gChks l).1⟩
/-- What a function returns that makes a table. -/
def RetG (T : Tab) (w : World) (e : Ending) (w' : World) : Prop := Below w.heap.size w w' ∧ ∃ X : TabP, e = .returned X.v ∧ TabRd w' X ∧ X.t = T

theorem gReadStart {w : World} {a : Option Addr} {c : Nat} {l : List Int} (hr : Rd w a l.length c 1 (intVals l)) (hw : ∀ x ∈ l, x < 9223372036854775808) :
    RGP w.heap.size ((w.alloc (.cells #[.string ⟨#[]⟩, .slice none 0 0, .slice none 0 0, .slice none 0 0] 28)).alloc (.cells #[.slice a l.length c, .int .i64 0] 119)) (w.heap.size + 1) 0 l ∧ Blk ((w.alloc (.cells #[.string ⟨#[]⟩, .slice none 0 0, .slice none 0 0, .slice none 0 0] 28)).alloc (.cells #[.slice a l.length c, .int .i64 0] 119)) w.heap.size 28 [.string ⟨#[]⟩, .slice none 0 0, .slice none 0 0, .slice none 0 0] ∧ Below w.heap.size w ((w.alloc (.cells #[.string ⟨#[]⟩, .slice none 0 0, .slice none 0 0, .slice none 0 0] 28)).alloc (.cells #[.slice a l.length c, .int .i64 0] 119)) := by
  have hb : Below w.heap.size w ((w.alloc (.cells #[.string ⟨#[]⟩, .slice none 0 0, .slice none 0 0, .slice none 0 0] 28)).alloc (.cells #[.slice a l.length c, .int .i64 0] 119)) := ((Below.refl _ _).alloc (Nat.le_refl _) _).alloc (by simp) _
  refine ⟨⟨a, l.length, c, l, 0, Blk.new (by simp) rfl, hr.below hb (Nat.le_refl _), fun ad ha h0 => ?_, Nat.le_refl _, rfl, hw⟩, (Blk.new rfl rfl).alloc _, hb⟩
  obtain ⟨b, off, h1, h2⟩ := hr.at 0 h0
  rw [ha] at h1; cases h1
  exact cell_block_lt (h2 0 (by rw [intVals_length]; omega))

set_option maxRecDepth 20000 in
set_option maxHeartbeats 8000000 in
theorem guess_any {a : Option Addr} {c : Nat} {l : List Int} {w : World} (hr : Rd w a l.length c 1 (intVals l)) (hwf : ∀ x ∈ l, x < 9223372036854775808) : Calls Try.prog 77 #[.slice a l.length c] w (RetG (guessT l) w) := by
  have H0 := Box.mk (gReadStart hr hwf)
  clear hr hwf
  go_enter Try.func77, Try.ntmps77
  go_wp2_with fail
  generalize ((w.alloc (.cells #[.string ⟨#[]⟩, .slice none 0 0, .slice none 0 0, .slice none 0 0] 28)).alloc (.cells #[.slice a l.length c, .int .i64 0] 119)) = w1 at *
  refine (gword_any H0.out.1 (by omega) (by omega)).mono ?_
  rintro e w2 ⟨rfl, hr2, hb2, hlt2⟩
  have hh0 := gW_ge l
  have HN := Box.mk (show gName l = gT ((gW l).1 / 4096).toNat (gW l).2 from rfl)
  have HH := Box.mk (show gHead l = (gW l).1 from rfl)
  have hsz2 := hr2.lt
  have H2 := Box.mk (And.intro hr2 (And.intro (H0.out.2.1.but hb2 (by simp)) (H0.out.2.2.trans (hb2.toBelow (by have := hb2.size; have := H0.out.2.2.size; omega) (by simp)))))
  clear hr2 hb2 H0
  generalize (gW l).1 = h at *
  generalize (gW l).2 = l2 at *
  go_wp2_with fail
  refine (gtext_I (n := h / 4096) H2.out.1 (by omega) (by omega) (by omega) (by omega)).mono ?_
  rintro e w3 ⟨rfl, hr3, hb3⟩
  rw [← HN.out] at hr3 ⊢
  have hb3s := hb3.size
  have H3 := Box.mk (And.intro hr3 (And.intro (H2.out.2.1.but hb3 (by simp)) (H2.out.2.2.trans (hb3.toBelow (by omega) (by simp)))))
  clear hr3 hb3 H2
  have HNM := Box.mk (show gName l = gName l from rfl)
  generalize hgn : gName l = nq at *
  obtain ⟨nm, ln⟩ := nq
  have HGN := Box.mk hgn
  clear hgn HN HNM
  go_wp2_with fail
  have H4 := Box.mk (show QSt w.heap.size w3.heap.size 14 w (w3.alloc (.cells #[.string ⟨nm.toArray⟩, .slice none 0 0, .slice none 0 0, .slice none 0 0] 28)) ⟨nm, none, 0, [], none, 0, [], none, 0, []⟩ ln from
    ⟨H3.out.2.1.alloc _, H3.out.1.keep (heap_alloc_old _ _ (by omega)) (fun k hk => heap_alloc_old _ _ (by omega)), Blk.new rfl rfl, H3.out.2.2.alloc (by omega) _, ⟨World.ownsRow_nil _ _ _ _, World.ownsRow_nil _ _ _ _, World.ownsRow_nil _ _ _ _, by simp, by simp, by simp, by simp, by simp, by simp, by simp⟩, by simp, by omega⟩)
  generalize (w3.alloc (.cells #[.string ⟨nm.toArray⟩, .slice none 0 0, .slice none 0 0, .slice none 0 0] 28)) = w4 at *
  have hgs : w.heap.size + 2 ≤ w3.heap.size := by omega
  generalize w3.heap.size = g at *
  clear H3 hb3s hsz2
  obtain ⟨n1, hn1⟩ : ∃ n : Nat, h % 16 = n := Int.eq_ofNat_of_zero_le (by omega)
  have hn1b : n1 ≤ 15 := by omega
  have HN1 := Box.mk hn1
  clear hn1
  go_loopw [6] (fun i wr => ∃ k : Nat, k ≤ n1 ∧ i = .int .i64 k ∧ ∃ (cols : List Col) (ca : Option Addr) (cc : Nat) (lk : List Int), Box (gMany gC ln k = (cols, lk) ∧ QSt w.heap.size g (14 + 14 * k) w wr ⟨nm, ca, cc, cols, none, 0, [], none, 0, []⟩ lk)) (fun i _ => n1 - (intOf i).toNat)
  case atStart => exact ⟨0, Nat.zero_le _, rfl, [], none, 0, ln, ⟨And.intro rfl H4.out⟩⟩
  case round =>
    clear H4
    obtain ⟨k, hk, rfl, cols, ca, cc, lk, HB⟩ := hrel
    have HCL := Box.mk (show cols.length = k from by have := gMany_len gC ln k; rw [HB.out.1] at this; exact this)
    by_cases hlt : k < n1
    · have hcl : cols.length ≤ 15 := by rw [HCL.out]; omega
      have hkh : (k : Int) < h % 16 := by rw [HN1.out]; omega
      go_wp2_with fail
      refine (gword_any HB.out.2.r (by omega) (by omega)).mono ?_
      rintro e w5 ⟨rfl, hr5, hb5, hmlt⟩
      have hm0 := gW_ge lk
      have H5 := Box.mk (HB.out.2.call hr5 hb5)
      have HM := Box.mk HB.out.1
      generalize hq : gW lk = q at *
      obtain ⟨m, lm⟩ := q
      have W1 := Box.mk hq
      simp only at hm0 hmlt
      have hk15 : k ≤ 15 := by omega
      clear hr5 hb5 hq HB hkh
      go_wp2_with fail
      refine wp_region_held_drew (S := fun _ => True) (by kernel_rfl) trivial (fun _ => ?_)
      have HC := Box.mk H5.out.drew
      refine wpAnyH_take (i := 0) (v := ?_) rfl (by kernel_rfl) (by kernel_rfl) (by kernel_rfl) (fun _ _ _ h => h) (yieldsIf_val (by rfl) (fun w' hS => ?_)) trivial ?_
      rotate_left
      · skip
        go_simp
        all_goals with_reducible rfl
      conv =>
        arg 8
        simp [go_sem]
      refine wpAnyH_take (i := 2) (v := ?_) rfl (by kernel_rfl) (by kernel_rfl) (by kernel_rfl) (fun _ _ _ h => h) (yieldsIf_val (by rfl) (fun w' hS => ?_)) trivial ?_
      rotate_left
      · skip
        go_simp
        all_goals with_reducible rfl
      conv =>
        arg 8
        simp [go_sem]
      refine wpAnyH_take (i := 3) (v := ?_) rfl (by kernel_rfl) (by kernel_rfl) (by kernel_rfl) (fun _ _ _ h => h) (yieldsIf_val (by rfl) (fun w' hS => ?_)) trivial ?_
      rotate_left
      · skip
        have r := i64_rem m 4 hm0
        go_simp
        all_goals with_reducible rfl
      conv =>
        arg 8
        simp [go_sem]
      refine wpAnyH_take (i := 4) (v := ?_) rfl (by kernel_rfl) (by kernel_rfl) (by kernel_rfl) (fun _ _ _ h => h) (yieldsIf_val (by rfl) (fun w' hS => ?_)) trivial ?_
      rotate_left
      · skip
        go_simp
        all_goals with_reducible rfl
      conv =>
        arg 8
        simp [go_sem]
      refine wpAnyH_take (i := 5) (v := ?_) rfl (by kernel_rfl) (by kernel_rfl) (by kernel_rfl) (fun _ _ _ h => h) (yieldsIf_val (by rfl) (fun w' hS => ?_)) trivial ?_
      rotate_left
      · skip
        have r := i64_quo m 4 hm0 hmlt (by decide)
        go_simp
        all_goals with_reducible rfl
      conv =>
        arg 8
        simp [go_sem]
      refine wpAnyH_take (i := 6) (v := ?_) rfl (by kernel_rfl) (by kernel_rfl) (by kernel_rfl) (fun _ _ _ h => h) (yieldsIf_val (by rfl) (fun w' hS => ?_)) trivial ?_
      rotate_left
      · skip
        have r := i64_rem (m / 4) 2 (by omega)
        go_simp
        all_goals with_reducible rfl
      conv =>
        arg 8
        simp [go_sem]
      refine wpAnyH_take (i := 7) (v := ?_) rfl (by kernel_rfl) (by kernel_rfl) (by kernel_rfl) (fun _ _ _ h => h) (yieldsIf_val (by rfl) (fun w' hS => ?_)) trivial ?_
      rotate_left
      · skip
        go_simp
        all_goals with_reducible rfl
      conv =>
        arg 8
        simp [go_sem]
      refine wpAnyH_take (i := 8) (v := ?_) rfl (by kernel_rfl) (by kernel_rfl) (by kernel_rfl) (fun _ _ _ h => h) (yieldsIf_val (by rfl) (fun w' hS => ?_)) trivial ?_
      rotate_left
      · skip
        go_simp
        all_goals with_reducible rfl
      conv =>
        arg 8
        simp [go_sem]
      refine wpAnyH_take (i := 9) (v := ?_) rfl (by kernel_rfl) (by kernel_rfl) (by kernel_rfl) (fun _ _ _ h => h) (yieldsIf_val (by rfl) (fun w' hS => ?_)) trivial ?_
      rotate_left
      · skip
        go_simp
        all_goals with_reducible rfl
      conv =>
        arg 8
        simp [go_sem]
      refine wpAnyH_take (i := 10) (v := ?_) rfl (by kernel_rfl) (by kernel_rfl) (by kernel_rfl) (fun _ _ _ h => h) (yieldsIf_val (by rfl) (fun w' hS => ?_)) trivial ?_
      rotate_left
      · skip
        have r := i64_quo m 8 hm0 hmlt (by decide)
        go_simp
        all_goals with_reducible rfl
      conv =>
        arg 8
        simp [go_sem]
      conv =>
        arg 8
        simp [go_sem]
      refine wpAnyH_ready (rs := [1, 11]) (by kernel_rfl) (by simp) ?_
      refine AllReadyH.cons rfl (fun K' hK' => ?_) (AllReadyH.cons rfl (fun K' hK' => ?_) AllReadyH.nil)
      · refine oper_load1 (by rfl) 24 (.tmp 34) rfl (by kernel_rfl) rfl (HC.out.t.cellOf (i := 1) rfl) ?_
        refine hK'.out _ _ trivial (fun _ => ?_)
        clear hK' K'
        conv =>
          arg 8
          simp [go_sem]
        conv =>
          arg 8
          simp [go_sem]
        refine wpAnyH_ready (rs := [11]) (by kernel_rfl) (by simp) ?_
        refine AllReadyH.cons rfl (fun K' hK' => ?_) AllReadyH.nil
        refine oper_call (by rfl) 93 [.tmp 42, .tmp 44] #[117, 3] rfl (vs := [.pointer (some ⟨w.heap.size + 1, 0, none⟩), .int .i64 (m / 8)]) rfl Try.func93 gt_nm gt_bd (gtext_I HC.out.r (by omega) (by omega) (by omega) (by omega)) ?_
        rintro e w6 ⟨rfl, hr6, hb6⟩
        have HD := Box.mk (HC.out.call hr6 hb6)
        generalize hgt : gT (m / 8).toNat lm = q at *
        obtain ⟨x, l2⟩ := q
        have HRX := Box.mk (gC_eq W1.out hgt)
        clear hb6 hr6 hgt
        refine ⟨_, rfl, hK'.out _ _ trivial (fun _ => ?_)⟩
        clear hK' K'
        conv =>
          arg 8
          simp [go_sem]
        refine wpAnyH_take (i := 12) (v := ?_) rfl (by kernel_rfl) (by kernel_rfl) (by kernel_rfl) (fun _ _ _ h => h) (yieldsIf_val (by rfl) (fun w' hS => ?_)) trivial ?_
        rotate_left
        · skip
          go_simp
          all_goals with_reducible rfl
        conv =>
          arg 8
          simp [go_sem]
        conv =>
          arg 8
          simp [go_sem]
        refine wpAnyH_ready (rs := [13]) (by kernel_rfl) (by simp) ?_
        refine AllReadyH.cons rfl (fun K' hK' => ?_) AllReadyH.nil
        refine oper_litA (by rfl) 24 (.tmp 46) rfl sl_cols (cs := [.string ⟨x.toArray⟩, .int .i64 (m % 4), .bool (m / 4 % 2 == 1)]) rfl rfl (by omega) (by omega) ?_
        refine hK'.out _ _ trivial (fun _ => ?_)
        clear hK' K'
        conv =>
          arg 8
          simp [go_sem]
        conv =>
          arg 8
          simp [go_sem]
        refine wpAnyH_ready (rs := [14]) (by kernel_rfl) (by simp) ?_
        refine AllReadyH.cons rfl (fun K' hK' => ?_) AllReadyH.nil
        have SRC := Box.mk (Src.ofRd (P := Try.prog) (rd_newAt (w := w6) (arr := #[.string ⟨x.toArray⟩, .int .i64 (m % 4), .bool (m / 4 % 2 == 1)]) (cs := recC Col.enc [(⟨x, m % 4, (m / 4 % 2 == 1)⟩ : Col)]) (e := 50) (n := 1) (g := w6.heap.size) (size := 3) rfl rfl rfl (by simp [maxLen])) (recC_one Col.enc_one _))
        have TA := Box.mk (HD.out.o.step ((Below.refl _ _).alloc (Nat.le_refl _) (.cells #[.string ⟨x.toArray⟩, .int .i64 (m % 4), .bool (m / 4 % 2 == 1)] 50)))
        have hbs := HD.out.big
        refine oper_append2 (by rfl) (.tmp 35) (.tmp 47) 24 24 rfl sl_cols (.inl sl_cols.ht) rfl TA.out.cols rfl SRC.out (by show (cols.length + 1) * _ ≤ _; omega) (by show cols.length + 1 ≤ _; unfold maxLen; omega) (by simp; omega) ?_
        intro a7 c7 w7 hown7 hgr7 hnew7
        have HA := Box.mk (And.intro hgr7 (And.intro hown7 hnew7))
        clear hown7 hgr7 hnew7 hbs SRC TA
        refine hK'.out _ _ trivial (fun _ => ?_)
        clear hK' K'
        conv =>
          arg 8
          simp [go_sem]
        refine wpAnyH_take (i := 15) (v := ?_) rfl (by kernel_rfl) (by kernel_rfl) (by kernel_rfl) (fun _ _ _ h => h) (yieldsIf_val (by rfl) (fun w' hS => ?_)) trivial ?_
        rotate_left
        · skip
          go_simp
          all_goals with_reducible rfl
        conv =>
          arg 8
          simp [go_sem]
        conv =>
          arg 8
          simp [go_sem]
        refine wpAnyH_ready (rs := [16]) (by kernel_rfl) (by simp) ?_
        refine AllReadyH.cons rfl (fun K' hK' => ?_) AllReadyH.nil
        have BT := Box.mk (HD.out.t.eq ((HD.out.grown HD.out.o.cols HA.out.1).1 g (by omega)))
        refine oper_store_part (by rfl) 24 (.tmp 49) (.tmp 48) rfl rfl (size := 1) (off := 1) (by kernel_rfl) BT.out (by simp) rfl (cs := [.slice a7 (cols.length + 1) c7]) rfl rfl (by simp [Value.oneCell']) ?_
        refine hK'.out _ _ trivial (fun _ => ?_)
        clear hK' K'
        conv =>
          arg 8
          simp [go_sem]
        refine ⟨by kernel_rfl, ?_⟩
        conv =>
          arg 5
          simp [go_sem]
        have H8 := Box.mk (show QSt w.heap.size g (14 + 14 * k + 1 + 13) w (w7.setRow g (splice [.string ⟨nm.toArray⟩, .slice ca cols.length cc, .slice none 0 0, .slice none 0 0] 1 [.slice a7 (cols.length + 1) c7]).toArray) ⟨nm, a7, c7, cols ++ [(⟨x, m % 4, (m / 4 % 2 == 1)⟩ : Col)], none, 0, [], none, 0, []⟩ l2 from HD.out.addCol (⟨x, m % 4, (m / 4 % 2 == 1)⟩ : Col) HA.out.1 HA.out.2.1 HA.out.2.2 _ rfl)
        have HN8 := Box.mk (gMany_succ HM.out HRX.out)
        generalize (w7.setRow g (splice [.string ⟨nm.toArray⟩, .slice ca cols.length cc, .slice none 0 0, .slice none 0 0] 1 [.slice a7 (cols.length + 1) c7]).toArray) = w8 at *
        go_wp2_with fail
        exact ⟨⟨k + 1, by omega, by first | omega | go_num, cols ++ [(⟨x, m % 4, (m / 4 % 2 == 1)⟩ : Col)], a7, c7, l2, ⟨And.intro HN8.out (H8.out.more (by omega))⟩⟩, by simp [intOf]; omega⟩
      · refine oper_call (by rfl) 93 [.tmp 42, .tmp 44] #[117, 3] rfl (vs := [.pointer (some ⟨w.heap.size + 1, 0, none⟩), .int .i64 (m / 8)]) rfl Try.func93 gt_nm gt_bd (gtext_I HC.out.r (by omega) (by omega) (by omega) (by omega)) ?_
        rintro e w6 ⟨rfl, hr6, hb6⟩
        have HD := Box.mk (HC.out.call hr6 hb6)
        generalize hgt : gT (m / 8).toNat lm = q at *
        obtain ⟨x, l2⟩ := q
        have HRX := Box.mk (gC_eq W1.out hgt)
        clear hb6 hr6 hgt
        refine ⟨_, rfl, hK'.out _ _ trivial (fun _ => ?_)⟩
        clear hK' K'
        conv =>
          arg 8
          simp [go_sem]
        refine wpAnyH_take (i := 12) (v := ?_) rfl (by kernel_rfl) (by kernel_rfl) (by kernel_rfl) (fun _ _ _ h => h) (yieldsIf_val (by rfl) (fun w' hS => ?_)) trivial ?_
        rotate_left
        · skip
          go_simp
          all_goals with_reducible rfl
        conv =>
          arg 8
          simp [go_sem]
        conv =>
          arg 8
          simp [go_sem]
        refine wpAnyH_ready (rs := [1, 13]) (by kernel_rfl) (by simp) ?_
        refine AllReadyH.cons rfl (fun K' hK' => ?_) (AllReadyH.cons rfl (fun K' hK' => ?_) AllReadyH.nil)
        · refine oper_load1 (by rfl) 24 (.tmp 34) rfl (by kernel_rfl) rfl (HD.out.t.cellOf (i := 1) rfl) ?_
          refine hK'.out _ _ trivial (fun _ => ?_)
          clear hK' K'
          conv =>
            arg 8
            simp [go_sem]
          conv =>
            arg 8
            simp [go_sem]
          refine wpAnyH_ready (rs := [13]) (by kernel_rfl) (by simp) ?_
          refine AllReadyH.cons rfl (fun K' hK' => ?_) AllReadyH.nil
          refine oper_litA (by rfl) 24 (.tmp 46) rfl sl_cols (cs := [.string ⟨x.toArray⟩, .int .i64 (m % 4), .bool (m / 4 % 2 == 1)]) rfl rfl (by omega) (by omega) ?_
          refine hK'.out _ _ trivial (fun _ => ?_)
          clear hK' K'
          conv =>
            arg 8
            simp [go_sem]
          conv =>
            arg 8
            simp [go_sem]
          refine wpAnyH_ready (rs := [14]) (by kernel_rfl) (by simp) ?_
          refine AllReadyH.cons rfl (fun K' hK' => ?_) AllReadyH.nil
          have SRC := Box.mk (Src.ofRd (P := Try.prog) (rd_newAt (w := w6) (arr := #[.string ⟨x.toArray⟩, .int .i64 (m % 4), .bool (m / 4 % 2 == 1)]) (cs := recC Col.enc [(⟨x, m % 4, (m / 4 % 2 == 1)⟩ : Col)]) (e := 50) (n := 1) (g := w6.heap.size) (size := 3) rfl rfl rfl (by simp [maxLen])) (recC_one Col.enc_one _))
          have TA := Box.mk (HD.out.o.step ((Below.refl _ _).alloc (Nat.le_refl _) (.cells #[.string ⟨x.toArray⟩, .int .i64 (m % 4), .bool (m / 4 % 2 == 1)] 50)))
          have hbs := HD.out.big
          refine oper_append2 (by rfl) (.tmp 35) (.tmp 47) 24 24 rfl sl_cols (.inl sl_cols.ht) rfl TA.out.cols rfl SRC.out (by show (cols.length + 1) * _ ≤ _; omega) (by show cols.length + 1 ≤ _; unfold maxLen; omega) (by simp; omega) ?_
          intro a7 c7 w7 hown7 hgr7 hnew7
          have HA := Box.mk (And.intro hgr7 (And.intro hown7 hnew7))
          clear hown7 hgr7 hnew7 hbs SRC TA
          refine hK'.out _ _ trivial (fun _ => ?_)
          clear hK' K'
          conv =>
            arg 8
            simp [go_sem]
          refine wpAnyH_take (i := 15) (v := ?_) rfl (by kernel_rfl) (by kernel_rfl) (by kernel_rfl) (fun _ _ _ h => h) (yieldsIf_val (by rfl) (fun w' hS => ?_)) trivial ?_
          rotate_left
          · skip
            go_simp
            all_goals with_reducible rfl
          conv =>
            arg 8
            simp [go_sem]
          conv =>
            arg 8
            simp [go_sem]
          refine wpAnyH_ready (rs := [16]) (by kernel_rfl) (by simp) ?_
          refine AllReadyH.cons rfl (fun K' hK' => ?_) AllReadyH.nil
          have BT := Box.mk (HD.out.t.eq ((HD.out.grown HD.out.o.cols HA.out.1).1 g (by omega)))
          refine oper_store_part (by rfl) 24 (.tmp 49) (.tmp 48) rfl rfl (size := 1) (off := 1) (by kernel_rfl) BT.out (by simp) rfl (cs := [.slice a7 (cols.length + 1) c7]) rfl rfl (by simp [Value.oneCell']) ?_
          refine hK'.out _ _ trivial (fun _ => ?_)
          clear hK' K'
          conv =>
            arg 8
            simp [go_sem]
          refine ⟨by kernel_rfl, ?_⟩
          conv =>
            arg 5
            simp [go_sem]
          have H8 := Box.mk (show QSt w.heap.size g (14 + 14 * k + 1 + 13) w (w7.setRow g (splice [.string ⟨nm.toArray⟩, .slice ca cols.length cc, .slice none 0 0, .slice none 0 0] 1 [.slice a7 (cols.length + 1) c7]).toArray) ⟨nm, a7, c7, cols ++ [(⟨x, m % 4, (m / 4 % 2 == 1)⟩ : Col)], none, 0, [], none, 0, []⟩ l2 from HD.out.addCol (⟨x, m % 4, (m / 4 % 2 == 1)⟩ : Col) HA.out.1 HA.out.2.1 HA.out.2.2 _ rfl)
          have HN8 := Box.mk (gMany_succ HM.out HRX.out)
          generalize (w7.setRow g (splice [.string ⟨nm.toArray⟩, .slice ca cols.length cc, .slice none 0 0, .slice none 0 0] 1 [.slice a7 (cols.length + 1) c7]).toArray) = w8 at *
          go_wp2_with fail
          exact ⟨⟨k + 1, by omega, by first | omega | go_num, cols ++ [(⟨x, m % 4, (m / 4 % 2 == 1)⟩ : Col)], a7, c7, l2, ⟨And.intro HN8.out (H8.out.more (by omega))⟩⟩, by simp [intOf]; omega⟩
        · refine oper_litA (by rfl) 24 (.tmp 46) rfl sl_cols (cs := [.string ⟨x.toArray⟩, .int .i64 (m % 4), .bool (m / 4 % 2 == 1)]) rfl rfl (by omega) (by omega) ?_
          refine hK'.out _ _ trivial (fun _ => ?_)
          clear hK' K'
          conv =>
            arg 8
            simp [go_sem]
          conv =>
            arg 8
            simp [go_sem]
          refine wpAnyH_ready (rs := [1]) (by kernel_rfl) (by simp) ?_
          refine AllReadyH.cons rfl (fun K' hK' => ?_) AllReadyH.nil
          refine oper_load1 (by rfl) 24 (.tmp 34) rfl (by kernel_rfl) rfl ((HD.out.t.alloc _).cellOf (i := 1) rfl) ?_
          refine hK'.out _ _ trivial (fun _ => ?_)
          clear hK' K'
          conv =>
            arg 8
            simp [go_sem]
          conv =>
            arg 8
            simp [go_sem]
          refine wpAnyH_ready (rs := [14]) (by kernel_rfl) (by simp) ?_
          refine AllReadyH.cons rfl (fun K' hK' => ?_) AllReadyH.nil
          have SRC := Box.mk (Src.ofRd (P := Try.prog) (rd_newAt (w := w6) (arr := #[.string ⟨x.toArray⟩, .int .i64 (m % 4), .bool (m / 4 % 2 == 1)]) (cs := recC Col.enc [(⟨x, m % 4, (m / 4 % 2 == 1)⟩ : Col)]) (e := 50) (n := 1) (g := w6.heap.size) (size := 3) rfl rfl rfl (by simp [maxLen])) (recC_one Col.enc_one _))
          have TA := Box.mk (HD.out.o.step ((Below.refl _ _).alloc (Nat.le_refl _) (.cells #[.string ⟨x.toArray⟩, .int .i64 (m % 4), .bool (m / 4 % 2 == 1)] 50)))
          have hbs := HD.out.big
          refine oper_append2 (by rfl) (.tmp 35) (.tmp 47) 24 24 rfl sl_cols (.inl sl_cols.ht) rfl TA.out.cols rfl SRC.out (by show (cols.length + 1) * _ ≤ _; omega) (by show cols.length + 1 ≤ _; unfold maxLen; omega) (by simp; omega) ?_
          intro a7 c7 w7 hown7 hgr7 hnew7
          have HA := Box.mk (And.intro hgr7 (And.intro hown7 hnew7))
          clear hown7 hgr7 hnew7 hbs SRC TA
          refine hK'.out _ _ trivial (fun _ => ?_)
          clear hK' K'
          conv =>
            arg 8
            simp [go_sem]
          refine wpAnyH_take (i := 15) (v := ?_) rfl (by kernel_rfl) (by kernel_rfl) (by kernel_rfl) (fun _ _ _ h => h) (yieldsIf_val (by rfl) (fun w' hS => ?_)) trivial ?_
          rotate_left
          · skip
            go_simp
            all_goals with_reducible rfl
          conv =>
            arg 8
            simp [go_sem]
          conv =>
            arg 8
            simp [go_sem]
          refine wpAnyH_ready (rs := [16]) (by kernel_rfl) (by simp) ?_
          refine AllReadyH.cons rfl (fun K' hK' => ?_) AllReadyH.nil
          have BT := Box.mk (HD.out.t.eq ((HD.out.grown HD.out.o.cols HA.out.1).1 g (by omega)))
          refine oper_store_part (by rfl) 24 (.tmp 49) (.tmp 48) rfl rfl (size := 1) (off := 1) (by kernel_rfl) BT.out (by simp) rfl (cs := [.slice a7 (cols.length + 1) c7]) rfl rfl (by simp [Value.oneCell']) ?_
          refine hK'.out _ _ trivial (fun _ => ?_)
          clear hK' K'
          conv =>
            arg 8
            simp [go_sem]
          refine ⟨by kernel_rfl, ?_⟩
          conv =>
            arg 5
            simp [go_sem]
          have H8 := Box.mk (show QSt w.heap.size g (14 + 14 * k + 1 + 13) w (w7.setRow g (splice [.string ⟨nm.toArray⟩, .slice ca cols.length cc, .slice none 0 0, .slice none 0 0] 1 [.slice a7 (cols.length + 1) c7]).toArray) ⟨nm, a7, c7, cols ++ [(⟨x, m % 4, (m / 4 % 2 == 1)⟩ : Col)], none, 0, [], none, 0, []⟩ l2 from HD.out.addCol (⟨x, m % 4, (m / 4 % 2 == 1)⟩ : Col) HA.out.1 HA.out.2.1 HA.out.2.2 _ rfl)
          have HN8 := Box.mk (gMany_succ HM.out HRX.out)
          generalize (w7.setRow g (splice [.string ⟨nm.toArray⟩, .slice ca cols.length cc, .slice none 0 0, .slice none 0 0] 1 [.slice a7 (cols.length + 1) c7]).toArray) = w8 at *
          go_wp2_with fail
          exact ⟨⟨k + 1, by omega, by first | omega | go_num, cols ++ [(⟨x, m % 4, (m / 4 % 2 == 1)⟩ : Col)], a7, c7, l2, ⟨And.intro HN8.out (H8.out.more (by omega))⟩⟩, by simp [intOf]; omega⟩
      done
    · obtain rfl : k = n1 := by omega
      have HC := Box.mk (show gCols l = (cols, lk) from by unfold gCols; rw [HGN.out, HH.out, show (h % 16).toNat = k from by have := HN1.out; omega]; exact HB.out.1)
      have HC1 := Box.mk (show cols.length ≤ 15 from by rw [HCL.out]; omega)
      have HP := Box.mk (HB.out.2.more (Q := 300) (by omega))
      have hkn : ¬ (k : Int) < h % 16 := by rw [HN1.out]; omega
      clear HB
      obtain ⟨n2, hn2⟩ : ∃ n : Nat, h / 16 % 16 = n := Int.eq_ofNat_of_zero_le (by omega)
      have hn2b : n2 ≤ 15 := by omega
      have HN2 := Box.mk hn2
      clear hn2
      go_wp2_with fail
      clear hkn
      go_loopw [8] (fun i wr => ∃ k : Nat, k ≤ n2 ∧ i = .int .i64 k ∧ ∃ (ixs : List IxP) (ia : Option Addr) (ic : Nat) (lj : List Int), Box (gMany gI lk k = (ixs.map (·.x), lj) ∧ QSt w.heap.size g (300 + 15 * k) w wr ⟨nm, ca, cc, cols, ia, ic, ixs, none, 0, []⟩ lj)) (fun i _ => n2 - (intOf i).toNat)
      case atStart => exact ⟨0, Nat.zero_le _, rfl, [], none, 0, lk, ⟨And.intro rfl HP.out⟩⟩
      case round =>
        clear HP
        obtain ⟨k2, hk2, rfl, ixs, ia, ic, lj, HB⟩ := hrel
        have HKL := Box.mk (show ixs.length = k2 from by have := gMany_len gI lk k2; rw [HB.out.1] at this; simpa using this)
        by_cases hlt2 : k2 < n2
        · have hkh2 : (k2 : Int) < h / 16 % 16 := by rw [HN2.out]; omega
          go_wp2_with fail
          refine (gword_any HB.out.2.r (by omega) (by omega)).mono ?_
          rintro e w5 ⟨rfl, hr5, hb5, hmlt⟩
          have hm0 := gW_ge lj
          have H5 := Box.mk (HB.out.2.call hr5 hb5)
          have HM := Box.mk HB.out.1
          generalize hq : gW lj = q at *
          obtain ⟨m, lm⟩ := q
          have W1 := Box.mk hq
          simp only at hm0 hmlt
          have hk15 : k2 ≤ 15 := by omega
          clear hr5 hb5 hq HB hkh2
          go_wp2_with fail
          refine (gword_any H5.out.r (by omega) (by omega)).mono ?_
          rintro e w6 ⟨rfl, hr6, hb6, hclt⟩
          have hc0 := gW_ge lm
          have H6 := Box.mk (H5.out.call hr6 hb6)
          generalize hq : gW lm = q at *
          obtain ⟨cw, lc⟩ := q
          have W2 := Box.mk hq
          simp only at hc0 hclt
          clear hr6 hb6 hq H5
          go_wp2_with fail
          refine (gtext_I (n := m / 32) H6.out.r (by omega) (by omega) (by omega) (by omega)).mono ?_
          rintro e w7 ⟨rfl, hr7, hb7⟩
          have H7 := Box.mk (H6.out.call hr7 hb7)
          generalize hgt : gT (m / 32).toNat lc = q at *
          obtain ⟨x, lx⟩ := q
          have W3 := Box.mk hgt
          clear hr7 hb7 hgt H6
          obtain ⟨n3, hn3⟩ : ∃ n : Nat, m / 2 % 16 = n := Int.eq_ofNat_of_zero_le (by omega)
          have hn3b : n3 ≤ 15 := by omega
          have HN3 := Box.mk (And.intro hn3 (show (m / 2 % 16).toNat = n3 from by omega))
          clear hn3
          go_wp2_with fail
          have HQ := Box.mk (And.intro (Blk.new (w := w7) (k := w7.heap.size) (ty := 55) (arr := #[.string ⟨x.toArray⟩, .slice none 0 0, .bool (m % 2 == 1)]) (cs := [.string ⟨x.toArray⟩, .slice none 0 0, .bool (m % 2 == 1)]) rfl rfl) ((Below.refl w7.heap.size w7).alloc (Nat.le_refl _) (.cells #[.string ⟨x.toArray⟩, .slice none 0 0, .bool (m % 2 == 1)] 55)))
          go_loopw [10, 12] (fun d i wr2 => ∃ j : Nat, j ≤ n3 ∧ d = .int .i64 (cw / ((16 ^ j : Nat) : Int)) ∧ i = .int .i64 j ∧ ∃ (na : Option Addr) (nc : Nat), Box (wr2.ownsRow (w7.heap.size + 1) 3 1 (.slice na j nc) j (intVals (digits cw j)) ∧ Blk wr2 w7.heap.size 55 [.string ⟨x.toArray⟩, .slice na j nc, .bool (m % 2 == 1)] ∧ Below w7.heap.size w7 wr2)) (fun _ i _ => n3 - (intOf i).toNat)
          case atStart => exact ⟨0, Nat.zero_le _, by simp, rfl, none, 0, ⟨World.ownsRow_nil _ _ _ _, HQ.out.1, HQ.out.2⟩⟩
          case round =>
            obtain ⟨j, hj, rfl, rfl, na, nc, HB⟩ := hrel
            by_cases hlt3 : j < n3
            · have hjh : (j : Int) < m / 2 % 16 := by rw [HN3.out.1]; omega
              have HS3 := Box.mk (And.intro (digits_succ cw j) (digits_step cw j))
              obtain ⟨D, hD⟩ : ∃ D, cw / ((16 ^ j : Nat) : Int) = D := ⟨_, rfl⟩
              have hD0 : 0 ≤ D := by rw [← hD]; exact Int.ediv_nonneg hc0 (Int.natCast_nonneg _)
              have hD1 : D < 9223372036854775808 := by rw [← hD]; exact Int.lt_of_le_of_lt (Int.ediv_le_self _ hc0) hclt
              rw [hD] at HS3 ⊢
              clear hD
              have c1 := HB.out.2.1.cellOf (i := 1) rfl
              have hszr : w7.heap.size + 1 ≤ wr.heap.size := HB.out.2.1.lt
              have ho := HB.out.1
              go_wp2_with (at_builtin; refine wpList_append_src rfl _ _ 32 32 rfl sl_int (.inl sl_int.ht) rfl (ho.alloc _) rfl (Src.oneNew _ _ _ rfl) (by omega) (by unfold maxLen; omega) (by simp; omega) ?_; intro a9 c9 w9 hown9 hgr9 hnew9; have BQ9 := Box.mk ((HB.out.2.1.alloc (.cells #[.int .i64 (D % 16)] 3)).grown hgr9 (fun e => by have := (HB.out.1.lt _ e).1; omega)); have d1 := BQ9.out.cellOf (i := 1) rfl; have f1 := BQ9.out.free 1)
              have hb9 := below_grown (HB.out.2.2.alloc (by omega) (.cells #[.int .i64 (D % 16)] 3)) hgr9 (ho.alloc _) (by omega) (by simp; omega)
              refine ⟨⟨j + 1, by omega, by rw [HS3.out.2], by go_num, a9, c9, ⟨?_, BQ9.out.set 1 _, hb9.setCell (Nat.le_refl _) _⟩⟩, by simp [intOf]; omega⟩
              rw [HS3.out.1]
              have hown9' := ownsRow_setCell_below hown9 (a := ⟨w7.heap.size, 1, none⟩) (by show w7.heap.size < w7.heap.size + 1; omega) (.slice a9 (j + 1) c9)
              simpa [intVals] using hown9'
            · obtain rfl : j = n3 := by omega
              have hjh : ¬ (j : Int) < m / 2 % 16 := by rw [HN3.out.1]; omega
              have HT := Box.mk (H7.out.step HB.out.2.2)
              have H7s := Box.mk (And.intro H7.out.big (And.intro (show ∀ b, ia = some b → b.block < w7.heap.size from fun b hb => (H7.out.o.ixs.lt b.block (by show (Value.slice ia _ ic).ownBlock = _; rw [hb]; rfl)).2) (show ∀ b, ca = some b → b.block < w7.heap.size from fun b hb => (H7.out.o.cols.lt b.block (by show (Value.slice ca _ cc).ownBlock = _; rw [hb]; rfl)).2)))
              have HBB := Box.mk HB.out
              clear H7 HB
              have HRX := Box.mk (gI_eq W1.out W2.out W3.out)
              obtain ⟨D, hD⟩ : ∃ D, cw / ((16 ^ j : Nat) : Int) = D := ⟨_, rfl⟩
              rw [hD]
              clear hD
              have x2 := HT.out.t.cellOf (i := 2) rfl
              have y0 := HBB.out.2.1.cellOf (i := 0) rfl
              have y1 := HBB.out.2.1.cellOf (i := 1) rfl
              have y2 := HBB.out.2.1.cellOf (i := 2) rfl
              have hil : ixs.length ≤ 15 := by rw [HKL.out]; omega
              have SRC := Box.mk (Src.ofRd (P := Try.prog) (rd_newAt (w := wr) (arr := #[.string ⟨x.toArray⟩, .slice na j nc, .bool (m % 2 == 1)]) (cs := recC IxP.enc [(⟨⟨x, digits cw j, (m % 2 == 1)⟩, na, nc⟩ : IxP)]) (e := 55) (n := 1) (g := wr.heap.size) (size := 3) rfl (by show _ = #[Value.string ⟨x.toArray⟩, .slice na (digits cw j).length nc, .bool (m % 2 == 1)]; rw [digits_len]) rfl (by simp [maxLen])) (recC_one IxP.enc_one _))
              have TA := Box.mk (HT.out.o.step ((Below.refl _ _).alloc (Nat.le_refl _) (.cells #[.string ⟨x.toArray⟩, .slice na j nc, .bool (m % 2 == 1)] 55)))
              have hbs := HT.out.big
              go_wp2_with (at_builtin; refine wpList_append_src rfl _ _ 25 25 rfl sl_ixs (.inl sl_ixs.ht) rfl TA.out.ixs rfl SRC.out (by show (ixs.length + 1) * _ ≤ _; omega) (by show ixs.length + 1 ≤ _; unfold maxLen; omega) (by simp; omega) ?_; intro a9 c9 w9 hown9 hgr9 hnew9; have BT := Box.mk (HT.out.t.eq ((HT.out.grown HT.out.o.ixs hgr9).1 g (by omega))); have d2 := BT.out.cellOf (i := 2) rfl; have f2 := BT.out.free 2)
              have hws := H7s.out
              have H9 := HT.out.addIxC ⟨⟨x, digits cw j, (m % 2 == 1)⟩, na, nc⟩ hgr9 hown9 hnew9 (by show Rd wr na (digits cw j).length nc 1 _; rw [digits_len]; exact Rd.ofOwn HBB.out.1) (fun ad had => by
                have h1 := HBB.out.1.lt ad.block (by show (Value.slice na j nc).ownBlock = _; rw [show na = some ad from had]; rfl)
                exact ⟨by omega, h1.2, fun b hb => by have := (hws.2.1 b hb); omega, fun b hb => by have := (hws.2.2 b hb); omega⟩) rfl
              refine ⟨⟨k2 + 1, by omega, by go_num, ixs ++ [(⟨⟨x, digits cw j, (m % 2 == 1)⟩, na, nc⟩ : IxP)], a9, c9, lx, ⟨And.intro ?_ (H9.more (by omega))⟩⟩, by simp [intOf]; omega⟩
              rw [List.map_append]
              refine gMany_succ HM.out ?_
              rw [HRX.out, HN3.out.2]
        · obtain rfl : k2 = n2 := by omega
          have HI := Box.mk (show gIxs l = (ixs.map (·.x), lj) from by unfold gIxs; rw [HC.out, HH.out, show (h / 16 % 16).toNat = k2 from by have := HN2.out; omega]; exact HB.out.1)
          have HC2 := Box.mk (show ixs.length ≤ 15 from by rw [HKL.out]; omega)
          have HP := Box.mk (HB.out.2.more (Q := 600) (by omega))
          have hkn : ¬ (k2 : Int) < h / 16 % 16 := by rw [HN2.out]; omega
          clear HB HKL
          obtain ⟨n4, hn4⟩ : ∃ n : Nat, h / 256 % 16 = n := Int.eq_ofNat_of_zero_le (by omega)
          have hn4b : n4 ≤ 15 := by omega
          have HN4 := Box.mk hn4
          clear hn4
          go_wp2_with fail
          clear hkn
          go_loopw [13] (fun i wr => ∃ k : Nat, k ≤ n4 ∧ i = .int .i64 k ∧ ∃ (chks : List Chk) (ha : Option Addr) (hc : Nat) (li : List Int), Box (gMany (gK cols) lj k = (chks, li) ∧ QSt w.heap.size g (600 + 15 * k) w wr ⟨nm, ca, cc, cols, ia, ic, ixs, ha, hc, chks⟩ li)) (fun i _ => n4 - (intOf i).toNat)
          case atStart => exact ⟨0, Nat.zero_le _, rfl, [], none, 0, lj, ⟨And.intro rfl HP.out⟩⟩
          case round =>
            clear HP
            obtain ⟨k4, hk4, rfl, chks, ha, hc, li, HB⟩ := hrel
            have HKL := Box.mk (show chks.length = k4 from by have := gMany_len (gK cols) lj k4; rw [HB.out.1] at this; exact this)
            by_cases hlt4 : k4 < n4
            · have hkh4 : (k4 : Int) < h / 256 % 16 := by rw [HN4.out]; omega
              go_wp2_with fail
              refine (gword_any HB.out.2.r (by omega) (by omega)).mono ?_
              rintro e w5 ⟨rfl, hr5, hb5, hmlt⟩
              have hm0 := gW_ge li
              have H5 := Box.mk (HB.out.2.call hr5 hb5)
              have HM := Box.mk HB.out.1
              generalize hq : gW li = q at *
              obtain ⟨m, lm⟩ := q
              have W1 := Box.mk hq
              simp only at hm0 hmlt
              have hk15 : k4 ≤ 15 := by omega
              have hhl : chks.length ≤ 15 := by rw [HKL.out]; omega
              have hcl := HC1.out
              have x1 := H5.out.t.cellOf (i := 1) rfl
              clear hr5 hb5 hq HB hkh4
              by_cases hcol : m % 16 < (cols.length : Int)
              · have hI2 : (m % 16).toNat < cols.length := by omega
                obtain ⟨gk, ok, rfl, hgk, hck⟩ := (Rd.ofOwn H5.out.o.cols).recAt Col.enc_len (by omega) (m % 16).toNat hI2
                have HK := Box.mk (show gKind cols m = (cols.getD (m % 16).toNat default).kind from if_pos hcol)
                have hck1 := hck 1 _ rfl
                generalize (cols.getD (m % 16).toNat default).kind = K at *
                clear hck hgk
                go_wp2_with fail
                clear x1 hck1
                refine wp_region_held_drew (S := fun _ => True) (by kernel_rfl) trivial (fun _ => ?_)
                have HC := Box.mk H5.out.drew
                refine wpAnyH_take (i := 0) (v := ?_) rfl (by kernel_rfl) (by kernel_rfl) (by kernel_rfl) (fun _ _ _ h => h) (yieldsIf_val (by rfl) (fun w' hS => ?_)) trivial ?_
                rotate_left
                · skip
                  go_simp
                  all_goals with_reducible rfl
                conv =>
                  arg 8
                  simp [go_sem]
                refine wpAnyH_take (i := 2) (v := ?_) rfl (by kernel_rfl) (by kernel_rfl) (by kernel_rfl) (fun _ _ _ h => h) (yieldsIf_val (by rfl) (fun w' hS => ?_)) trivial ?_
                rotate_left
                · skip
                  go_simp
                  all_goals with_reducible rfl
                conv =>
                  arg 8
                  simp [go_sem]
                refine wpAnyH_take (i := 3) (v := ?_) rfl (by kernel_rfl) (by kernel_rfl) (by kernel_rfl) (fun _ _ _ h => h) (yieldsIf_val (by rfl) (fun w' hS => ?_)) trivial ?_
                rotate_left
                · skip
                  have r := i64_rem m 16 hm0
                  go_simp
                  all_goals with_reducible rfl
                conv =>
                  arg 8
                  simp [go_sem]
                refine wpAnyH_take (i := 4) (v := ?_) rfl (by kernel_rfl) (by kernel_rfl) (by kernel_rfl) (fun _ _ _ h => h) (yieldsIf_val (by rfl) (fun w' hS => ?_)) trivial ?_
                rotate_left
                · skip
                  go_simp
                  all_goals with_reducible rfl
                conv =>
                  arg 8
                  simp [go_sem]
                refine wpAnyH_take (i := 5) (v := ?_) rfl (by kernel_rfl) (by kernel_rfl) (by kernel_rfl) (fun _ _ _ h => h) (yieldsIf_val (by rfl) (fun w' hS => ?_)) trivial ?_
                rotate_left
                · skip
                  have r := i64_quo m 16 hm0 hmlt (by decide)
                  go_simp
                  all_goals with_reducible rfl
                conv =>
                  arg 8
                  simp [go_sem]
                refine wpAnyH_take (i := 6) (v := ?_) rfl (by kernel_rfl) (by kernel_rfl) (by kernel_rfl) (fun _ _ _ h => h) (yieldsIf_val (by rfl) (fun w' hS => ?_)) trivial ?_
                rotate_left
                · skip
                  go_simp
                  all_goals with_reducible rfl
                conv =>
                  arg 8
                  simp [go_sem]
                refine wpAnyH_take (i := 7) (v := ?_) rfl (by kernel_rfl) (by kernel_rfl) (by kernel_rfl) (fun _ _ _ h => h) (yieldsIf_val (by rfl) (fun w' hS => ?_)) trivial ?_
                rotate_left
                · skip
                  go_simp
                  all_goals with_reducible rfl
                conv =>
                  arg 8
                  simp [go_sem]
                conv =>
                  arg 8
                  simp [go_sem]
                refine wpAnyH_ready (rs := [1, 8]) (by kernel_rfl) (by simp) ?_
                refine AllReadyH.cons rfl (fun K' hK' => ?_) (AllReadyH.cons rfl (fun K' hK' => ?_) AllReadyH.nil)
                · refine oper_load1 (by rfl) 26 (.tmp 113) rfl (by kernel_rfl) rfl (HC.out.t.cellOf (i := 3) rfl) ?_
                  refine hK'.out _ _ trivial (fun _ => ?_)
                  clear hK' K'
                  conv =>
                    arg 8
                    simp [go_sem]
                  conv =>
                    arg 8
                    simp [go_sem]
                  refine wpAnyH_ready (rs := [8]) (by kernel_rfl) (by simp) ?_
                  refine AllReadyH.cons rfl (fun K' hK' => ?_) AllReadyH.nil
                  refine oper_call (by rfl) 94 [.tmp 119, .tmp 120] #[117, 3] rfl (vs := [.pointer (some ⟨w.heap.size + 1, 0, none⟩), .int .i64 K]) rfl Try.func94 gv_nm gv_bd (gvalue_any HC.out.r (by omega) (by omega)) ?_
                  rintro e w6 ⟨rfl, hr6, hb6⟩
                  have HD := Box.mk (HC.out.call hr6 hb6)
                  generalize hgt : gV K lm = q at *
                  obtain ⟨⟨vk, vn, vs⟩, lx⟩ := q
                  have HRX := Box.mk (gK_eq W1.out HK.out hgt)
                  clear hb6 hr6 hgt
                  refine ⟨.agg #[.int .i64 vk, .int .i64 vn, .string ⟨vs.toArray⟩], rfl, hK'.out _ _ trivial (fun _ => ?_)⟩
                  clear hK' K'
                  conv =>
                    arg 8
                    simp [go_sem]
                  refine wpAnyH_take (i := 9) (v := ?_) rfl (by kernel_rfl) (by kernel_rfl) (by kernel_rfl) (fun _ _ _ h => h) (yieldsIf_val (by rfl) (fun w' hS => ?_)) trivial ?_
                  rotate_left
                  · skip
                    go_simp
                    all_goals with_reducible rfl
                  conv =>
                    arg 8
                    simp [go_sem]
                  conv =>
                    arg 8
                    simp [go_sem]
                  refine wpAnyH_ready (rs := [10]) (by kernel_rfl) (by simp) ?_
                  refine AllReadyH.cons rfl (fun K' hK' => ?_) AllReadyH.nil
                  refine oper_litA (by rfl) 26 (.tmp 122) rfl sl_chks (cs := [.int .i64 (m % 16), .int .i64 (m / 16), .int .i64 vk, .int .i64 vn, .string ⟨vs.toArray⟩]) rfl rfl (by omega) (by omega) ?_
                  refine hK'.out _ _ trivial (fun _ => ?_)
                  clear hK' K'
                  conv =>
                    arg 8
                    simp [go_sem]
                  conv =>
                    arg 8
                    simp [go_sem]
                  refine wpAnyH_ready (rs := [11]) (by kernel_rfl) (by simp) ?_
                  refine AllReadyH.cons rfl (fun K' hK' => ?_) AllReadyH.nil
                  have SRC := Box.mk (Src.ofRd (P := Try.prog) (rd_newAt (w := w6) (arr := #[.int .i64 (m % 16), .int .i64 (m / 16), .int .i64 vk, .int .i64 vn, .string ⟨vs.toArray⟩]) (cs := recC Chk.enc [(⟨m % 16, m / 16, ⟨vk, vn, vs⟩⟩ : Chk)]) (e := 42) (n := 1) (g := w6.heap.size) (size := 5) rfl rfl rfl (by simp [maxLen])) (recC_one Chk.enc_one _))
                  have TA := Box.mk (HD.out.o.step ((Below.refl _ _).alloc (Nat.le_refl _) (.cells #[.int .i64 (m % 16), .int .i64 (m / 16), .int .i64 vk, .int .i64 vn, .string ⟨vs.toArray⟩] 42)))
                  have hbs := HD.out.big
                  refine oper_append2 (by rfl) (.tmp 114) (.tmp 123) 26 26 rfl sl_chks (.inl sl_chks.ht) rfl TA.out.chks rfl SRC.out (by show (chks.length + 1) * _ ≤ _; omega) (by show chks.length + 1 ≤ _; unfold maxLen; omega) (by simp; omega) ?_
                  intro a7 c7 w7 hown7 hgr7 hnew7
                  have HA := Box.mk (And.intro hgr7 (And.intro hown7 hnew7))
                  clear hown7 hgr7 hnew7 hbs SRC TA
                  refine hK'.out _ _ trivial (fun _ => ?_)
                  clear hK' K'
                  conv =>
                    arg 8
                    simp [go_sem]
                  refine wpAnyH_take (i := 12) (v := ?_) rfl (by kernel_rfl) (by kernel_rfl) (by kernel_rfl) (fun _ _ _ h => h) (yieldsIf_val (by rfl) (fun w' hS => ?_)) trivial ?_
                  rotate_left
                  · skip
                    go_simp
                    all_goals with_reducible rfl
                  conv =>
                    arg 8
                    simp [go_sem]
                  conv =>
                    arg 8
                    simp [go_sem]
                  refine wpAnyH_ready (rs := [13]) (by kernel_rfl) (by simp) ?_
                  refine AllReadyH.cons rfl (fun K' hK' => ?_) AllReadyH.nil
                  have BT := Box.mk (HD.out.t.eq ((HD.out.grown HD.out.o.chks HA.out.1).1 g (by omega)))
                  refine oper_store_part (by rfl) 26 (.tmp 125) (.tmp 124) rfl rfl (size := 1) (off := 3) (by kernel_rfl) BT.out (by simp) rfl (cs := [.slice a7 (chks.length + 1) c7]) rfl rfl (by simp [Value.oneCell']) ?_
                  refine hK'.out _ _ trivial (fun _ => ?_)
                  clear hK' K'
                  conv =>
                    arg 8
                    simp [go_sem]
                  refine ⟨by kernel_rfl, ?_⟩
                  conv =>
                    arg 5
                    simp [go_sem]
                  have H8 := Box.mk (show QSt w.heap.size g (600 + 15 * k4 + 1 + 14) w (w7.setRow g (splice [.string ⟨nm.toArray⟩, .slice (some ⟨gk, ok, none⟩) cols.length cc, .slice ia ixs.length ic, .slice ha chks.length hc] 3 [.slice a7 (chks.length + 1) c7]).toArray) ⟨nm, (some ⟨gk, ok, none⟩), cc, cols, ia, ic, ixs, a7, c7, chks ++ [(⟨m % 16, m / 16, ⟨vk, vn, vs⟩⟩ : Chk)]⟩ lx from HD.out.addChk (⟨m % 16, m / 16, ⟨vk, vn, vs⟩⟩ : Chk) HA.out.1 HA.out.2.1 HA.out.2.2 _ rfl)
                  have HN8 := Box.mk (gMany_succ HM.out HRX.out)
                  generalize (w7.setRow g (splice [.string ⟨nm.toArray⟩, .slice (some ⟨gk, ok, none⟩) cols.length cc, .slice ia ixs.length ic, .slice ha chks.length hc] 3 [.slice a7 (chks.length + 1) c7]).toArray) = w8 at *
                  go_wp2_with fail
                  exact ⟨⟨k4 + 1, by omega, by first | omega | go_num, chks ++ [(⟨m % 16, m / 16, ⟨vk, vn, vs⟩⟩ : Chk)], a7, c7, lx, ⟨And.intro HN8.out (H8.out.more (by omega))⟩⟩, by simp [intOf]; omega⟩
                · refine oper_call (by rfl) 94 [.tmp 119, .tmp 120] #[117, 3] rfl (vs := [.pointer (some ⟨w.heap.size + 1, 0, none⟩), .int .i64 K]) rfl Try.func94 gv_nm gv_bd (gvalue_any HC.out.r (by omega) (by omega)) ?_
                  rintro e w6 ⟨rfl, hr6, hb6⟩
                  have HD := Box.mk (HC.out.call hr6 hb6)
                  generalize hgt : gV K lm = q at *
                  obtain ⟨⟨vk, vn, vs⟩, lx⟩ := q
                  have HRX := Box.mk (gK_eq W1.out HK.out hgt)
                  clear hb6 hr6 hgt
                  refine ⟨.agg #[.int .i64 vk, .int .i64 vn, .string ⟨vs.toArray⟩], rfl, hK'.out _ _ trivial (fun _ => ?_)⟩
                  clear hK' K'
                  conv =>
                    arg 8
                    simp [go_sem]
                  refine wpAnyH_take (i := 9) (v := ?_) rfl (by kernel_rfl) (by kernel_rfl) (by kernel_rfl) (fun _ _ _ h => h) (yieldsIf_val (by rfl) (fun w' hS => ?_)) trivial ?_
                  rotate_left
                  · skip
                    go_simp
                    all_goals with_reducible rfl
                  conv =>
                    arg 8
                    simp [go_sem]
                  conv =>
                    arg 8
                    simp [go_sem]
                  refine wpAnyH_ready (rs := [1, 10]) (by kernel_rfl) (by simp) ?_
                  refine AllReadyH.cons rfl (fun K' hK' => ?_) (AllReadyH.cons rfl (fun K' hK' => ?_) AllReadyH.nil)
                  · refine oper_load1 (by rfl) 26 (.tmp 113) rfl (by kernel_rfl) rfl (HD.out.t.cellOf (i := 3) rfl) ?_
                    refine hK'.out _ _ trivial (fun _ => ?_)
                    clear hK' K'
                    conv =>
                      arg 8
                      simp [go_sem]
                    conv =>
                      arg 8
                      simp [go_sem]
                    refine wpAnyH_ready (rs := [10]) (by kernel_rfl) (by simp) ?_
                    refine AllReadyH.cons rfl (fun K' hK' => ?_) AllReadyH.nil
                    refine oper_litA (by rfl) 26 (.tmp 122) rfl sl_chks (cs := [.int .i64 (m % 16), .int .i64 (m / 16), .int .i64 vk, .int .i64 vn, .string ⟨vs.toArray⟩]) rfl rfl (by omega) (by omega) ?_
                    refine hK'.out _ _ trivial (fun _ => ?_)
                    clear hK' K'
                    conv =>
                      arg 8
                      simp [go_sem]
                    conv =>
                      arg 8
                      simp [go_sem]
                    refine wpAnyH_ready (rs := [11]) (by kernel_rfl) (by simp) ?_
                    refine AllReadyH.cons rfl (fun K' hK' => ?_) AllReadyH.nil
                    have SRC := Box.mk (Src.ofRd (P := Try.prog) (rd_newAt (w := w6) (arr := #[.int .i64 (m % 16), .int .i64 (m / 16), .int .i64 vk, .int .i64 vn, .string ⟨vs.toArray⟩]) (cs := recC Chk.enc [(⟨m % 16, m / 16, ⟨vk, vn, vs⟩⟩ : Chk)]) (e := 42) (n := 1) (g := w6.heap.size) (size := 5) rfl rfl rfl (by simp [maxLen])) (recC_one Chk.enc_one _))
                    have TA := Box.mk (HD.out.o.step ((Below.refl _ _).alloc (Nat.le_refl _) (.cells #[.int .i64 (m % 16), .int .i64 (m / 16), .int .i64 vk, .int .i64 vn, .string ⟨vs.toArray⟩] 42)))
                    have hbs := HD.out.big
                    refine oper_append2 (by rfl) (.tmp 114) (.tmp 123) 26 26 rfl sl_chks (.inl sl_chks.ht) rfl TA.out.chks rfl SRC.out (by show (chks.length + 1) * _ ≤ _; omega) (by show chks.length + 1 ≤ _; unfold maxLen; omega) (by simp; omega) ?_
                    intro a7 c7 w7 hown7 hgr7 hnew7
                    have HA := Box.mk (And.intro hgr7 (And.intro hown7 hnew7))
                    clear hown7 hgr7 hnew7 hbs SRC TA
                    refine hK'.out _ _ trivial (fun _ => ?_)
                    clear hK' K'
                    conv =>
                      arg 8
                      simp [go_sem]
                    refine wpAnyH_take (i := 12) (v := ?_) rfl (by kernel_rfl) (by kernel_rfl) (by kernel_rfl) (fun _ _ _ h => h) (yieldsIf_val (by rfl) (fun w' hS => ?_)) trivial ?_
                    rotate_left
                    · skip
                      go_simp
                      all_goals with_reducible rfl
                    conv =>
                      arg 8
                      simp [go_sem]
                    conv =>
                      arg 8
                      simp [go_sem]
                    refine wpAnyH_ready (rs := [13]) (by kernel_rfl) (by simp) ?_
                    refine AllReadyH.cons rfl (fun K' hK' => ?_) AllReadyH.nil
                    have BT := Box.mk (HD.out.t.eq ((HD.out.grown HD.out.o.chks HA.out.1).1 g (by omega)))
                    refine oper_store_part (by rfl) 26 (.tmp 125) (.tmp 124) rfl rfl (size := 1) (off := 3) (by kernel_rfl) BT.out (by simp) rfl (cs := [.slice a7 (chks.length + 1) c7]) rfl rfl (by simp [Value.oneCell']) ?_
                    refine hK'.out _ _ trivial (fun _ => ?_)
                    clear hK' K'
                    conv =>
                      arg 8
                      simp [go_sem]
                    refine ⟨by kernel_rfl, ?_⟩
                    conv =>
                      arg 5
                      simp [go_sem]
                    have H8 := Box.mk (show QSt w.heap.size g (600 + 15 * k4 + 1 + 14) w (w7.setRow g (splice [.string ⟨nm.toArray⟩, .slice (some ⟨gk, ok, none⟩) cols.length cc, .slice ia ixs.length ic, .slice ha chks.length hc] 3 [.slice a7 (chks.length + 1) c7]).toArray) ⟨nm, (some ⟨gk, ok, none⟩), cc, cols, ia, ic, ixs, a7, c7, chks ++ [(⟨m % 16, m / 16, ⟨vk, vn, vs⟩⟩ : Chk)]⟩ lx from HD.out.addChk (⟨m % 16, m / 16, ⟨vk, vn, vs⟩⟩ : Chk) HA.out.1 HA.out.2.1 HA.out.2.2 _ rfl)
                    have HN8 := Box.mk (gMany_succ HM.out HRX.out)
                    generalize (w7.setRow g (splice [.string ⟨nm.toArray⟩, .slice (some ⟨gk, ok, none⟩) cols.length cc, .slice ia ixs.length ic, .slice ha chks.length hc] 3 [.slice a7 (chks.length + 1) c7]).toArray) = w8 at *
                    go_wp2_with fail
                    exact ⟨⟨k4 + 1, by omega, by first | omega | go_num, chks ++ [(⟨m % 16, m / 16, ⟨vk, vn, vs⟩⟩ : Chk)], a7, c7, lx, ⟨And.intro HN8.out (H8.out.more (by omega))⟩⟩, by simp [intOf]; omega⟩
                  · refine oper_litA (by rfl) 26 (.tmp 122) rfl sl_chks (cs := [.int .i64 (m % 16), .int .i64 (m / 16), .int .i64 vk, .int .i64 vn, .string ⟨vs.toArray⟩]) rfl rfl (by omega) (by omega) ?_
                    refine hK'.out _ _ trivial (fun _ => ?_)
                    clear hK' K'
                    conv =>
                      arg 8
                      simp [go_sem]
                    conv =>
                      arg 8
                      simp [go_sem]
                    refine wpAnyH_ready (rs := [1]) (by kernel_rfl) (by simp) ?_
                    refine AllReadyH.cons rfl (fun K' hK' => ?_) AllReadyH.nil
                    refine oper_load1 (by rfl) 26 (.tmp 113) rfl (by kernel_rfl) rfl ((HD.out.t.alloc _).cellOf (i := 3) rfl) ?_
                    refine hK'.out _ _ trivial (fun _ => ?_)
                    clear hK' K'
                    conv =>
                      arg 8
                      simp [go_sem]
                    conv =>
                      arg 8
                      simp [go_sem]
                    refine wpAnyH_ready (rs := [11]) (by kernel_rfl) (by simp) ?_
                    refine AllReadyH.cons rfl (fun K' hK' => ?_) AllReadyH.nil
                    have SRC := Box.mk (Src.ofRd (P := Try.prog) (rd_newAt (w := w6) (arr := #[.int .i64 (m % 16), .int .i64 (m / 16), .int .i64 vk, .int .i64 vn, .string ⟨vs.toArray⟩]) (cs := recC Chk.enc [(⟨m % 16, m / 16, ⟨vk, vn, vs⟩⟩ : Chk)]) (e := 42) (n := 1) (g := w6.heap.size) (size := 5) rfl rfl rfl (by simp [maxLen])) (recC_one Chk.enc_one _))
                    have TA := Box.mk (HD.out.o.step ((Below.refl _ _).alloc (Nat.le_refl _) (.cells #[.int .i64 (m % 16), .int .i64 (m / 16), .int .i64 vk, .int .i64 vn, .string ⟨vs.toArray⟩] 42)))
                    have hbs := HD.out.big
                    refine oper_append2 (by rfl) (.tmp 114) (.tmp 123) 26 26 rfl sl_chks (.inl sl_chks.ht) rfl TA.out.chks rfl SRC.out (by show (chks.length + 1) * _ ≤ _; omega) (by show chks.length + 1 ≤ _; unfold maxLen; omega) (by simp; omega) ?_
                    intro a7 c7 w7 hown7 hgr7 hnew7
                    have HA := Box.mk (And.intro hgr7 (And.intro hown7 hnew7))
                    clear hown7 hgr7 hnew7 hbs SRC TA
                    refine hK'.out _ _ trivial (fun _ => ?_)
                    clear hK' K'
                    conv =>
                      arg 8
                      simp [go_sem]
                    refine wpAnyH_take (i := 12) (v := ?_) rfl (by kernel_rfl) (by kernel_rfl) (by kernel_rfl) (fun _ _ _ h => h) (yieldsIf_val (by rfl) (fun w' hS => ?_)) trivial ?_
                    rotate_left
                    · skip
                      go_simp
                      all_goals with_reducible rfl
                    conv =>
                      arg 8
                      simp [go_sem]
                    conv =>
                      arg 8
                      simp [go_sem]
                    refine wpAnyH_ready (rs := [13]) (by kernel_rfl) (by simp) ?_
                    refine AllReadyH.cons rfl (fun K' hK' => ?_) AllReadyH.nil
                    have BT := Box.mk (HD.out.t.eq ((HD.out.grown HD.out.o.chks HA.out.1).1 g (by omega)))
                    refine oper_store_part (by rfl) 26 (.tmp 125) (.tmp 124) rfl rfl (size := 1) (off := 3) (by kernel_rfl) BT.out (by simp) rfl (cs := [.slice a7 (chks.length + 1) c7]) rfl rfl (by simp [Value.oneCell']) ?_
                    refine hK'.out _ _ trivial (fun _ => ?_)
                    clear hK' K'
                    conv =>
                      arg 8
                      simp [go_sem]
                    refine ⟨by kernel_rfl, ?_⟩
                    conv =>
                      arg 5
                      simp [go_sem]
                    have H8 := Box.mk (show QSt w.heap.size g (600 + 15 * k4 + 1 + 14) w (w7.setRow g (splice [.string ⟨nm.toArray⟩, .slice (some ⟨gk, ok, none⟩) cols.length cc, .slice ia ixs.length ic, .slice ha chks.length hc] 3 [.slice a7 (chks.length + 1) c7]).toArray) ⟨nm, (some ⟨gk, ok, none⟩), cc, cols, ia, ic, ixs, a7, c7, chks ++ [(⟨m % 16, m / 16, ⟨vk, vn, vs⟩⟩ : Chk)]⟩ lx from HD.out.addChk (⟨m % 16, m / 16, ⟨vk, vn, vs⟩⟩ : Chk) HA.out.1 HA.out.2.1 HA.out.2.2 _ rfl)
                    have HN8 := Box.mk (gMany_succ HM.out HRX.out)
                    generalize (w7.setRow g (splice [.string ⟨nm.toArray⟩, .slice (some ⟨gk, ok, none⟩) cols.length cc, .slice ia ixs.length ic, .slice ha chks.length hc] 3 [.slice a7 (chks.length + 1) c7]).toArray) = w8 at *
                    go_wp2_with fail
                    exact ⟨⟨k4 + 1, by omega, by first | omega | go_num, chks ++ [(⟨m % 16, m / 16, ⟨vk, vn, vs⟩⟩ : Chk)], a7, c7, lx, ⟨And.intro HN8.out (H8.out.more (by omega))⟩⟩, by simp [intOf]; omega⟩
                done
              · have HK := Box.mk (show gKind cols m = 2 from if_neg hcol)
                go_wp2_with fail
                clear x1
                refine wp_region_held_drew (S := fun _ => True) (by kernel_rfl) trivial (fun _ => ?_)
                have HC := Box.mk H5.out.drew
                refine wpAnyH_take (i := 0) (v := ?_) rfl (by kernel_rfl) (by kernel_rfl) (by kernel_rfl) (fun _ _ _ h => h) (yieldsIf_val (by rfl) (fun w' hS => ?_)) trivial ?_
                rotate_left
                · skip
                  go_simp
                  all_goals with_reducible rfl
                conv =>
                  arg 8
                  simp [go_sem]
                refine wpAnyH_take (i := 2) (v := ?_) rfl (by kernel_rfl) (by kernel_rfl) (by kernel_rfl) (fun _ _ _ h => h) (yieldsIf_val (by rfl) (fun w' hS => ?_)) trivial ?_
                rotate_left
                · skip
                  go_simp
                  all_goals with_reducible rfl
                conv =>
                  arg 8
                  simp [go_sem]
                refine wpAnyH_take (i := 3) (v := ?_) rfl (by kernel_rfl) (by kernel_rfl) (by kernel_rfl) (fun _ _ _ h => h) (yieldsIf_val (by rfl) (fun w' hS => ?_)) trivial ?_
                rotate_left
                · skip
                  have r := i64_rem m 16 hm0
                  go_simp
                  all_goals with_reducible rfl
                conv =>
                  arg 8
                  simp [go_sem]
                refine wpAnyH_take (i := 4) (v := ?_) rfl (by kernel_rfl) (by kernel_rfl) (by kernel_rfl) (fun _ _ _ h => h) (yieldsIf_val (by rfl) (fun w' hS => ?_)) trivial ?_
                rotate_left
                · skip
                  go_simp
                  all_goals with_reducible rfl
                conv =>
                  arg 8
                  simp [go_sem]
                refine wpAnyH_take (i := 5) (v := ?_) rfl (by kernel_rfl) (by kernel_rfl) (by kernel_rfl) (fun _ _ _ h => h) (yieldsIf_val (by rfl) (fun w' hS => ?_)) trivial ?_
                rotate_left
                · skip
                  have r := i64_quo m 16 hm0 hmlt (by decide)
                  go_simp
                  all_goals with_reducible rfl
                conv =>
                  arg 8
                  simp [go_sem]
                refine wpAnyH_take (i := 6) (v := ?_) rfl (by kernel_rfl) (by kernel_rfl) (by kernel_rfl) (fun _ _ _ h => h) (yieldsIf_val (by rfl) (fun w' hS => ?_)) trivial ?_
                rotate_left
                · skip
                  go_simp
                  all_goals with_reducible rfl
                conv =>
                  arg 8
                  simp [go_sem]
                refine wpAnyH_take (i := 7) (v := ?_) rfl (by kernel_rfl) (by kernel_rfl) (by kernel_rfl) (fun _ _ _ h => h) (yieldsIf_val (by rfl) (fun w' hS => ?_)) trivial ?_
                rotate_left
                · skip
                  go_simp
                  all_goals with_reducible rfl
                conv =>
                  arg 8
                  simp [go_sem]
                conv =>
                  arg 8
                  simp [go_sem]
                refine wpAnyH_ready (rs := [1, 8]) (by kernel_rfl) (by simp) ?_
                refine AllReadyH.cons rfl (fun K' hK' => ?_) (AllReadyH.cons rfl (fun K' hK' => ?_) AllReadyH.nil)
                · refine oper_load1 (by rfl) 26 (.tmp 113) rfl (by kernel_rfl) rfl (HC.out.t.cellOf (i := 3) rfl) ?_
                  refine hK'.out _ _ trivial (fun _ => ?_)
                  clear hK' K'
                  conv =>
                    arg 8
                    simp [go_sem]
                  conv =>
                    arg 8
                    simp [go_sem]
                  refine wpAnyH_ready (rs := [8]) (by kernel_rfl) (by simp) ?_
                  refine AllReadyH.cons rfl (fun K' hK' => ?_) AllReadyH.nil
                  refine oper_call (by rfl) 94 [.tmp 119, .tmp 120] #[117, 3] rfl (vs := [.pointer (some ⟨w.heap.size + 1, 0, none⟩), .int .i64 2]) rfl Try.func94 gv_nm gv_bd (gvalue_any HC.out.r (by omega) (by omega)) ?_
                  rintro e w6 ⟨rfl, hr6, hb6⟩
                  have HD := Box.mk (HC.out.call hr6 hb6)
                  generalize hgt : gV 2 lm = q at *
                  obtain ⟨⟨vk, vn, vs⟩, lx⟩ := q
                  have HRX := Box.mk (gK_eq W1.out HK.out hgt)
                  clear hb6 hr6 hgt
                  refine ⟨.agg #[.int .i64 vk, .int .i64 vn, .string ⟨vs.toArray⟩], rfl, hK'.out _ _ trivial (fun _ => ?_)⟩
                  clear hK' K'
                  conv =>
                    arg 8
                    simp [go_sem]
                  refine wpAnyH_take (i := 9) (v := ?_) rfl (by kernel_rfl) (by kernel_rfl) (by kernel_rfl) (fun _ _ _ h => h) (yieldsIf_val (by rfl) (fun w' hS => ?_)) trivial ?_
                  rotate_left
                  · skip
                    go_simp
                    all_goals with_reducible rfl
                  conv =>
                    arg 8
                    simp [go_sem]
                  conv =>
                    arg 8
                    simp [go_sem]
                  refine wpAnyH_ready (rs := [10]) (by kernel_rfl) (by simp) ?_
                  refine AllReadyH.cons rfl (fun K' hK' => ?_) AllReadyH.nil
                  refine oper_litA (by rfl) 26 (.tmp 122) rfl sl_chks (cs := [.int .i64 (m % 16), .int .i64 (m / 16), .int .i64 vk, .int .i64 vn, .string ⟨vs.toArray⟩]) rfl rfl (by omega) (by omega) ?_
                  refine hK'.out _ _ trivial (fun _ => ?_)
                  clear hK' K'
                  conv =>
                    arg 8
                    simp [go_sem]
                  conv =>
                    arg 8
                    simp [go_sem]
                  refine wpAnyH_ready (rs := [11]) (by kernel_rfl) (by simp) ?_
                  refine AllReadyH.cons rfl (fun K' hK' => ?_) AllReadyH.nil
                  have SRC := Box.mk (Src.ofRd (P := Try.prog) (rd_newAt (w := w6) (arr := #[.int .i64 (m % 16), .int .i64 (m / 16), .int .i64 vk, .int .i64 vn, .string ⟨vs.toArray⟩]) (cs := recC Chk.enc [(⟨m % 16, m / 16, ⟨vk, vn, vs⟩⟩ : Chk)]) (e := 42) (n := 1) (g := w6.heap.size) (size := 5) rfl rfl rfl (by simp [maxLen])) (recC_one Chk.enc_one _))
                  have TA := Box.mk (HD.out.o.step ((Below.refl _ _).alloc (Nat.le_refl _) (.cells #[.int .i64 (m % 16), .int .i64 (m / 16), .int .i64 vk, .int .i64 vn, .string ⟨vs.toArray⟩] 42)))
                  have hbs := HD.out.big
                  refine oper_append2 (by rfl) (.tmp 114) (.tmp 123) 26 26 rfl sl_chks (.inl sl_chks.ht) rfl TA.out.chks rfl SRC.out (by show (chks.length + 1) * _ ≤ _; omega) (by show chks.length + 1 ≤ _; unfold maxLen; omega) (by simp; omega) ?_
                  intro a7 c7 w7 hown7 hgr7 hnew7
                  have HA := Box.mk (And.intro hgr7 (And.intro hown7 hnew7))
                  clear hown7 hgr7 hnew7 hbs SRC TA
                  refine hK'.out _ _ trivial (fun _ => ?_)
                  clear hK' K'
                  conv =>
                    arg 8
                    simp [go_sem]
                  refine wpAnyH_take (i := 12) (v := ?_) rfl (by kernel_rfl) (by kernel_rfl) (by kernel_rfl) (fun _ _ _ h => h) (yieldsIf_val (by rfl) (fun w' hS => ?_)) trivial ?_
                  rotate_left
                  · skip
                    go_simp
                    all_goals with_reducible rfl
                  conv =>
                    arg 8
                    simp [go_sem]
                  conv =>
                    arg 8
                    simp [go_sem]
                  refine wpAnyH_ready (rs := [13]) (by kernel_rfl) (by simp) ?_
                  refine AllReadyH.cons rfl (fun K' hK' => ?_) AllReadyH.nil
                  have BT := Box.mk (HD.out.t.eq ((HD.out.grown HD.out.o.chks HA.out.1).1 g (by omega)))
                  refine oper_store_part (by rfl) 26 (.tmp 125) (.tmp 124) rfl rfl (size := 1) (off := 3) (by kernel_rfl) BT.out (by simp) rfl (cs := [.slice a7 (chks.length + 1) c7]) rfl rfl (by simp [Value.oneCell']) ?_
                  refine hK'.out _ _ trivial (fun _ => ?_)
                  clear hK' K'
                  conv =>
                    arg 8
                    simp [go_sem]
                  refine ⟨by kernel_rfl, ?_⟩
                  conv =>
                    arg 5
                    simp [go_sem]
                  have H8 := Box.mk (show QSt w.heap.size g (600 + 15 * k4 + 1 + 14) w (w7.setRow g (splice [.string ⟨nm.toArray⟩, .slice ca cols.length cc, .slice ia ixs.length ic, .slice ha chks.length hc] 3 [.slice a7 (chks.length + 1) c7]).toArray) ⟨nm, ca, cc, cols, ia, ic, ixs, a7, c7, chks ++ [(⟨m % 16, m / 16, ⟨vk, vn, vs⟩⟩ : Chk)]⟩ lx from HD.out.addChk (⟨m % 16, m / 16, ⟨vk, vn, vs⟩⟩ : Chk) HA.out.1 HA.out.2.1 HA.out.2.2 _ rfl)
                  have HN8 := Box.mk (gMany_succ HM.out HRX.out)
                  generalize (w7.setRow g (splice [.string ⟨nm.toArray⟩, .slice ca cols.length cc, .slice ia ixs.length ic, .slice ha chks.length hc] 3 [.slice a7 (chks.length + 1) c7]).toArray) = w8 at *
                  go_wp2_with fail
                  exact ⟨⟨k4 + 1, by omega, by first | omega | go_num, chks ++ [(⟨m % 16, m / 16, ⟨vk, vn, vs⟩⟩ : Chk)], a7, c7, lx, ⟨And.intro HN8.out (H8.out.more (by omega))⟩⟩, by simp [intOf]; omega⟩
                · refine oper_call (by rfl) 94 [.tmp 119, .tmp 120] #[117, 3] rfl (vs := [.pointer (some ⟨w.heap.size + 1, 0, none⟩), .int .i64 2]) rfl Try.func94 gv_nm gv_bd (gvalue_any HC.out.r (by omega) (by omega)) ?_
                  rintro e w6 ⟨rfl, hr6, hb6⟩
                  have HD := Box.mk (HC.out.call hr6 hb6)
                  generalize hgt : gV 2 lm = q at *
                  obtain ⟨⟨vk, vn, vs⟩, lx⟩ := q
                  have HRX := Box.mk (gK_eq W1.out HK.out hgt)
                  clear hb6 hr6 hgt
                  refine ⟨.agg #[.int .i64 vk, .int .i64 vn, .string ⟨vs.toArray⟩], rfl, hK'.out _ _ trivial (fun _ => ?_)⟩
                  clear hK' K'
                  conv =>
                    arg 8
                    simp [go_sem]
                  refine wpAnyH_take (i := 9) (v := ?_) rfl (by kernel_rfl) (by kernel_rfl) (by kernel_rfl) (fun _ _ _ h => h) (yieldsIf_val (by rfl) (fun w' hS => ?_)) trivial ?_
                  rotate_left
                  · skip
                    go_simp
                    all_goals with_reducible rfl
                  conv =>
                    arg 8
                    simp [go_sem]
                  conv =>
                    arg 8
                    simp [go_sem]
                  refine wpAnyH_ready (rs := [1, 10]) (by kernel_rfl) (by simp) ?_
                  refine AllReadyH.cons rfl (fun K' hK' => ?_) (AllReadyH.cons rfl (fun K' hK' => ?_) AllReadyH.nil)
                  · refine oper_load1 (by rfl) 26 (.tmp 113) rfl (by kernel_rfl) rfl (HD.out.t.cellOf (i := 3) rfl) ?_
                    refine hK'.out _ _ trivial (fun _ => ?_)
                    clear hK' K'
                    conv =>
                      arg 8
                      simp [go_sem]
                    conv =>
                      arg 8
                      simp [go_sem]
                    refine wpAnyH_ready (rs := [10]) (by kernel_rfl) (by simp) ?_
                    refine AllReadyH.cons rfl (fun K' hK' => ?_) AllReadyH.nil
                    refine oper_litA (by rfl) 26 (.tmp 122) rfl sl_chks (cs := [.int .i64 (m % 16), .int .i64 (m / 16), .int .i64 vk, .int .i64 vn, .string ⟨vs.toArray⟩]) rfl rfl (by omega) (by omega) ?_
                    refine hK'.out _ _ trivial (fun _ => ?_)
                    clear hK' K'
                    conv =>
                      arg 8
                      simp [go_sem]
                    conv =>
                      arg 8
                      simp [go_sem]
                    refine wpAnyH_ready (rs := [11]) (by kernel_rfl) (by simp) ?_
                    refine AllReadyH.cons rfl (fun K' hK' => ?_) AllReadyH.nil
                    have SRC := Box.mk (Src.ofRd (P := Try.prog) (rd_newAt (w := w6) (arr := #[.int .i64 (m % 16), .int .i64 (m / 16), .int .i64 vk, .int .i64 vn, .string ⟨vs.toArray⟩]) (cs := recC Chk.enc [(⟨m % 16, m / 16, ⟨vk, vn, vs⟩⟩ : Chk)]) (e := 42) (n := 1) (g := w6.heap.size) (size := 5) rfl rfl rfl (by simp [maxLen])) (recC_one Chk.enc_one _))
                    have TA := Box.mk (HD.out.o.step ((Below.refl _ _).alloc (Nat.le_refl _) (.cells #[.int .i64 (m % 16), .int .i64 (m / 16), .int .i64 vk, .int .i64 vn, .string ⟨vs.toArray⟩] 42)))
                    have hbs := HD.out.big
                    refine oper_append2 (by rfl) (.tmp 114) (.tmp 123) 26 26 rfl sl_chks (.inl sl_chks.ht) rfl TA.out.chks rfl SRC.out (by show (chks.length + 1) * _ ≤ _; omega) (by show chks.length + 1 ≤ _; unfold maxLen; omega) (by simp; omega) ?_
                    intro a7 c7 w7 hown7 hgr7 hnew7
                    have HA := Box.mk (And.intro hgr7 (And.intro hown7 hnew7))
                    clear hown7 hgr7 hnew7 hbs SRC TA
                    refine hK'.out _ _ trivial (fun _ => ?_)
                    clear hK' K'
                    conv =>
                      arg 8
                      simp [go_sem]
                    refine wpAnyH_take (i := 12) (v := ?_) rfl (by kernel_rfl) (by kernel_rfl) (by kernel_rfl) (fun _ _ _ h => h) (yieldsIf_val (by rfl) (fun w' hS => ?_)) trivial ?_
                    rotate_left
                    · skip
                      go_simp
                      all_goals with_reducible rfl
                    conv =>
                      arg 8
                      simp [go_sem]
                    conv =>
                      arg 8
                      simp [go_sem]
                    refine wpAnyH_ready (rs := [13]) (by kernel_rfl) (by simp) ?_
                    refine AllReadyH.cons rfl (fun K' hK' => ?_) AllReadyH.nil
                    have BT := Box.mk (HD.out.t.eq ((HD.out.grown HD.out.o.chks HA.out.1).1 g (by omega)))
                    refine oper_store_part (by rfl) 26 (.tmp 125) (.tmp 124) rfl rfl (size := 1) (off := 3) (by kernel_rfl) BT.out (by simp) rfl (cs := [.slice a7 (chks.length + 1) c7]) rfl rfl (by simp [Value.oneCell']) ?_
                    refine hK'.out _ _ trivial (fun _ => ?_)
                    clear hK' K'
                    conv =>
                      arg 8
                      simp [go_sem]
                    refine ⟨by kernel_rfl, ?_⟩
                    conv =>
                      arg 5
                      simp [go_sem]
                    have H8 := Box.mk (show QSt w.heap.size g (600 + 15 * k4 + 1 + 14) w (w7.setRow g (splice [.string ⟨nm.toArray⟩, .slice ca cols.length cc, .slice ia ixs.length ic, .slice ha chks.length hc] 3 [.slice a7 (chks.length + 1) c7]).toArray) ⟨nm, ca, cc, cols, ia, ic, ixs, a7, c7, chks ++ [(⟨m % 16, m / 16, ⟨vk, vn, vs⟩⟩ : Chk)]⟩ lx from HD.out.addChk (⟨m % 16, m / 16, ⟨vk, vn, vs⟩⟩ : Chk) HA.out.1 HA.out.2.1 HA.out.2.2 _ rfl)
                    have HN8 := Box.mk (gMany_succ HM.out HRX.out)
                    generalize (w7.setRow g (splice [.string ⟨nm.toArray⟩, .slice ca cols.length cc, .slice ia ixs.length ic, .slice ha chks.length hc] 3 [.slice a7 (chks.length + 1) c7]).toArray) = w8 at *
                    go_wp2_with fail
                    exact ⟨⟨k4 + 1, by omega, by first | omega | go_num, chks ++ [(⟨m % 16, m / 16, ⟨vk, vn, vs⟩⟩ : Chk)], a7, c7, lx, ⟨And.intro HN8.out (H8.out.more (by omega))⟩⟩, by simp [intOf]; omega⟩
                  · refine oper_litA (by rfl) 26 (.tmp 122) rfl sl_chks (cs := [.int .i64 (m % 16), .int .i64 (m / 16), .int .i64 vk, .int .i64 vn, .string ⟨vs.toArray⟩]) rfl rfl (by omega) (by omega) ?_
                    refine hK'.out _ _ trivial (fun _ => ?_)
                    clear hK' K'
                    conv =>
                      arg 8
                      simp [go_sem]
                    conv =>
                      arg 8
                      simp [go_sem]
                    refine wpAnyH_ready (rs := [1]) (by kernel_rfl) (by simp) ?_
                    refine AllReadyH.cons rfl (fun K' hK' => ?_) AllReadyH.nil
                    refine oper_load1 (by rfl) 26 (.tmp 113) rfl (by kernel_rfl) rfl ((HD.out.t.alloc _).cellOf (i := 3) rfl) ?_
                    refine hK'.out _ _ trivial (fun _ => ?_)
                    clear hK' K'
                    conv =>
                      arg 8
                      simp [go_sem]
                    conv =>
                      arg 8
                      simp [go_sem]
                    refine wpAnyH_ready (rs := [11]) (by kernel_rfl) (by simp) ?_
                    refine AllReadyH.cons rfl (fun K' hK' => ?_) AllReadyH.nil
                    have SRC := Box.mk (Src.ofRd (P := Try.prog) (rd_newAt (w := w6) (arr := #[.int .i64 (m % 16), .int .i64 (m / 16), .int .i64 vk, .int .i64 vn, .string ⟨vs.toArray⟩]) (cs := recC Chk.enc [(⟨m % 16, m / 16, ⟨vk, vn, vs⟩⟩ : Chk)]) (e := 42) (n := 1) (g := w6.heap.size) (size := 5) rfl rfl rfl (by simp [maxLen])) (recC_one Chk.enc_one _))
                    have TA := Box.mk (HD.out.o.step ((Below.refl _ _).alloc (Nat.le_refl _) (.cells #[.int .i64 (m % 16), .int .i64 (m / 16), .int .i64 vk, .int .i64 vn, .string ⟨vs.toArray⟩] 42)))
                    have hbs := HD.out.big
                    refine oper_append2 (by rfl) (.tmp 114) (.tmp 123) 26 26 rfl sl_chks (.inl sl_chks.ht) rfl TA.out.chks rfl SRC.out (by show (chks.length + 1) * _ ≤ _; omega) (by show chks.length + 1 ≤ _; unfold maxLen; omega) (by simp; omega) ?_
                    intro a7 c7 w7 hown7 hgr7 hnew7
                    have HA := Box.mk (And.intro hgr7 (And.intro hown7 hnew7))
                    clear hown7 hgr7 hnew7 hbs SRC TA
                    refine hK'.out _ _ trivial (fun _ => ?_)
                    clear hK' K'
                    conv =>
                      arg 8
                      simp [go_sem]
                    refine wpAnyH_take (i := 12) (v := ?_) rfl (by kernel_rfl) (by kernel_rfl) (by kernel_rfl) (fun _ _ _ h => h) (yieldsIf_val (by rfl) (fun w' hS => ?_)) trivial ?_
                    rotate_left
                    · skip
                      go_simp
                      all_goals with_reducible rfl
                    conv =>
                      arg 8
                      simp [go_sem]
                    conv =>
                      arg 8
                      simp [go_sem]
                    refine wpAnyH_ready (rs := [13]) (by kernel_rfl) (by simp) ?_
                    refine AllReadyH.cons rfl (fun K' hK' => ?_) AllReadyH.nil
                    have BT := Box.mk (HD.out.t.eq ((HD.out.grown HD.out.o.chks HA.out.1).1 g (by omega)))
                    refine oper_store_part (by rfl) 26 (.tmp 125) (.tmp 124) rfl rfl (size := 1) (off := 3) (by kernel_rfl) BT.out (by simp) rfl (cs := [.slice a7 (chks.length + 1) c7]) rfl rfl (by simp [Value.oneCell']) ?_
                    refine hK'.out _ _ trivial (fun _ => ?_)
                    clear hK' K'
                    conv =>
                      arg 8
                      simp [go_sem]
                    refine ⟨by kernel_rfl, ?_⟩
                    conv =>
                      arg 5
                      simp [go_sem]
                    have H8 := Box.mk (show QSt w.heap.size g (600 + 15 * k4 + 1 + 14) w (w7.setRow g (splice [.string ⟨nm.toArray⟩, .slice ca cols.length cc, .slice ia ixs.length ic, .slice ha chks.length hc] 3 [.slice a7 (chks.length + 1) c7]).toArray) ⟨nm, ca, cc, cols, ia, ic, ixs, a7, c7, chks ++ [(⟨m % 16, m / 16, ⟨vk, vn, vs⟩⟩ : Chk)]⟩ lx from HD.out.addChk (⟨m % 16, m / 16, ⟨vk, vn, vs⟩⟩ : Chk) HA.out.1 HA.out.2.1 HA.out.2.2 _ rfl)
                    have HN8 := Box.mk (gMany_succ HM.out HRX.out)
                    generalize (w7.setRow g (splice [.string ⟨nm.toArray⟩, .slice ca cols.length cc, .slice ia ixs.length ic, .slice ha chks.length hc] 3 [.slice a7 (chks.length + 1) c7]).toArray) = w8 at *
                    go_wp2_with fail
                    exact ⟨⟨k4 + 1, by omega, by first | omega | go_num, chks ++ [(⟨m % 16, m / 16, ⟨vk, vn, vs⟩⟩ : Chk)], a7, c7, lx, ⟨And.intro HN8.out (H8.out.more (by omega))⟩⟩, by simp [intOf]; omega⟩
                done
            · obtain rfl : k4 = n4 := by omega
              have hkn : ¬ (k4 : Int) < h / 256 % 16 := by rw [HN4.out]; omega
              have HT := Box.mk HB.out.2
              have HG := Box.mk (show guessT l = ⟨nm, cols, ixs.map (·.x), chks⟩ from by
                unfold guessT
                have hg : gChks l = (chks, li) := by unfold gChks; rw [HC.out, HI.out, HH.out, show (h / 256 % 16).toNat = k4 from by have := HN4.out; omega]; exact HB.out.1
                rw [HGN.out, HC.out, HI.out, hg])
              clear HB HKL
              have x0 := HT.out.t.cellOf (i := 0) rfl
              have x1 := HT.out.t.cellOf (i := 1) rfl
              have x2 := HT.out.t.cellOf (i := 2) rfl
              have x3 := HT.out.t.cellOf (i := 3) rfl
              go_wp2_with (with_reducible refine wpList_store_row rfl _ _ _ rfl rfl (by kernel_rfl) HT.out.z rfl rfl (cs := [.string ⟨nm.toArray⟩, .slice ca cols.length cc, .slice ia ixs.length ic, .slice ha chks.length hc]) rfl rfl (tab_one _ _ _ _ _ _ _ _ _ _) ?_)
              refine bodyPost_ret (results_cell1 rfl _ rfl (HT.out.z.row [.string ⟨nm.toArray⟩, .slice ca cols.length cc, .slice ia ixs.length ic, .slice ha chks.length hc]) tabT) rfl ?_
              rw [HG.out]
              exact ⟨below_setRow HT.out.b (Nat.le_refl _) _, ⟨nm, ca, cc, cols, ia, ic, ixs, ha, hc, chks⟩, rfl, (HT.out.o.setRow (by omega) _).rd, rfl⟩
end Go.Proofs.Ytgimkipekoabbaa
