/-
  The walk of Parse. No condition.
-/
import Derived.Test.YtgimkipekoabbaaPAdd
namespace Go.Proofs.Ytgimkipekoabbaa
open Go.RowKit

def parse4 (nm : List UInt8) (cols : List Col) (ixs : List Ix) (p : List Chk × List Int) : Option Tab := if p.2 = [] ∧ checkT ⟨nm, cols, ixs, p.1⟩ = 0 then some ⟨nm, cols, ixs, p.1⟩ else none
def parse3 (h : Int) (nm : List UInt8) (cols : List Col) (p : List Ix × List Int) : Option Tab := (rdMany (rdK cols) p.2 (h / 256 % 16).toNat).bind (parse4 nm cols p.1)
def parse2 (h : Int) (nm : List UInt8) (p : List Col × List Int) : Option Tab := (rdMany rdI p.2 (h / 16 % 16).toNat).bind (parse3 h nm p.1)
def parse1 (h : Int) (p : List UInt8 × List Int) : Option Tab := (rdMany rdC p.2 (h % 16).toNat).bind (parse2 h p.1)
theorem parseT_eq (l : List Int) : parseT l = (rdW 131072 l).bind fun q => (rdT (q.1 / 4096).toNat q.2).bind (parse1 q.1) := rfl
theorem rdMany_lt {α : Type} {f : List Int → Option (α × List Int)} {l : List Int} {k m : Nat} (h : rdMany f l k = none) (hk : k ≤ m) : rdMany f l m = none := by
  induction m with
  | zero => obtain rfl : k = 0 := by omega
            exact h
  | succ m ih =>
    by_cases e : k = m + 1
    · subst e; exact h
    · unfold rdMany; rw [ih (by omega)]; rfl
theorem rdMany_stop {α : Type} {f : List Int → Option (α × List Int)} {l lk : List Int} {b : List α} {k : Nat} (h : rdMany f l k = some (b, lk)) (hw : f lk = none) : rdMany f l (k + 1) = none := by
  unfold rdMany; rw [h]; simp [hw]
theorem rdMany_next {α : Type} {f : List Int → Option (α × List Int)} {l lk l' : List Int} {b : List α} {x : α} {k : Nat} (h : rdMany f l k = some (b, lk)) (hw : f lk = some (x, l')) : rdMany f l (k + 1) = some (b ++ [x], l') := by
  unfold rdMany; rw [h]; simp [hw]
theorem rdI_1 {l : List Int} (h : rdW 1024 l = none) : rdI l = none := by unfold rdI; rw [h]; rfl
theorem rdI_2 {l lm : List Int} {m : Int} (h : rdW 1024 l = some (m, lm)) (h2 : rdW lim40 lm = none) : rdI l = none := by unfold rdI; rw [h]; simp [h2]
theorem rdI_3 {l lm lc : List Int} {m c : Int} (h : rdW 1024 l = some (m, lm)) (h2 : rdW lim40 lm = some (c, lc)) (h3 : rdT (m / 32).toNat lc = none) : rdI l = none := by unfold rdI; rw [h]; simp [h2, h3]
theorem rdI_4 {l lm lc lx : List Int} {m c : Int} {x : List UInt8} (h : rdW 1024 l = some (m, lm)) (h2 : rdW lim40 lm = some (c, lc)) (h3 : rdT (m / 32).toNat lc = some (x, lx)) (h4 : c / ((16 ^ (m / 2 % 16).toNat : Nat) : Int) ≠ 0) : rdI l = none := by
  unfold rdI; rw [h]; simp only [Option.bind_some, h2, h3]; rw [if_neg h4]
theorem rdI_5 {l lm lc lx : List Int} {m c : Int} {x : List UInt8} (h : rdW 1024 l = some (m, lm)) (h2 : rdW lim40 lm = some (c, lc)) (h3 : rdT (m / 32).toNat lc = some (x, lx)) (h4 : c / ((16 ^ (m / 2 % 16).toNat : Nat) : Int) = 0) : rdI l = some (⟨x, digits c (m / 2 % 16).toNat, decide (m % 2 = 1)⟩, lx) := by
  unfold rdI; rw [h]; simp only [Option.bind_some, h2, h3]; rw [if_pos h4]
theorem rdK_1 {cols : List Col} {l : List Int} (h : rdW 512 l = none) : rdK cols l = none := by unfold rdK; rw [h]; rfl
theorem rdK_2 {cols : List Col} {l lm : List Int} {m : Int} (h : rdW 512 l = some (m, lm)) (h2 : (cols.length : Int) ≤ m % 16) : rdK cols l = none := by unfold rdK; rw [h]; simp only [Option.bind_some]; rw [if_pos h2]
theorem rdK_3 {cols : List Col} {l lm : List Int} {m : Int} (h : rdW 512 l = some (m, lm)) (h2 : ¬ (cols.length : Int) ≤ m % 16) (h3 : rdV (cols.getD (m % 16).toNat default).kind lm = none) : rdK cols l = none := by unfold rdK; rw [h]; simp only [Option.bind_some]; rw [if_neg h2, h3]; rfl
theorem rdK_4 {cols : List Col} {l lm lx : List Int} {m : Int} {v : Val} (h : rdW 512 l = some (m, lm)) (h2 : ¬ (cols.length : Int) ≤ m % 16) (h3 : rdV (cols.getD (m % 16).toNat default).kind lm = some (v, lx)) : rdK cols l = some (⟨m % 16, m / 16, v⟩, lx) := by unfold rdK; rw [h]; simp only [Option.bind_some]; rw [if_neg h2, h3]; rfl
/-- What Parse returns. -/
def RetP (o : Option Tab) (w : World) : Ending → World → Prop := RetTab (o.getD TN) (if o.isSome then 0 else 3) w

set_option maxRecDepth 20000 in
set_option maxHeartbeats 8000000 in
theorem parse_any {a : Option Addr} {c : Nat} {l : List Int} {w : World} (hr : Rd w a l.length c 1 (intVals l)) : Calls Try.prog 40 #[.slice a l.length c] w (RetP (parseT l) w) := by
  generalize hO : parseT l = O
  rw [parseT_eq] at hO
  have HO := Box.mk hO
  have H0 := Box.mk (PSt.start hr)
  clear hO hr
  have hmf : ∀ (fn : Fn) (first cap : Array Value) (w : World), (Instr.makeFunc fn first cap).run Try.prog w = .ok (.func fn first cap) w := fun _ _ _ _ => rfl
  go_enter_defers Try.func40, Try.ntmps40
  go_wp2_with fail
  generalize (((w.alloc (.cells #[.string ⟨#[]⟩, .slice none 0 0, .slice none 0 0, .slice none 0 0] 28)).alloc (.cells #[.int .i64 0] 30)).alloc (.cells #[.slice a l.length c] 100)) = w1 at *
  cases hw : rdW 131072 l with
  | none =>
    refine (word_no H0.out.r hw).mono ?_
    rintro e w2 ⟨rfl, hb2⟩
    have hX := HO.out
    rw [hw] at hX
    subst hX
    go_wp2_with fail
    exact (H0.out.ddc hb2).dies _ rfl rfl
  | some q =>
    obtain ⟨h, lh⟩ := q
    refine (word_ok H0.out.r hw).mono ?_
    rintro e w2 ⟨rfl, hr2, hb2⟩
    have H2 := Box.mk (H0.out.call hr2 hb2)
    obtain ⟨hm0, hm1⟩ := (rdW_some hw).2
    have hX := HO.out
    rw [hw] at hX
    simp only [Option.bind_some] at hX
    have HX := Box.mk hX
    clear hr2 hb2 hw HO hX H0
    have hsz := H2.out.big
    go_wp2_with fail
    refine (text_rdI (n := h / 4096) H2.out.r (by omega) (by omega) (by omega)).mono ?_
    rintro e w3 ⟨hb3, ⟨nm, ln, ho3, rfl, hr3⟩ | ⟨ho3, rfl⟩⟩
    rotate_left
    · have hX := HX.out
      rw [ho3] at hX
      subst hX
      go_wp2_with fail
      exact (H2.out.ddc hb3).dies _ rfl rfl
    have H3 := Box.mk (H2.out.call hr3 hb3)
    have hX := HX.out
    rw [ho3] at hX
    simp only [Option.bind_some] at hX
    replace HX := Box.mk hX
    have c0 := H3.out.t.cellOf (i := 0) rfl
    have f0 := H3.out.t.free 0
    clear hr3 hb3 hX ho3 H2
    go_wp2_with fail
    have H4 := Box.mk (H3.out.named nm)
    generalize (w3.setCell ⟨w.heap.size, 0, none⟩ (.string ⟨nm.toArray⟩)) = w4 at *
    clear c0 f0 H3 hsz
    obtain ⟨n1, hn1⟩ : ∃ n : Nat, h % 16 = n := Int.eq_ofNat_of_zero_le (by omega)
    have q1 : bits .and .i64 h 15 = n1 := by rw [i64_and15, hn1]
    have hn1b : n1 ≤ 15 := by omega
    have HN1 := Box.mk hn1
    clear hn1
    go_wp2_with fail
    go_loopw [24] (fun i wr => ∃ k : Nat, k ≤ n1 ∧ i = .int .i64 k ∧ ∃ (cols : List Col) (ca : Option Addr) (cc : Nat) (lk : List Int), Box (rdMany rdC ln k = some (cols, lk) ∧ PSt w.heap.size w wr ⟨nm, ca, cc, cols, none, 0, [], none, 0, []⟩ lk)) (fun i _ => n1 - (intOf i).toNat)
    case atStart => exact ⟨0, Nat.zero_le _, rfl, [], none, 0, ln, ⟨And.intro rfl H4.out⟩⟩
    case round =>
      clear H4
      obtain ⟨k, hk, rfl, cols, ca, cc, lk, HB⟩ := hrel
      by_cases hlt : k < n1
      · have HN1' := Box.mk (show (h % 16).toNat = n1 from by have := HN1.out; omega)
        go_wp2_with fail
        cases hw : rdW 256 lk with
        | none =>
          refine (word_no HB.out.2.r hw).mono ?_
          rintro e w5 ⟨rfl, hb5⟩
          have hX := HX.out
          unfold parse1 at hX
          rw [rdMany_lt (rdMany_stop HB.out.1 (by unfold rdC; rw [hw]; rfl)) (m := (h % 16).toNat) (by have := HN1'.out; omega)] at hX
          subst hX
          go_wp2_with fail
          exact (HB.out.2.ddc hb5).dies _ rfl rfl
        | some q =>
          obtain ⟨m, lm⟩ := q
          refine (word_ok HB.out.2.r hw).mono ?_
          rintro e w5 ⟨rfl, hr5, hb5⟩
          have H5 := Box.mk (HB.out.2.call hr5 hb5)
          obtain ⟨hm0, hm1⟩ := (rdW_some hw).2
          have HRD := Box.mk (show rdC lk = (rdT (m / 8).toNat lm).map fun p => (⟨p.1, m % 4, decide (m / 4 % 2 = 1)⟩, p.2) from by unfold rdC; rw [hw]; rfl)
          have HM := Box.mk HB.out.1
          have hcl : cols.length ≤ 15 := by rw [show cols.length = k from rdMany_len HM.out]; omega
          clear hr5 hb5 hw HB
          go_wp2_with fail
          refine wp_region_held_drew (S := fun _ => True) (by kernel_rfl) trivial (fun _ => ?_)
          have HC := Box.mk H5.out.drew
          refine wpAnyH_take (i := 0) (v := ?_) rfl (by kernel_rfl) (by kernel_rfl) (by kernel_rfl) (fun c a w h => par_put (by decide) (by decide) h) (yieldsIf_val (by rfl) (fun w' hS => ?_)) trivial ?_
          rotate_left
          · skip
            go_simp
            all_goals with_reducible rfl
          conv =>
            arg 8
            simp [go_sem]
          refine wpAnyH_take (i := 2) (v := ?_) rfl (by kernel_rfl) (by kernel_rfl) (by kernel_rfl) (fun c a w h => par_put (by decide) (by decide) h) (yieldsIf_val (by rfl) (fun w' hS => ?_)) trivial ?_
          rotate_left
          · skip
            go_simp
            all_goals with_reducible rfl
          conv =>
            arg 8
            simp [go_sem]
          refine wpAnyH_take (i := 3) (v := ?_) rfl (by kernel_rfl) (by kernel_rfl) (by kernel_rfl) (fun c a w h => par_put (by decide) (by decide) h) (yieldsIf_val (by rfl) (fun w' hS => ?_)) trivial ?_
          rotate_left
          · skip
            have q3 := i64_and3 m
            go_simp
            all_goals with_reducible rfl
          conv =>
            arg 8
            simp [go_sem]
          refine wpAnyH_take (i := 4) (v := ?_) rfl (by kernel_rfl) (by kernel_rfl) (by kernel_rfl) (fun c a w h => par_put (by decide) (by decide) h) (yieldsIf_val (by rfl) (fun w' hS => ?_)) trivial ?_
          rotate_left
          · skip
            go_simp
            all_goals with_reducible rfl
          conv =>
            arg 8
            simp [go_sem]
          refine wpAnyH_take (i := 5) (v := ?_) rfl (by kernel_rfl) (by kernel_rfl) (by kernel_rfl) (fun c a w h => par_put (by decide) (by decide) h) (yieldsIf_val (by rfl) (fun w' hS => ?_)) trivial ?_
          rotate_left
          · skip
            have q4 := i64_and4 m hm0 hm1
            go_simp
            all_goals with_reducible rfl
          conv =>
            arg 8
            simp [go_sem]
          refine wpAnyH_take (i := 6) (v := ?_) rfl (by kernel_rfl) (by kernel_rfl) (by kernel_rfl) (fun c a w h => par_put (by decide) (by decide) h) (yieldsIf_val (by rfl) (fun w' hS => ?_)) trivial ?_
          rotate_left
          · skip
            have q5 : (m / 4 % 2 * 4 != 0) = decide (m / 4 % 2 = 1) := by rcases (show m / 4 % 2 = 0 ∨ m / 4 % 2 = 1 from by omega) with h | h <;> rw [h] <;> rfl
            go_simp
            all_goals with_reducible rfl
          conv =>
            arg 8
            simp [go_sem]
          refine wpAnyH_take (i := 7) (v := ?_) rfl (by kernel_rfl) (by kernel_rfl) (by kernel_rfl) (fun c a w h => par_put (by decide) (by decide) h) (yieldsIf_val (by rfl) (fun w' hS => ?_)) trivial ?_
          rotate_left
          · skip
            go_simp
            all_goals with_reducible rfl
          conv =>
            arg 8
            simp [go_sem]
          refine wpAnyH_take (i := 8) (v := ?_) rfl (by kernel_rfl) (by kernel_rfl) (by kernel_rfl) (fun c a w h => par_put (by decide) (by decide) h) (yieldsIf_val (by rfl) (fun w' hS => ?_)) trivial ?_
          rotate_left
          · skip
            go_simp
            all_goals with_reducible rfl
          conv =>
            arg 8
            simp [go_sem]
          refine wpAnyH_take (i := 9) (v := ?_) rfl (by kernel_rfl) (by kernel_rfl) (by kernel_rfl) (fun c a w h => par_put (by decide) (by decide) h) (yieldsIf_val (by rfl) (fun w' hS => ?_)) trivial ?_
          rotate_left
          · skip
            go_simp
            all_goals with_reducible rfl
          conv =>
            arg 8
            simp [go_sem]
          conv =>
            arg 8
            simp [go_sem]
          refine wpAnyH_ready (rs := [1, 10]) (by kernel_rfl) (by simp) ?_
          refine AllReadyH.cons rfl (fun K' hK' => ?_) (AllReadyH.cons rfl (fun K' hK' => ?_) AllReadyH.nil)
          · refine oper_load1 (by rfl) 24 (.tmp 28) rfl (by kernel_rfl) rfl (HC.out.t.cellOf (i := 1) rfl) ?_
            refine hK'.out _ _ trivial (fun _ => ?_)
            clear hK' K'
            conv =>
              arg 8
              simp [go_sem]
            conv =>
              arg 8
              simp [go_sem]
            refine wpAnyH_ready (rs := [10]) (by kernel_rfl) (by simp) ?_
            refine AllReadyH.cons rfl (fun K' hK' => ?_) AllReadyH.nil
            refine oper_callP (by rfl) 74 [.tmp 35, .tmp 37] #[99, 3] rfl (vs := [.pointer (some ⟨w.heap.size + 1 + 1, 0, none⟩), .int .i64 (m / 8)]) rfl Try.func74 par_nm par_bd (text_rdI HC.out.r (by have := HC.out.big; omega) (by omega) (by omega)) ?_
            rintro e w6 ⟨hb6, ⟨x, l2, ho6, rfl, hr6⟩ | ⟨ho6, rfl⟩⟩
            rotate_left
            · refine .inr ⟨_, rfl, ?_⟩
              have hX := HX.out
              unfold parse1 at hX
              rw [rdMany_lt (rdMany_stop HM.out (by rw [HRD.out, ho6]; rfl)) (m := (h % 16).toNat) (by have := HN1'.out; omega)] at hX
              subst hX
              exact (HC.out.ddc hb6).dies _ rfl rfl
            have HD := Box.mk (HC.out.call hr6 hb6)
            have HRX := Box.mk (show rdC lk = some (⟨x, m % 4, decide (m / 4 % 2 = 1)⟩, l2) from by rw [HRD.out, ho6]; rfl)
            clear hb6 hr6 ho6
            refine .inl ⟨_, rfl, hK'.out _ _ trivial (fun _ => ?_)⟩
            clear hK' K'
            conv =>
              arg 8
              simp [go_sem]
            refine wpAnyH_take (i := 11) (v := ?_) rfl (by kernel_rfl) (by kernel_rfl) (by kernel_rfl) (fun c a w h => par_put (by decide) (by decide) h) (yieldsIf_val (by rfl) (fun w' hS => ?_)) trivial ?_
            rotate_left
            · skip
              go_simp
              all_goals with_reducible rfl
            conv =>
              arg 8
              simp [go_sem]
            conv =>
              arg 8
              simp [go_sem]
            refine wpAnyH_ready (rs := [12]) (by kernel_rfl) (by simp) ?_
            refine AllReadyH.cons rfl (fun K' hK' => ?_) AllReadyH.nil
            refine oper_litA (by rfl) 24 (.tmp 39) rfl sl_cols (cs := [.string ⟨x.toArray⟩, .int .i64 (m % 4), .bool (decide (m / 4 % 2 = 1))]) rfl rfl (by omega) (by omega) ?_
            refine hK'.out _ _ trivial (fun _ => ?_)
            clear hK' K'
            conv =>
              arg 8
              simp [go_sem]
            conv =>
              arg 8
              simp [go_sem]
            refine wpAnyH_ready (rs := [13]) (by kernel_rfl) (by simp) ?_
            refine AllReadyH.cons rfl (fun K' hK' => ?_) AllReadyH.nil
            have SRC := Box.mk (Src.ofRd (P := Try.prog) (rd_newAt (w := w6) (arr := #[.string ⟨x.toArray⟩, .int .i64 (m % 4), .bool (decide (m / 4 % 2 = 1))]) (cs := recC Col.enc [⟨x, m % 4, decide (m / 4 % 2 = 1)⟩]) (e := 50) (n := 1) (g := w6.heap.size) (size := 3) rfl rfl rfl (by simp [maxLen])) (recC_one Col.enc_one _))
            have TA := Box.mk (HD.out.o.step ((Below.refl _ _).alloc (Nat.le_refl _) (.cells #[.string ⟨x.toArray⟩, .int .i64 (m % 4), .bool (decide (m / 4 % 2 = 1))] 50)))
            have hbs := HD.out.big
            refine oper_append2 (by rfl) (.tmp 29) (.tmp 40) 24 24 rfl sl_cols (.inl sl_cols.ht) rfl TA.out.cols rfl SRC.out (by show (cols.length + 1) * _ ≤ _; omega) (by show cols.length + 1 ≤ _; unfold maxLen; omega) (by simp; omega) ?_
            intro a7 c7 w7 hown7 hgr7 hnew7
            have HA := Box.mk (And.intro hgr7 (And.intro hown7 hnew7))
            clear hown7 hgr7 hnew7 hbs SRC TA
            refine hK'.out _ _ trivial (fun _ => ?_)
            clear hK' K'
            conv =>
              arg 8
              simp [go_sem]
            refine wpAnyH_take (i := 14) (v := ?_) rfl (by kernel_rfl) (by kernel_rfl) (by kernel_rfl) (fun c a w h => par_put (by decide) (by decide) h) (yieldsIf_val (by rfl) (fun w' hS => ?_)) trivial ?_
            rotate_left
            · skip
              go_simp
              all_goals with_reducible rfl
            conv =>
              arg 8
              simp [go_sem]
            conv =>
              arg 8
              simp [go_sem]
            refine wpAnyH_ready (rs := [15]) (by kernel_rfl) (by simp) ?_
            refine AllReadyH.cons rfl (fun K' hK' => ?_) AllReadyH.nil
            have BT := Box.mk (HD.out.t.eq ((HD.out.grown HD.out.o.cols HA.out.1).1 w.heap.size (by omega)))
            refine oper_store_part (by rfl) 24 (.tmp 42) (.tmp 41) rfl rfl (size := 1) (off := 1) (by kernel_rfl) BT.out (by simp) rfl (cs := [.slice a7 (cols.length + 1) c7]) rfl rfl (by simp [Value.oneCell']) ?_
            refine hK'.out _ _ trivial (fun _ => ?_)
            clear hK' K'
            conv =>
              arg 8
              simp [go_sem]
            refine ⟨by kernel_rfl, ?_⟩
            conv =>
              arg 5
              simp [go_sem]
            have H8 := Box.mk (show PSt w.heap.size w (w7.setRow w.heap.size (splice [.string ⟨nm.toArray⟩, .slice ca cols.length cc, .slice none 0 0, .slice none 0 0] 1 [.slice a7 (cols.length + 1) c7]).toArray) ⟨nm, a7, c7, cols ++ [⟨x, m % 4, decide (m / 4 % 2 = 1)⟩], none, 0, [], none, 0, []⟩ l2 from HD.out.addCol ⟨x, m % 4, decide (m / 4 % 2 = 1)⟩ HA.out.1 HA.out.2.1 HA.out.2.2 _ rfl)
            have HN8 := Box.mk (rdMany_next HM.out HRX.out)
            generalize (w7.setRow w.heap.size (splice [.string ⟨nm.toArray⟩, .slice ca cols.length cc, .slice none 0 0, .slice none 0 0] 1 [.slice a7 (cols.length + 1) c7]).toArray) = w8 at *
            go_wp2_with fail
            exact ⟨⟨k + 1, by omega, by omega, cols ++ [⟨x, m % 4, decide (m / 4 % 2 = 1)⟩], a7, c7, l2, ⟨And.intro HN8.out H8.out⟩⟩, by simp [intOf]; omega⟩
          · refine oper_callP (by rfl) 74 [.tmp 35, .tmp 37] #[99, 3] rfl (vs := [.pointer (some ⟨w.heap.size + 1 + 1, 0, none⟩), .int .i64 (m / 8)]) rfl Try.func74 par_nm par_bd (text_rdI HC.out.r (by have := HC.out.big; omega) (by omega) (by omega)) ?_
            rintro e w6 ⟨hb6, ⟨x, l2, ho6, rfl, hr6⟩ | ⟨ho6, rfl⟩⟩
            rotate_left
            · refine .inr ⟨_, rfl, ?_⟩
              have hX := HX.out
              unfold parse1 at hX
              rw [rdMany_lt (rdMany_stop HM.out (by rw [HRD.out, ho6]; rfl)) (m := (h % 16).toNat) (by have := HN1'.out; omega)] at hX
              subst hX
              exact (HC.out.ddc hb6).dies _ rfl rfl
            have HD := Box.mk (HC.out.call hr6 hb6)
            have HRX := Box.mk (show rdC lk = some (⟨x, m % 4, decide (m / 4 % 2 = 1)⟩, l2) from by rw [HRD.out, ho6]; rfl)
            clear hb6 hr6 ho6
            refine .inl ⟨_, rfl, hK'.out _ _ trivial (fun _ => ?_)⟩
            clear hK' K'
            conv =>
              arg 8
              simp [go_sem]
            refine wpAnyH_take (i := 11) (v := ?_) rfl (by kernel_rfl) (by kernel_rfl) (by kernel_rfl) (fun c a w h => par_put (by decide) (by decide) h) (yieldsIf_val (by rfl) (fun w' hS => ?_)) trivial ?_
            rotate_left
            · skip
              go_simp
              all_goals with_reducible rfl
            conv =>
              arg 8
              simp [go_sem]
            conv =>
              arg 8
              simp [go_sem]
            refine wpAnyH_ready (rs := [1, 12]) (by kernel_rfl) (by simp) ?_
            refine AllReadyH.cons rfl (fun K' hK' => ?_) (AllReadyH.cons rfl (fun K' hK' => ?_) AllReadyH.nil)
            · refine oper_load1 (by rfl) 24 (.tmp 28) rfl (by kernel_rfl) rfl (HD.out.t.cellOf (i := 1) rfl) ?_
              refine hK'.out _ _ trivial (fun _ => ?_)
              clear hK' K'
              conv =>
                arg 8
                simp [go_sem]
              conv =>
                arg 8
                simp [go_sem]
              refine wpAnyH_ready (rs := [12]) (by kernel_rfl) (by simp) ?_
              refine AllReadyH.cons rfl (fun K' hK' => ?_) AllReadyH.nil
              refine oper_litA (by rfl) 24 (.tmp 39) rfl sl_cols (cs := [.string ⟨x.toArray⟩, .int .i64 (m % 4), .bool (decide (m / 4 % 2 = 1))]) rfl rfl (by omega) (by omega) ?_
              refine hK'.out _ _ trivial (fun _ => ?_)
              clear hK' K'
              conv =>
                arg 8
                simp [go_sem]
              conv =>
                arg 8
                simp [go_sem]
              refine wpAnyH_ready (rs := [13]) (by kernel_rfl) (by simp) ?_
              refine AllReadyH.cons rfl (fun K' hK' => ?_) AllReadyH.nil
              have SRC := Box.mk (Src.ofRd (P := Try.prog) (rd_newAt (w := w6) (arr := #[.string ⟨x.toArray⟩, .int .i64 (m % 4), .bool (decide (m / 4 % 2 = 1))]) (cs := recC Col.enc [⟨x, m % 4, decide (m / 4 % 2 = 1)⟩]) (e := 50) (n := 1) (g := w6.heap.size) (size := 3) rfl rfl rfl (by simp [maxLen])) (recC_one Col.enc_one _))
              have TA := Box.mk (HD.out.o.step ((Below.refl _ _).alloc (Nat.le_refl _) (.cells #[.string ⟨x.toArray⟩, .int .i64 (m % 4), .bool (decide (m / 4 % 2 = 1))] 50)))
              have hbs := HD.out.big
              refine oper_append2 (by rfl) (.tmp 29) (.tmp 40) 24 24 rfl sl_cols (.inl sl_cols.ht) rfl TA.out.cols rfl SRC.out (by show (cols.length + 1) * _ ≤ _; omega) (by show cols.length + 1 ≤ _; unfold maxLen; omega) (by simp; omega) ?_
              intro a7 c7 w7 hown7 hgr7 hnew7
              have HA := Box.mk (And.intro hgr7 (And.intro hown7 hnew7))
              clear hown7 hgr7 hnew7 hbs SRC TA
              refine hK'.out _ _ trivial (fun _ => ?_)
              clear hK' K'
              conv =>
                arg 8
                simp [go_sem]
              refine wpAnyH_take (i := 14) (v := ?_) rfl (by kernel_rfl) (by kernel_rfl) (by kernel_rfl) (fun c a w h => par_put (by decide) (by decide) h) (yieldsIf_val (by rfl) (fun w' hS => ?_)) trivial ?_
              rotate_left
              · skip
                go_simp
                all_goals with_reducible rfl
              conv =>
                arg 8
                simp [go_sem]
              conv =>
                arg 8
                simp [go_sem]
              refine wpAnyH_ready (rs := [15]) (by kernel_rfl) (by simp) ?_
              refine AllReadyH.cons rfl (fun K' hK' => ?_) AllReadyH.nil
              have BT := Box.mk (HD.out.t.eq ((HD.out.grown HD.out.o.cols HA.out.1).1 w.heap.size (by omega)))
              refine oper_store_part (by rfl) 24 (.tmp 42) (.tmp 41) rfl rfl (size := 1) (off := 1) (by kernel_rfl) BT.out (by simp) rfl (cs := [.slice a7 (cols.length + 1) c7]) rfl rfl (by simp [Value.oneCell']) ?_
              refine hK'.out _ _ trivial (fun _ => ?_)
              clear hK' K'
              conv =>
                arg 8
                simp [go_sem]
              refine ⟨by kernel_rfl, ?_⟩
              conv =>
                arg 5
                simp [go_sem]
              have H8 := Box.mk (show PSt w.heap.size w (w7.setRow w.heap.size (splice [.string ⟨nm.toArray⟩, .slice ca cols.length cc, .slice none 0 0, .slice none 0 0] 1 [.slice a7 (cols.length + 1) c7]).toArray) ⟨nm, a7, c7, cols ++ [⟨x, m % 4, decide (m / 4 % 2 = 1)⟩], none, 0, [], none, 0, []⟩ l2 from HD.out.addCol ⟨x, m % 4, decide (m / 4 % 2 = 1)⟩ HA.out.1 HA.out.2.1 HA.out.2.2 _ rfl)
              have HN8 := Box.mk (rdMany_next HM.out HRX.out)
              generalize (w7.setRow w.heap.size (splice [.string ⟨nm.toArray⟩, .slice ca cols.length cc, .slice none 0 0, .slice none 0 0] 1 [.slice a7 (cols.length + 1) c7]).toArray) = w8 at *
              go_wp2_with fail
              exact ⟨⟨k + 1, by omega, by omega, cols ++ [⟨x, m % 4, decide (m / 4 % 2 = 1)⟩], a7, c7, l2, ⟨And.intro HN8.out H8.out⟩⟩, by simp [intOf]; omega⟩
            · refine oper_litA (by rfl) 24 (.tmp 39) rfl sl_cols (cs := [.string ⟨x.toArray⟩, .int .i64 (m % 4), .bool (decide (m / 4 % 2 = 1))]) rfl rfl (by omega) (by omega) ?_
              refine hK'.out _ _ trivial (fun _ => ?_)
              clear hK' K'
              conv =>
                arg 8
                simp [go_sem]
              conv =>
                arg 8
                simp [go_sem]
              refine wpAnyH_ready (rs := [1]) (by kernel_rfl) (by simp) ?_
              refine AllReadyH.cons rfl (fun K' hK' => ?_) AllReadyH.nil
              refine oper_load1 (by rfl) 24 (.tmp 28) rfl (by kernel_rfl) rfl ((HD.out.t.alloc _).cellOf (i := 1) rfl) ?_
              refine hK'.out _ _ trivial (fun _ => ?_)
              clear hK' K'
              conv =>
                arg 8
                simp [go_sem]
              conv =>
                arg 8
                simp [go_sem]
              refine wpAnyH_ready (rs := [13]) (by kernel_rfl) (by simp) ?_
              refine AllReadyH.cons rfl (fun K' hK' => ?_) AllReadyH.nil
              have SRC := Box.mk (Src.ofRd (P := Try.prog) (rd_newAt (w := w6) (arr := #[.string ⟨x.toArray⟩, .int .i64 (m % 4), .bool (decide (m / 4 % 2 = 1))]) (cs := recC Col.enc [⟨x, m % 4, decide (m / 4 % 2 = 1)⟩]) (e := 50) (n := 1) (g := w6.heap.size) (size := 3) rfl rfl rfl (by simp [maxLen])) (recC_one Col.enc_one _))
              have TA := Box.mk (HD.out.o.step ((Below.refl _ _).alloc (Nat.le_refl _) (.cells #[.string ⟨x.toArray⟩, .int .i64 (m % 4), .bool (decide (m / 4 % 2 = 1))] 50)))
              have hbs := HD.out.big
              refine oper_append2 (by rfl) (.tmp 29) (.tmp 40) 24 24 rfl sl_cols (.inl sl_cols.ht) rfl TA.out.cols rfl SRC.out (by show (cols.length + 1) * _ ≤ _; omega) (by show cols.length + 1 ≤ _; unfold maxLen; omega) (by simp; omega) ?_
              intro a7 c7 w7 hown7 hgr7 hnew7
              have HA := Box.mk (And.intro hgr7 (And.intro hown7 hnew7))
              clear hown7 hgr7 hnew7 hbs SRC TA
              refine hK'.out _ _ trivial (fun _ => ?_)
              clear hK' K'
              conv =>
                arg 8
                simp [go_sem]
              refine wpAnyH_take (i := 14) (v := ?_) rfl (by kernel_rfl) (by kernel_rfl) (by kernel_rfl) (fun c a w h => par_put (by decide) (by decide) h) (yieldsIf_val (by rfl) (fun w' hS => ?_)) trivial ?_
              rotate_left
              · skip
                go_simp
                all_goals with_reducible rfl
              conv =>
                arg 8
                simp [go_sem]
              conv =>
                arg 8
                simp [go_sem]
              refine wpAnyH_ready (rs := [15]) (by kernel_rfl) (by simp) ?_
              refine AllReadyH.cons rfl (fun K' hK' => ?_) AllReadyH.nil
              have BT := Box.mk (HD.out.t.eq ((HD.out.grown HD.out.o.cols HA.out.1).1 w.heap.size (by omega)))
              refine oper_store_part (by rfl) 24 (.tmp 42) (.tmp 41) rfl rfl (size := 1) (off := 1) (by kernel_rfl) BT.out (by simp) rfl (cs := [.slice a7 (cols.length + 1) c7]) rfl rfl (by simp [Value.oneCell']) ?_
              refine hK'.out _ _ trivial (fun _ => ?_)
              clear hK' K'
              conv =>
                arg 8
                simp [go_sem]
              refine ⟨by kernel_rfl, ?_⟩
              conv =>
                arg 5
                simp [go_sem]
              have H8 := Box.mk (show PSt w.heap.size w (w7.setRow w.heap.size (splice [.string ⟨nm.toArray⟩, .slice ca cols.length cc, .slice none 0 0, .slice none 0 0] 1 [.slice a7 (cols.length + 1) c7]).toArray) ⟨nm, a7, c7, cols ++ [⟨x, m % 4, decide (m / 4 % 2 = 1)⟩], none, 0, [], none, 0, []⟩ l2 from HD.out.addCol ⟨x, m % 4, decide (m / 4 % 2 = 1)⟩ HA.out.1 HA.out.2.1 HA.out.2.2 _ rfl)
              have HN8 := Box.mk (rdMany_next HM.out HRX.out)
              generalize (w7.setRow w.heap.size (splice [.string ⟨nm.toArray⟩, .slice ca cols.length cc, .slice none 0 0, .slice none 0 0] 1 [.slice a7 (cols.length + 1) c7]).toArray) = w8 at *
              go_wp2_with fail
              exact ⟨⟨k + 1, by omega, by omega, cols ++ [⟨x, m % 4, decide (m / 4 % 2 = 1)⟩], a7, c7, l2, ⟨And.intro HN8.out H8.out⟩⟩, by simp [intOf]; omega⟩
          done
      · obtain rfl : k = n1 := by omega
        have hX := HX.out
        unfold parse1 at hX
        rw [show (h % 16).toNat = k from by have := HN1.out; omega, HB.out.1] at hX
        simp only [Option.bind_some] at hX
        have HY := Box.mk hX
        have HC1 := Box.mk (show cols.length ≤ 15 from by rw [show cols.length = k from rdMany_len HB.out.1]; omega)
        have HP := Box.mk HB.out.2
        clear hX HX HB
        obtain ⟨n2, hn2⟩ : ∃ n : Nat, h / 16 % 16 = n := Int.eq_ofNat_of_zero_le (by omega)
        have q2 : bits .and .i64 (h / 16) 15 = n2 := by rw [i64_and15, hn2]
        have hn2b : n2 ≤ 15 := by omega
        have HN2 := Box.mk hn2
        clear hn2
        go_wp2_with fail
        go_loopw [47] (fun i wr => ∃ k : Nat, k ≤ n2 ∧ i = .int .i64 k ∧ ∃ (ixs : List IxP) (ia : Option Addr) (ic : Nat) (lj : List Int), Box (rdMany rdI lk k = some (ixs.map (·.x), lj) ∧ PSt w.heap.size w wr ⟨nm, ca, cc, cols, ia, ic, ixs, none, 0, []⟩ lj)) (fun i _ => n2 - (intOf i).toNat)
        case atStart => exact ⟨0, Nat.zero_le _, rfl, [], none, 0, lk, ⟨And.intro rfl HP.out⟩⟩
        case round =>
          clear HP
          obtain ⟨k2, hk2, rfl, ixs, ia, ic, lj, HB⟩ := hrel
          have HKL := Box.mk (show ixs.length = k2 from by have := rdMany_len HB.out.1; simpa using this)
          by_cases hlt2 : k2 < n2
          · have HDIE := Box.mk (show rdI lj = none → O = none from fun hI => by
              rw [← HY.out]
              unfold parse2
              rw [rdMany_lt (rdMany_stop HB.out.1 hI) (m := (h / 16 % 16).toNat) (by have := HN2.out; omega)]; rfl)
            go_wp2_with fail
            cases hw : rdW 1024 lj with
            | none =>
              refine (word_no HB.out.2.r hw).mono ?_
              rintro e w5 ⟨rfl, hb5⟩
              obtain rfl := HDIE.out (rdI_1 hw)
              go_wp2_with fail
              exact (HB.out.2.ddc hb5).dies _ rfl rfl
            | some q =>
              obtain ⟨m, lm⟩ := q
              refine (word_ok HB.out.2.r hw).mono ?_
              rintro e w5 ⟨rfl, hr5, hb5⟩
              have H5 := Box.mk (HB.out.2.call hr5 hb5)
              obtain ⟨hm0, hm1⟩ := (rdW_some hw).2
              have HM := Box.mk HB.out.1
              have W1 := Box.mk hw
              clear hr5 hb5 hw HB
              go_wp2_with fail
              cases hw : rdW lim40 lm with
              | none =>
                refine (word_no H5.out.r hw).mono ?_
                rintro e w6 ⟨rfl, hb6⟩
                obtain rfl := HDIE.out (rdI_2 W1.out hw)
                go_wp2_with fail
                exact (H5.out.ddc hb6).dies _ rfl rfl
              | some q =>
                obtain ⟨cw, lc⟩ := q
                refine (word_ok H5.out.r hw).mono ?_
                rintro e w6 ⟨rfl, hr6, hb6⟩
                have H6 := Box.mk (H5.out.call hr6 hb6)
                obtain ⟨hc0, hc1⟩ := (rdW_some hw).2
                unfold lim40 at hc1
                have W2 := Box.mk hw
                clear hr6 hb6 hw H5
                have qb1 : bits .and .i64 m 1 = m % 2 := i64_and1 m
                have hsz6 := H6.out.big
                go_wp2_with fail
                refine (text_rdI (n := m / 32) H6.out.r (by omega) (by omega) (by omega)).mono ?_
                rintro e w7 ⟨hb7, ⟨x, lx, ho7, rfl, hr7⟩ | ⟨ho7, rfl⟩⟩
                rotate_left
                · obtain rfl := HDIE.out (rdI_3 W1.out W2.out ho7)
                  go_wp2_with fail
                  exact (H6.out.ddc hb7).dies _ rfl rfl
                have H7 := Box.mk (H6.out.call hr7 hb7)
                have W3 := Box.mk ho7
                clear hr7 hb7 ho7 H6 hsz6
                obtain ⟨n3, hn3⟩ : ∃ n : Nat, m / 2 % 16 = n := Int.eq_ofNat_of_zero_le (by omega)
                have q3 : bits .and .i64 (m / 2) 15 = n3 := by rw [i64_and15, hn3]
                have hn3b : n3 ≤ 15 := by omega
                have HN3 := Box.mk (show (m / 2 % 16).toNat = n3 from by omega)
                clear hn3
                go_wp2_with fail
                have HQ := Box.mk (And.intro (Blk.new (w := w7) (k := w7.heap.size) (ty := 55) (arr := #[.string ⟨x.toArray⟩, .slice none 0 0, .bool (m % 2 == 1)]) (cs := [.string ⟨x.toArray⟩, .slice none 0 0, .bool (m % 2 == 1)]) rfl rfl) ((Below.refl w7.heap.size w7).alloc (Nat.le_refl _) (.cells #[.string ⟨x.toArray⟩, .slice none 0 0, .bool (m % 2 == 1)] 55)))
                go_loopw [8, 64] (fun d i wr2 => ∃ j : Nat, j ≤ n3 ∧ d = .int .i64 (cw / ((16 ^ j : Nat) : Int)) ∧ i = .int .i64 j ∧ ∃ (na : Option Addr) (nc : Nat), Box (wr2.ownsRow (w7.heap.size + 1) 3 1 (.slice na j nc) j (intVals (digits cw j)) ∧ Blk wr2 w7.heap.size 55 [.string ⟨x.toArray⟩, .slice na j nc, .bool (m % 2 == 1)] ∧ Below w7.heap.size w7 wr2)) (fun _ i _ => n3 - (intOf i).toNat)
                case atStart => exact ⟨0, Nat.zero_le _, by simp, rfl, none, 0, ⟨World.ownsRow_nil _ _ _ _, HQ.out.1, HQ.out.2⟩⟩
                case round =>
                  obtain ⟨j, hj, rfl, rfl, na, nc, HB⟩ := hrel
                  by_cases hlt3 : j < n3
                  · have HS3 := Box.mk (And.intro (digits_succ cw j) (digits_step cw j))
                    obtain ⟨D, hD⟩ : ∃ D, cw / ((16 ^ j : Nat) : Int) = D := ⟨_, rfl⟩
                    have hD0 : 0 ≤ D := by rw [← hD]; exact Int.ediv_nonneg hc0 (Int.natCast_nonneg _)
                    have hD1 : D < 1099511627776 := by rw [← hD]; exact Int.lt_of_le_of_lt (Int.ediv_le_self _ hc0) hc1
                    rw [hD] at HS3 ⊢
                    clear hD
                    have qD : bits .and .i64 D 15 = D % 16 := i64_and15 D
                    have c1 := HB.out.2.1.cellOf (i := 1) rfl
                    have hszr : w7.heap.size + 1 ≤ wr.heap.size := HB.out.2.1.lt
                    have ho := HB.out.1
                    go_wp2_with (at_builtin; refine wpList_append_src rfl _ _ 32 32 rfl sl_int (.inl sl_int.ht) rfl (ho.alloc _) rfl (Src.oneNew _ _ _ rfl) (by omega) (by unfold maxLen; omega) (by simp; omega) ?_; intro a9 c9 w9 hown9 hgr9 hnew9; have BQ9 := Box.mk ((HB.out.2.1.alloc (.cells #[.int .i64 (D % 16)] 3)).grown hgr9 (fun e => by have := (HB.out.1.lt _ e).1; omega)); have d1 := BQ9.out.cellOf (i := 1) rfl; have f1 := BQ9.out.free 1)
                    have hb9 := below_grown (HB.out.2.2.alloc (by omega) (.cells #[.int .i64 (D % 16)] 3)) hgr9 (ho.alloc _) (by omega) (by simp; omega)
                    refine ⟨⟨j + 1, by omega, by rw [HS3.out.2], by go_num, a9, c9, ⟨?_, BQ9.out.set 1 _, hb9.setCell (Nat.le_refl _) _⟩⟩, by simp [intOf]; omega⟩
                    rw [HS3.out.1]
                    have hown9' := ownsRow_setCell_below hown9 (a := ⟨w7.heap.size, 1, none⟩) (by show w7.heap.size < w7.heap.size + 1; omega) (.slice a9 (j + 1) c9)
                    simpa [intVals] using hown9'
                  · obtain rfl : j = n3 := by omega
                    obtain ⟨D, hD⟩ : ∃ D, cw / ((16 ^ j : Nat) : Int) = D := ⟨_, rfl⟩
                    have HD := Box.mk hD
                    rw [hD]
                    clear hD
                    have HT := Box.mk (H7.out.step HB.out.2.2)
                    have H7s := Box.mk (And.intro H7.out.big (And.intro (show ∀ b, ia = some b → b.block < w7.heap.size from fun b hb => (H7.out.o.ixs.lt b.block (by show (Value.slice ia _ ic).ownBlock = _; rw [hb]; rfl)).2) (show ∀ b, ca = some b → b.block < w7.heap.size from fun b hb => (H7.out.o.cols.lt b.block (by show (Value.slice ca _ cc).ownBlock = _; rw [hb]; rfl)).2)))
                    have HBB := Box.mk HB.out
                    clear H7 HB
                    by_cases hD0 : D = 0
                    · subst hD0
                      have HRX := Box.mk (rdI_5 W1.out W2.out W3.out (by rw [HN3.out]; exact HD.out))
                      have x2 := HT.out.t.cellOf (i := 2) rfl
                      have y0 := HBB.out.2.1.cellOf (i := 0) rfl
                      have y1 := HBB.out.2.1.cellOf (i := 1) rfl
                      have y2 := HBB.out.2.1.cellOf (i := 2) rfl
                      have hil : ixs.length ≤ 15 := by rw [HKL.out]; omega
                      have SRC := Box.mk (Src.ofRd (P := Try.prog) (rd_newAt (w := wr) (arr := #[.string ⟨x.toArray⟩, .slice na j nc, .bool (m % 2 == 1)]) (cs := recC IxP.enc [(⟨⟨x, digits cw j, (m % 2 == 1)⟩, na, nc⟩ : IxP)]) (e := 55) (n := 1) (g := wr.heap.size) (size := 3) rfl (by show _ = #[Value.string ⟨x.toArray⟩, .slice na (digits cw j).length nc, .bool (m % 2 == 1)]; rw [digits_len]) rfl (by simp [maxLen])) (recC_one IxP.enc_one _))
                      have TA := Box.mk (HT.out.o.step ((Below.refl _ _).alloc (Nat.le_refl _) (.cells #[.string ⟨x.toArray⟩, .slice na j nc, .bool (m % 2 == 1)] 55)))
                      have hbs := HT.out.big
                      go_wp2_with (at_builtin; refine wpList_append_src rfl _ _ 25 25 rfl sl_ixs (.inl sl_ixs.ht) rfl TA.out.ixs rfl SRC.out (by show (ixs.length + 1) * _ ≤ _; omega) (by show ixs.length + 1 ≤ _; unfold maxLen; omega) (by simp; omega) ?_; intro a9 c9 w9 hown9 hgr9 hnew9; have BT := Box.mk (HT.out.t.eq ((HT.out.grown HT.out.o.ixs hgr9).1 w.heap.size (by omega))); have d2 := BT.out.cellOf (i := 2) rfl; have f2 := BT.out.free 2)
                      have hws := H7s.out
                      have H9 := HT.out.addIxC ⟨⟨x, digits cw j, (m % 2 == 1)⟩, na, nc⟩ hgr9 hown9 hnew9 (by show Rd wr na (digits cw j).length nc 1 _; rw [digits_len]; exact Rd.ofOwn HBB.out.1) (fun ad had => by
                        have h1 := HBB.out.1.lt ad.block (by show (Value.slice na j nc).ownBlock = _; rw [show na = some ad from had]; rfl)
                        exact ⟨by omega, h1.2, fun b hb => by have := (hws.2.1 b hb); omega, fun b hb => by have := (hws.2.2 b hb); omega⟩) rfl
                      refine ⟨⟨.int .i64 m, .int .i64 0, .pointer (some ⟨w7.heap.size, 0, none⟩), .int .i64 (k2 + 1 : Nat), ⟨k2 + 1, by omega, rfl, ixs ++ [(⟨⟨x, digits cw j, (m % 2 == 1)⟩, na, nc⟩ : IxP)], a9, c9, lx, ⟨And.intro ?_ H9⟩⟩, rfl, rfl, rfl, by go_num⟩, by simp [intOf]; omega⟩
                      rw [List.map_append]
                      refine rdMany_next HM.out ?_
                      rw [HRX.out, HN3.out]; rfl
                    · obtain rfl := HDIE.out (rdI_4 W1.out W2.out W3.out (by rw [HN3.out, HD.out]; exact hD0))
                      have hDb : (D == 0) = false := by simp [hD0]
                      go_wp2_with fail
                      refine (fail_any _).mono ?_
                      rintro e w' ⟨rfl, rfl⟩
                      go_wp2_with fail
                      exact HT.out.dd.dies _ rfl rfl
          · obtain rfl : k2 = n2 := by omega
            have hX := HY.out
            unfold parse2 at hX
            rw [show (h / 16 % 16).toNat = k2 from by have := HN2.out; omega, HB.out.1] at hX
            simp only [Option.bind_some] at hX
            have HZ := Box.mk hX
            have HC2 := Box.mk (show ixs.length ≤ 15 from by rw [HKL.out]; omega)
            have HP := Box.mk HB.out.2
            clear hX HY HB HKL
            obtain ⟨n4, hn4⟩ : ∃ n : Nat, h / 256 % 16 = n := Int.eq_ofNat_of_zero_le (by omega)
            have q4 : bits .and .i64 (h / 256) 15 = n4 := by rw [i64_and15, hn4]
            have hn4b : n4 ≤ 15 := by omega
            have HN4 := Box.mk hn4
            clear hn4
            go_wp2_with fail
            go_loopw [89] (fun i wr => ∃ k : Nat, k ≤ n4 ∧ i = .int .i64 k ∧ ∃ (chks : List Chk) (ha : Option Addr) (hc : Nat) (li : List Int), Box (rdMany (rdK cols) lj k = some (chks, li) ∧ PSt w.heap.size w wr ⟨nm, ca, cc, cols, ia, ic, ixs, ha, hc, chks⟩ li)) (fun i _ => n4 - (intOf i).toNat)
            case atStart => exact ⟨0, Nat.zero_le _, rfl, [], none, 0, lj, ⟨And.intro rfl HP.out⟩⟩
            case round =>
              clear HP
              obtain ⟨k4, hk4, rfl, chks, ha, hc, li, HB⟩ := hrel
              have HKL := Box.mk (show chks.length = k4 from rdMany_len HB.out.1)
              by_cases hlt4 : k4 < n4
              · have HDIE := Box.mk (show rdK cols li = none → O = none from fun hI => by
                  rw [← HZ.out]
                  unfold parse3
                  rw [rdMany_lt (rdMany_stop HB.out.1 hI) (m := (h / 256 % 16).toNat) (by have := HN4.out; omega)]; rfl)
                go_wp2_with fail
                cases hw : rdW 512 li with
                | none =>
                  refine (word_no HB.out.2.r hw).mono ?_
                  rintro e w5 ⟨rfl, hb5⟩
                  obtain rfl := HDIE.out (rdK_1 hw)
                  go_wp2_with fail
                  exact (HB.out.2.ddc hb5).dies _ rfl rfl
                | some q =>
                  obtain ⟨m, lm⟩ := q
                  refine (word_ok HB.out.2.r hw).mono ?_
                  rintro e w5 ⟨rfl, hr5, hb5⟩
                  have H5 := Box.mk (HB.out.2.call hr5 hb5)
                  obtain ⟨hm0, hm1⟩ := (rdW_some hw).2
                  have HM := Box.mk HB.out.1
                  have W1 := Box.mk hw
                  have qm : bits .and .i64 m 15 = m % 16 := i64_and15 m
                  have x1 := H5.out.t.cellOf (i := 1) rfl
                  clear hr5 hb5 hw HB
                  by_cases hcol : (cols.length : Int) ≤ m % 16
                  · obtain rfl := HDIE.out (rdK_2 W1.out hcol)
                    go_wp2_with fail
                    refine (fail_any _).mono ?_
                    rintro e w' ⟨rfl, rfl⟩
                    go_wp2_with fail
                    exact H5.out.dd.dies _ rfl rfl
                  · go_wp2_with fail
                    clear x1
                    obtain ⟨I, hI⟩ : ∃ n : Nat, m % 16 = n := Int.eq_ofNat_of_zero_le (by omega)
                    have HI := Box.mk hI
                    rw [hI] at qm
                    have hIl : (I : Int) < (cols.length : Int) := by omega
                    have hIl2 : I < cols.length := by omega
                    have HCB := Box.mk hcol
                    have hcl := HC1.out
                    have hhl : chks.length ≤ 15 := by rw [HKL.out]; omega
                    clear hI hcol
                    obtain ⟨gk, ok, rfl, hgk, hck⟩ := (Rd.ofOwn H5.out.o.cols).recAt Col.enc_len (by omega) I hIl2
                    obtain ⟨K, hK⟩ : ∃ K, (cols.getD I default).kind = K := ⟨_, rfl⟩
                    have HK := Box.mk (show w5.drew.cell? ⟨gk, ok + I * 3 + 1, none⟩ = some (.int .i64 K) from by rw [← hK]; exact hck 1 _ rfl)
                    have HKD := Box.mk (show (cols.getD (m % 16).toNat default).kind = K from by rw [HI.out, Int.toNat_natCast]; exact hK)
                    clear hK hck hgk
                    refine wp_region_held_drew (S := fun _ => True) (by kernel_rfl) trivial (fun _ => ?_)
                    have HC := Box.mk H5.out.drew
                    refine wpAnyH_take (i := 0) (v := ?_) rfl (by kernel_rfl) (by kernel_rfl) (by kernel_rfl) (fun c a w h => par_put (by decide) (by decide) h) (yieldsIf_val (by rfl) (fun w' hS => ?_)) trivial ?_
                    rotate_left
                    · skip
                      go_simp
                      all_goals with_reducible rfl
                    conv =>
                      arg 8
                      simp [go_sem]
                    refine wpAnyH_take (i := 2) (v := ?_) rfl (by kernel_rfl) (by kernel_rfl) (by kernel_rfl) (fun c a w h => par_put (by decide) (by decide) h) (yieldsIf_val (by rfl) (fun w' hS => ?_)) trivial ?_
                    rotate_left
                    · skip
                      go_simp
                      all_goals with_reducible rfl
                    conv =>
                      arg 8
                      simp [go_sem]
                    refine wpAnyH_take (i := 3) (v := ?_) rfl (by kernel_rfl) (by kernel_rfl) (by kernel_rfl) (fun c a w h => par_put (by decide) (by decide) h) (yieldsIf_val (by rfl) (fun w' hS => ?_)) trivial ?_
                    rotate_left
                    · skip
                      go_simp
                      all_goals with_reducible rfl
                    conv =>
                      arg 8
                      simp [go_sem]
                    refine wpAnyH_take (i := 4) (v := ?_) rfl (by kernel_rfl) (by kernel_rfl) (by kernel_rfl) (fun c a w h => par_put (by decide) (by decide) h) (yieldsIf_val (by rfl) (fun w' hS => ?_)) trivial ?_
                    rotate_left
                    · skip
                      go_simp
                      all_goals with_reducible rfl
                    conv =>
                      arg 8
                      simp [go_sem]
                    refine wpAnyH_take (i := 5) (v := ?_) rfl (by kernel_rfl) (by kernel_rfl) (by kernel_rfl) (fun c a w h => par_put (by decide) (by decide) h) (yieldsIf_val (by rfl) (fun w' hS => ?_)) trivial ?_
                    rotate_left
                    · skip
                      go_simp
                      all_goals with_reducible rfl
                    conv =>
                      arg 8
                      simp [go_sem]
                    refine wpAnyH_take (i := 6) (v := ?_) rfl (by kernel_rfl) (by kernel_rfl) (by kernel_rfl) (fun c a w h => par_put (by decide) (by decide) h) (yieldsIf_val (by rfl) (fun w' hS => ?_)) trivial ?_
                    rotate_left
                    · skip
                      go_simp
                      all_goals with_reducible rfl
                    conv =>
                      arg 8
                      simp [go_sem]
                    refine wpAnyH_take (i := 7) (v := ?_) rfl (by kernel_rfl) (by kernel_rfl) (by kernel_rfl) (fun c a w h => par_put (by decide) (by decide) h) (yieldsIf_val (by rfl) (fun w' hS => ?_)) trivial ?_
                    rotate_left
                    · skip
                      go_simp
                      all_goals with_reducible rfl
                    conv =>
                      arg 8
                      simp [go_sem]
                    refine wpAnyH_take (i := 9) (v := ?_) rfl (by kernel_rfl) (by kernel_rfl) (by kernel_rfl) (fun c a w h => par_put (by decide) (by decide) h) (yieldsIf_val (by rfl) (fun w' hS => ?_)) trivial ?_
                    rotate_left
                    · skip
                      go_simp
                      all_goals with_reducible rfl
                    conv =>
                      arg 8
                      simp [go_sem]
                    refine wpAnyH_take (i := 10) (v := ?_) rfl (by kernel_rfl) (by kernel_rfl) (by kernel_rfl) (fun c a w h => par_put (by decide) (by decide) h) (yieldsIf_val (by rfl) (fun w' hS => ?_)) trivial ?_
                    rotate_left
                    · skip
                      go_simp
                      all_goals with_reducible rfl
                    conv =>
                      arg 8
                      simp [go_sem]
                    conv =>
                      arg 8
                      simp [go_sem]
                    refine wpAnyH_ready (rs := [1, 8]) (by kernel_rfl) (by simp) ?_
                    refine AllReadyH.cons rfl (fun K' hK' => ?_) (AllReadyH.cons rfl (fun K' hK' => ?_) AllReadyH.nil)
                    · refine oper_load1 (by rfl) 26 (.tmp 100) rfl (by kernel_rfl) rfl (HC.out.t.cellOf (i := 3) rfl) ?_
                      refine hK'.out _ _ trivial (fun _ => ?_)
                      clear hK' K'
                      conv =>
                        arg 8
                        simp [go_sem]
                      conv =>
                        arg 8
                        simp [go_sem]
                      refine wpAnyH_ready (rs := [8]) (by kernel_rfl) (by simp) ?_
                      refine AllReadyH.cons rfl (fun K' hK' => ?_) AllReadyH.nil
                      refine oper_load1 (by rfl) 24 (.tmp 107) rfl (by kernel_rfl) rfl (HC.out.t.cellOf (i := 1) rfl) ?_
                      refine hK'.out _ _ trivial (fun _ => ?_)
                      clear hK' K'
                      conv =>
                        arg 8
                        simp [go_sem]
                      refine wpAnyH_take (i := 11) (v := ?_) rfl (by kernel_rfl) (by kernel_rfl) (by kernel_rfl) (fun c a w h => par_put (by decide) (by decide) h) (yieldsIf_val (by rfl) (fun w' hS => ?_)) trivial ?_
                      rotate_left
                      · skip
                        go_simp
                        all_goals with_reducible rfl
                      conv =>
                        arg 8
                        simp [go_sem]
                      refine wpAnyH_take (i := 12) (v := ?_) rfl (by kernel_rfl) (by kernel_rfl) (by kernel_rfl) (fun c a w h => par_put (by decide) (by decide) h) (yieldsIf_val (by rfl) (fun w' hS => ?_)) trivial ?_
                      rotate_left
                      · skip
                        go_simp
                        all_goals with_reducible rfl
                      conv =>
                        arg 8
                        simp [go_sem]
                      conv =>
                        arg 8
                        simp [go_sem]
                      refine wpAnyH_ready (rs := [13]) (by kernel_rfl) (by simp) ?_
                      refine AllReadyH.cons rfl (fun K' hK' => ?_) AllReadyH.nil
                      refine oper_load1 (by rfl) 3 (.tmp 112) rfl (by kernel_rfl) rfl HK.out ?_
                      refine hK'.out _ _ trivial (fun _ => ?_)
                      clear hK' K'
                      conv =>
                        arg 8
                        simp [go_sem]
                      conv =>
                        arg 8
                        simp [go_sem]
                      refine wpAnyH_ready (rs := [14]) (by kernel_rfl) (by simp) ?_
                      refine AllReadyH.cons rfl (fun K' hK' => ?_) AllReadyH.nil
                      refine oper_callP (by rfl) 76 [.tmp 106, .tmp 113] #[99, 3] rfl (vs := [.pointer (some ⟨w.heap.size + 1 + 1, 0, none⟩), .int .i64 K]) rfl Try.func76 par_nmv par_bdv (value_rd HC.out.r (by have := HC.out.big; omega)) ?_
                      rintro e w6 ⟨hb6, ⟨⟨vk, vn, vs⟩, lx, ho6, rfl, hr6⟩ | ⟨ho6, rfl⟩⟩
                      rotate_left
                      · refine .inr ⟨_, rfl, ?_⟩
                        obtain rfl := HDIE.out (rdK_3 W1.out (by have := HCB.out; omega) (by rw [HKD.out]; exact ho6))
                        exact (HC.out.ddc hb6).dies _ rfl rfl
                      have HD := Box.mk (HC.out.call hr6 hb6)
                      have HRX := Box.mk (show rdK cols li = some ((⟨(I : Int), m / 16, ⟨vk, vn, vs⟩⟩ : Chk), lx) from by rw [rdK_4 W1.out (by have := HCB.out; omega) (by rw [HKD.out]; exact ho6), HI.out])
                      clear hb6 hr6 ho6
                      refine .inl ⟨.agg #[.int .i64 vk, .int .i64 vn, .string ⟨vs.toArray⟩], rfl, hK'.out _ _ trivial (fun _ => ?_)⟩
                      clear hK' K'
                      conv =>
                        arg 8
                        simp [go_sem]
                      refine wpAnyH_take (i := 15) (v := ?_) rfl (by kernel_rfl) (by kernel_rfl) (by kernel_rfl) (fun c a w h => par_put (by decide) (by decide) h) (yieldsIf_val (by rfl) (fun w' hS => ?_)) trivial ?_
                      rotate_left
                      · skip
                        go_simp
                        all_goals with_reducible rfl
                      conv =>
                        arg 8
                        simp [go_sem]
                      conv =>
                        arg 8
                        simp [go_sem]
                      refine wpAnyH_ready (rs := [16]) (by kernel_rfl) (by simp) ?_
                      refine AllReadyH.cons rfl (fun K' hK' => ?_) AllReadyH.nil
                      refine oper_litA (by rfl) 26 (.tmp 115) rfl sl_chks (cs := [.int .i64 (I : Int), .int .i64 (m / 16), .int .i64 vk, .int .i64 vn, .string ⟨vs.toArray⟩]) rfl rfl (by omega) (by omega) ?_
                      refine hK'.out _ _ trivial (fun _ => ?_)
                      clear hK' K'
                      conv =>
                        arg 8
                        simp [go_sem]
                      conv =>
                        arg 8
                        simp [go_sem]
                      refine wpAnyH_ready (rs := [17]) (by kernel_rfl) (by simp) ?_
                      refine AllReadyH.cons rfl (fun K' hK' => ?_) AllReadyH.nil
                      have SRC := Box.mk (Src.ofRd (P := Try.prog) (rd_newAt (w := w6) (arr := #[.int .i64 (I : Int), .int .i64 (m / 16), .int .i64 vk, .int .i64 vn, .string ⟨vs.toArray⟩]) (cs := recC Chk.enc [(⟨(I : Int), m / 16, ⟨vk, vn, vs⟩⟩ : Chk)]) (e := 42) (n := 1) (g := w6.heap.size) (size := 5) rfl rfl rfl (by simp [maxLen])) (recC_one Chk.enc_one _))
                      have TA := Box.mk (HD.out.o.step ((Below.refl _ _).alloc (Nat.le_refl _) (.cells #[.int .i64 (I : Int), .int .i64 (m / 16), .int .i64 vk, .int .i64 vn, .string ⟨vs.toArray⟩] 42)))
                      have hbs := HD.out.big
                      refine oper_append2 (by rfl) (.tmp 101) (.tmp 116) 26 26 rfl sl_chks (.inl sl_chks.ht) rfl TA.out.chks rfl SRC.out (by show (chks.length + 1) * _ ≤ _; omega) (by show chks.length + 1 ≤ _; unfold maxLen; omega) (by simp; omega) ?_
                      intro a7 c7 w7 hown7 hgr7 hnew7
                      have HA := Box.mk (And.intro hgr7 (And.intro hown7 hnew7))
                      clear hown7 hgr7 hnew7 hbs SRC TA
                      refine hK'.out _ _ trivial (fun _ => ?_)
                      clear hK' K'
                      conv =>
                        arg 8
                        simp [go_sem]
                      refine wpAnyH_take (i := 18) (v := ?_) rfl (by kernel_rfl) (by kernel_rfl) (by kernel_rfl) (fun c a w h => par_put (by decide) (by decide) h) (yieldsIf_val (by rfl) (fun w' hS => ?_)) trivial ?_
                      rotate_left
                      · skip
                        go_simp
                        all_goals with_reducible rfl
                      conv =>
                        arg 8
                        simp [go_sem]
                      conv =>
                        arg 8
                        simp [go_sem]
                      refine wpAnyH_ready (rs := [19]) (by kernel_rfl) (by simp) ?_
                      refine AllReadyH.cons rfl (fun K' hK' => ?_) AllReadyH.nil
                      have BT := Box.mk (HD.out.t.eq ((HD.out.grown HD.out.o.chks HA.out.1).1 w.heap.size (by omega)))
                      refine oper_store_part (by rfl) 26 (.tmp 118) (.tmp 117) rfl rfl (size := 1) (off := 3) (by kernel_rfl) BT.out (by simp) rfl (cs := [.slice a7 (chks.length + 1) c7]) rfl rfl (by simp [Value.oneCell']) ?_
                      refine hK'.out _ _ trivial (fun _ => ?_)
                      clear hK' K'
                      conv =>
                        arg 8
                        simp [go_sem]
                      refine ⟨by kernel_rfl, ?_⟩
                      conv =>
                        arg 5
                        simp [go_sem]
                      have H8 := Box.mk (show PSt w.heap.size w (w7.setRow w.heap.size (splice [.string ⟨nm.toArray⟩, .slice (some ⟨gk, ok, none⟩) cols.length cc, .slice ia ixs.length ic, .slice ha chks.length hc] 3 [.slice a7 (chks.length + 1) c7]).toArray) ⟨nm, some ⟨gk, ok, none⟩, cc, cols, ia, ic, ixs, a7, c7, chks ++ [(⟨(I : Int), m / 16, ⟨vk, vn, vs⟩⟩ : Chk)]⟩ lx from HD.out.addChk (⟨(I : Int), m / 16, ⟨vk, vn, vs⟩⟩ : Chk) HA.out.1 HA.out.2.1 HA.out.2.2 _ rfl)
                      have HN8 := Box.mk (rdMany_next HM.out HRX.out)
                      generalize (w7.setRow w.heap.size (splice [.string ⟨nm.toArray⟩, .slice (some ⟨gk, ok, none⟩) cols.length cc, .slice ia ixs.length ic, .slice ha chks.length hc] 3 [.slice a7 (chks.length + 1) c7]).toArray) = w8 at *
                      go_wp2_with fail
                      exact ⟨⟨k4 + 1, by omega, by omega, chks ++ [(⟨(I : Int), m / 16, ⟨vk, vn, vs⟩⟩ : Chk)], a7, c7, lx, ⟨And.intro HN8.out H8.out⟩⟩, by simp [intOf]; omega⟩
                    · refine oper_load1 (by rfl) 24 (.tmp 107) rfl (by kernel_rfl) rfl (HC.out.t.cellOf (i := 1) rfl) ?_
                      refine hK'.out _ _ trivial (fun _ => ?_)
                      clear hK' K'
                      conv =>
                        arg 8
                        simp [go_sem]
                      refine wpAnyH_take (i := 11) (v := ?_) rfl (by kernel_rfl) (by kernel_rfl) (by kernel_rfl) (fun c a w h => par_put (by decide) (by decide) h) (yieldsIf_val (by rfl) (fun w' hS => ?_)) trivial ?_
                      rotate_left
                      · skip
                        go_simp
                        all_goals with_reducible rfl
                      conv =>
                        arg 8
                        simp [go_sem]
                      refine wpAnyH_take (i := 12) (v := ?_) rfl (by kernel_rfl) (by kernel_rfl) (by kernel_rfl) (fun c a w h => par_put (by decide) (by decide) h) (yieldsIf_val (by rfl) (fun w' hS => ?_)) trivial ?_
                      rotate_left
                      · skip
                        go_simp
                        all_goals with_reducible rfl
                      conv =>
                        arg 8
                        simp [go_sem]
                      conv =>
                        arg 8
                        simp [go_sem]
                      refine wpAnyH_ready (rs := [1, 13]) (by kernel_rfl) (by simp) ?_
                      refine AllReadyH.cons rfl (fun K' hK' => ?_) (AllReadyH.cons rfl (fun K' hK' => ?_) AllReadyH.nil)
                      · refine oper_load1 (by rfl) 26 (.tmp 100) rfl (by kernel_rfl) rfl (HC.out.t.cellOf (i := 3) rfl) ?_
                        refine hK'.out _ _ trivial (fun _ => ?_)
                        clear hK' K'
                        conv =>
                          arg 8
                          simp [go_sem]
                        conv =>
                          arg 8
                          simp [go_sem]
                        refine wpAnyH_ready (rs := [13]) (by kernel_rfl) (by simp) ?_
                        refine AllReadyH.cons rfl (fun K' hK' => ?_) AllReadyH.nil
                        refine oper_load1 (by rfl) 3 (.tmp 112) rfl (by kernel_rfl) rfl HK.out ?_
                        refine hK'.out _ _ trivial (fun _ => ?_)
                        clear hK' K'
                        conv =>
                          arg 8
                          simp [go_sem]
                        conv =>
                          arg 8
                          simp [go_sem]
                        refine wpAnyH_ready (rs := [14]) (by kernel_rfl) (by simp) ?_
                        refine AllReadyH.cons rfl (fun K' hK' => ?_) AllReadyH.nil
                        refine oper_callP (by rfl) 76 [.tmp 106, .tmp 113] #[99, 3] rfl (vs := [.pointer (some ⟨w.heap.size + 1 + 1, 0, none⟩), .int .i64 K]) rfl Try.func76 par_nmv par_bdv (value_rd HC.out.r (by have := HC.out.big; omega)) ?_
                        rintro e w6 ⟨hb6, ⟨⟨vk, vn, vs⟩, lx, ho6, rfl, hr6⟩ | ⟨ho6, rfl⟩⟩
                        rotate_left
                        · refine .inr ⟨_, rfl, ?_⟩
                          obtain rfl := HDIE.out (rdK_3 W1.out (by have := HCB.out; omega) (by rw [HKD.out]; exact ho6))
                          exact (HC.out.ddc hb6).dies _ rfl rfl
                        have HD := Box.mk (HC.out.call hr6 hb6)
                        have HRX := Box.mk (show rdK cols li = some ((⟨(I : Int), m / 16, ⟨vk, vn, vs⟩⟩ : Chk), lx) from by rw [rdK_4 W1.out (by have := HCB.out; omega) (by rw [HKD.out]; exact ho6), HI.out])
                        clear hb6 hr6 ho6
                        refine .inl ⟨.agg #[.int .i64 vk, .int .i64 vn, .string ⟨vs.toArray⟩], rfl, hK'.out _ _ trivial (fun _ => ?_)⟩
                        clear hK' K'
                        conv =>
                          arg 8
                          simp [go_sem]
                        refine wpAnyH_take (i := 15) (v := ?_) rfl (by kernel_rfl) (by kernel_rfl) (by kernel_rfl) (fun c a w h => par_put (by decide) (by decide) h) (yieldsIf_val (by rfl) (fun w' hS => ?_)) trivial ?_
                        rotate_left
                        · skip
                          go_simp
                          all_goals with_reducible rfl
                        conv =>
                          arg 8
                          simp [go_sem]
                        conv =>
                          arg 8
                          simp [go_sem]
                        refine wpAnyH_ready (rs := [16]) (by kernel_rfl) (by simp) ?_
                        refine AllReadyH.cons rfl (fun K' hK' => ?_) AllReadyH.nil
                        refine oper_litA (by rfl) 26 (.tmp 115) rfl sl_chks (cs := [.int .i64 (I : Int), .int .i64 (m / 16), .int .i64 vk, .int .i64 vn, .string ⟨vs.toArray⟩]) rfl rfl (by omega) (by omega) ?_
                        refine hK'.out _ _ trivial (fun _ => ?_)
                        clear hK' K'
                        conv =>
                          arg 8
                          simp [go_sem]
                        conv =>
                          arg 8
                          simp [go_sem]
                        refine wpAnyH_ready (rs := [17]) (by kernel_rfl) (by simp) ?_
                        refine AllReadyH.cons rfl (fun K' hK' => ?_) AllReadyH.nil
                        have SRC := Box.mk (Src.ofRd (P := Try.prog) (rd_newAt (w := w6) (arr := #[.int .i64 (I : Int), .int .i64 (m / 16), .int .i64 vk, .int .i64 vn, .string ⟨vs.toArray⟩]) (cs := recC Chk.enc [(⟨(I : Int), m / 16, ⟨vk, vn, vs⟩⟩ : Chk)]) (e := 42) (n := 1) (g := w6.heap.size) (size := 5) rfl rfl rfl (by simp [maxLen])) (recC_one Chk.enc_one _))
                        have TA := Box.mk (HD.out.o.step ((Below.refl _ _).alloc (Nat.le_refl _) (.cells #[.int .i64 (I : Int), .int .i64 (m / 16), .int .i64 vk, .int .i64 vn, .string ⟨vs.toArray⟩] 42)))
                        have hbs := HD.out.big
                        refine oper_append2 (by rfl) (.tmp 101) (.tmp 116) 26 26 rfl sl_chks (.inl sl_chks.ht) rfl TA.out.chks rfl SRC.out (by show (chks.length + 1) * _ ≤ _; omega) (by show chks.length + 1 ≤ _; unfold maxLen; omega) (by simp; omega) ?_
                        intro a7 c7 w7 hown7 hgr7 hnew7
                        have HA := Box.mk (And.intro hgr7 (And.intro hown7 hnew7))
                        clear hown7 hgr7 hnew7 hbs SRC TA
                        refine hK'.out _ _ trivial (fun _ => ?_)
                        clear hK' K'
                        conv =>
                          arg 8
                          simp [go_sem]
                        refine wpAnyH_take (i := 18) (v := ?_) rfl (by kernel_rfl) (by kernel_rfl) (by kernel_rfl) (fun c a w h => par_put (by decide) (by decide) h) (yieldsIf_val (by rfl) (fun w' hS => ?_)) trivial ?_
                        rotate_left
                        · skip
                          go_simp
                          all_goals with_reducible rfl
                        conv =>
                          arg 8
                          simp [go_sem]
                        conv =>
                          arg 8
                          simp [go_sem]
                        refine wpAnyH_ready (rs := [19]) (by kernel_rfl) (by simp) ?_
                        refine AllReadyH.cons rfl (fun K' hK' => ?_) AllReadyH.nil
                        have BT := Box.mk (HD.out.t.eq ((HD.out.grown HD.out.o.chks HA.out.1).1 w.heap.size (by omega)))
                        refine oper_store_part (by rfl) 26 (.tmp 118) (.tmp 117) rfl rfl (size := 1) (off := 3) (by kernel_rfl) BT.out (by simp) rfl (cs := [.slice a7 (chks.length + 1) c7]) rfl rfl (by simp [Value.oneCell']) ?_
                        refine hK'.out _ _ trivial (fun _ => ?_)
                        clear hK' K'
                        conv =>
                          arg 8
                          simp [go_sem]
                        refine ⟨by kernel_rfl, ?_⟩
                        conv =>
                          arg 5
                          simp [go_sem]
                        have H8 := Box.mk (show PSt w.heap.size w (w7.setRow w.heap.size (splice [.string ⟨nm.toArray⟩, .slice (some ⟨gk, ok, none⟩) cols.length cc, .slice ia ixs.length ic, .slice ha chks.length hc] 3 [.slice a7 (chks.length + 1) c7]).toArray) ⟨nm, some ⟨gk, ok, none⟩, cc, cols, ia, ic, ixs, a7, c7, chks ++ [(⟨(I : Int), m / 16, ⟨vk, vn, vs⟩⟩ : Chk)]⟩ lx from HD.out.addChk (⟨(I : Int), m / 16, ⟨vk, vn, vs⟩⟩ : Chk) HA.out.1 HA.out.2.1 HA.out.2.2 _ rfl)
                        have HN8 := Box.mk (rdMany_next HM.out HRX.out)
                        generalize (w7.setRow w.heap.size (splice [.string ⟨nm.toArray⟩, .slice (some ⟨gk, ok, none⟩) cols.length cc, .slice ia ixs.length ic, .slice ha chks.length hc] 3 [.slice a7 (chks.length + 1) c7]).toArray) = w8 at *
                        go_wp2_with fail
                        exact ⟨⟨k4 + 1, by omega, by omega, chks ++ [(⟨(I : Int), m / 16, ⟨vk, vn, vs⟩⟩ : Chk)], a7, c7, lx, ⟨And.intro HN8.out H8.out⟩⟩, by simp [intOf]; omega⟩
                      · refine oper_load1 (by rfl) 3 (.tmp 112) rfl (by kernel_rfl) rfl HK.out ?_
                        refine hK'.out _ _ trivial (fun _ => ?_)
                        clear hK' K'
                        conv =>
                          arg 8
                          simp [go_sem]
                        conv =>
                          arg 8
                          simp [go_sem]
                        refine wpAnyH_ready (rs := [1, 14]) (by kernel_rfl) (by simp) ?_
                        refine AllReadyH.cons rfl (fun K' hK' => ?_) (AllReadyH.cons rfl (fun K' hK' => ?_) AllReadyH.nil)
                        · refine oper_load1 (by rfl) 26 (.tmp 100) rfl (by kernel_rfl) rfl (HC.out.t.cellOf (i := 3) rfl) ?_
                          refine hK'.out _ _ trivial (fun _ => ?_)
                          clear hK' K'
                          conv =>
                            arg 8
                            simp [go_sem]
                          conv =>
                            arg 8
                            simp [go_sem]
                          refine wpAnyH_ready (rs := [14]) (by kernel_rfl) (by simp) ?_
                          refine AllReadyH.cons rfl (fun K' hK' => ?_) AllReadyH.nil
                          refine oper_callP (by rfl) 76 [.tmp 106, .tmp 113] #[99, 3] rfl (vs := [.pointer (some ⟨w.heap.size + 1 + 1, 0, none⟩), .int .i64 K]) rfl Try.func76 par_nmv par_bdv (value_rd HC.out.r (by have := HC.out.big; omega)) ?_
                          rintro e w6 ⟨hb6, ⟨⟨vk, vn, vs⟩, lx, ho6, rfl, hr6⟩ | ⟨ho6, rfl⟩⟩
                          rotate_left
                          · refine .inr ⟨_, rfl, ?_⟩
                            obtain rfl := HDIE.out (rdK_3 W1.out (by have := HCB.out; omega) (by rw [HKD.out]; exact ho6))
                            exact (HC.out.ddc hb6).dies _ rfl rfl
                          have HD := Box.mk (HC.out.call hr6 hb6)
                          have HRX := Box.mk (show rdK cols li = some ((⟨(I : Int), m / 16, ⟨vk, vn, vs⟩⟩ : Chk), lx) from by rw [rdK_4 W1.out (by have := HCB.out; omega) (by rw [HKD.out]; exact ho6), HI.out])
                          clear hb6 hr6 ho6
                          refine .inl ⟨.agg #[.int .i64 vk, .int .i64 vn, .string ⟨vs.toArray⟩], rfl, hK'.out _ _ trivial (fun _ => ?_)⟩
                          clear hK' K'
                          conv =>
                            arg 8
                            simp [go_sem]
                          refine wpAnyH_take (i := 15) (v := ?_) rfl (by kernel_rfl) (by kernel_rfl) (by kernel_rfl) (fun c a w h => par_put (by decide) (by decide) h) (yieldsIf_val (by rfl) (fun w' hS => ?_)) trivial ?_
                          rotate_left
                          · skip
                            go_simp
                            all_goals with_reducible rfl
                          conv =>
                            arg 8
                            simp [go_sem]
                          conv =>
                            arg 8
                            simp [go_sem]
                          refine wpAnyH_ready (rs := [16]) (by kernel_rfl) (by simp) ?_
                          refine AllReadyH.cons rfl (fun K' hK' => ?_) AllReadyH.nil
                          refine oper_litA (by rfl) 26 (.tmp 115) rfl sl_chks (cs := [.int .i64 (I : Int), .int .i64 (m / 16), .int .i64 vk, .int .i64 vn, .string ⟨vs.toArray⟩]) rfl rfl (by omega) (by omega) ?_
                          refine hK'.out _ _ trivial (fun _ => ?_)
                          clear hK' K'
                          conv =>
                            arg 8
                            simp [go_sem]
                          conv =>
                            arg 8
                            simp [go_sem]
                          refine wpAnyH_ready (rs := [17]) (by kernel_rfl) (by simp) ?_
                          refine AllReadyH.cons rfl (fun K' hK' => ?_) AllReadyH.nil
                          have SRC := Box.mk (Src.ofRd (P := Try.prog) (rd_newAt (w := w6) (arr := #[.int .i64 (I : Int), .int .i64 (m / 16), .int .i64 vk, .int .i64 vn, .string ⟨vs.toArray⟩]) (cs := recC Chk.enc [(⟨(I : Int), m / 16, ⟨vk, vn, vs⟩⟩ : Chk)]) (e := 42) (n := 1) (g := w6.heap.size) (size := 5) rfl rfl rfl (by simp [maxLen])) (recC_one Chk.enc_one _))
                          have TA := Box.mk (HD.out.o.step ((Below.refl _ _).alloc (Nat.le_refl _) (.cells #[.int .i64 (I : Int), .int .i64 (m / 16), .int .i64 vk, .int .i64 vn, .string ⟨vs.toArray⟩] 42)))
                          have hbs := HD.out.big
                          refine oper_append2 (by rfl) (.tmp 101) (.tmp 116) 26 26 rfl sl_chks (.inl sl_chks.ht) rfl TA.out.chks rfl SRC.out (by show (chks.length + 1) * _ ≤ _; omega) (by show chks.length + 1 ≤ _; unfold maxLen; omega) (by simp; omega) ?_
                          intro a7 c7 w7 hown7 hgr7 hnew7
                          have HA := Box.mk (And.intro hgr7 (And.intro hown7 hnew7))
                          clear hown7 hgr7 hnew7 hbs SRC TA
                          refine hK'.out _ _ trivial (fun _ => ?_)
                          clear hK' K'
                          conv =>
                            arg 8
                            simp [go_sem]
                          refine wpAnyH_take (i := 18) (v := ?_) rfl (by kernel_rfl) (by kernel_rfl) (by kernel_rfl) (fun c a w h => par_put (by decide) (by decide) h) (yieldsIf_val (by rfl) (fun w' hS => ?_)) trivial ?_
                          rotate_left
                          · skip
                            go_simp
                            all_goals with_reducible rfl
                          conv =>
                            arg 8
                            simp [go_sem]
                          conv =>
                            arg 8
                            simp [go_sem]
                          refine wpAnyH_ready (rs := [19]) (by kernel_rfl) (by simp) ?_
                          refine AllReadyH.cons rfl (fun K' hK' => ?_) AllReadyH.nil
                          have BT := Box.mk (HD.out.t.eq ((HD.out.grown HD.out.o.chks HA.out.1).1 w.heap.size (by omega)))
                          refine oper_store_part (by rfl) 26 (.tmp 118) (.tmp 117) rfl rfl (size := 1) (off := 3) (by kernel_rfl) BT.out (by simp) rfl (cs := [.slice a7 (chks.length + 1) c7]) rfl rfl (by simp [Value.oneCell']) ?_
                          refine hK'.out _ _ trivial (fun _ => ?_)
                          clear hK' K'
                          conv =>
                            arg 8
                            simp [go_sem]
                          refine ⟨by kernel_rfl, ?_⟩
                          conv =>
                            arg 5
                            simp [go_sem]
                          have H8 := Box.mk (show PSt w.heap.size w (w7.setRow w.heap.size (splice [.string ⟨nm.toArray⟩, .slice (some ⟨gk, ok, none⟩) cols.length cc, .slice ia ixs.length ic, .slice ha chks.length hc] 3 [.slice a7 (chks.length + 1) c7]).toArray) ⟨nm, some ⟨gk, ok, none⟩, cc, cols, ia, ic, ixs, a7, c7, chks ++ [(⟨(I : Int), m / 16, ⟨vk, vn, vs⟩⟩ : Chk)]⟩ lx from HD.out.addChk (⟨(I : Int), m / 16, ⟨vk, vn, vs⟩⟩ : Chk) HA.out.1 HA.out.2.1 HA.out.2.2 _ rfl)
                          have HN8 := Box.mk (rdMany_next HM.out HRX.out)
                          generalize (w7.setRow w.heap.size (splice [.string ⟨nm.toArray⟩, .slice (some ⟨gk, ok, none⟩) cols.length cc, .slice ia ixs.length ic, .slice ha chks.length hc] 3 [.slice a7 (chks.length + 1) c7]).toArray) = w8 at *
                          go_wp2_with fail
                          exact ⟨⟨k4 + 1, by omega, by omega, chks ++ [(⟨(I : Int), m / 16, ⟨vk, vn, vs⟩⟩ : Chk)], a7, c7, lx, ⟨And.intro HN8.out H8.out⟩⟩, by simp [intOf]; omega⟩
                        · refine oper_callP (by rfl) 76 [.tmp 106, .tmp 113] #[99, 3] rfl (vs := [.pointer (some ⟨w.heap.size + 1 + 1, 0, none⟩), .int .i64 K]) rfl Try.func76 par_nmv par_bdv (value_rd HC.out.r (by have := HC.out.big; omega)) ?_
                          rintro e w6 ⟨hb6, ⟨⟨vk, vn, vs⟩, lx, ho6, rfl, hr6⟩ | ⟨ho6, rfl⟩⟩
                          rotate_left
                          · refine .inr ⟨_, rfl, ?_⟩
                            obtain rfl := HDIE.out (rdK_3 W1.out (by have := HCB.out; omega) (by rw [HKD.out]; exact ho6))
                            exact (HC.out.ddc hb6).dies _ rfl rfl
                          have HD := Box.mk (HC.out.call hr6 hb6)
                          have HRX := Box.mk (show rdK cols li = some ((⟨(I : Int), m / 16, ⟨vk, vn, vs⟩⟩ : Chk), lx) from by rw [rdK_4 W1.out (by have := HCB.out; omega) (by rw [HKD.out]; exact ho6), HI.out])
                          clear hb6 hr6 ho6
                          refine .inl ⟨.agg #[.int .i64 vk, .int .i64 vn, .string ⟨vs.toArray⟩], rfl, hK'.out _ _ trivial (fun _ => ?_)⟩
                          clear hK' K'
                          conv =>
                            arg 8
                            simp [go_sem]
                          refine wpAnyH_take (i := 15) (v := ?_) rfl (by kernel_rfl) (by kernel_rfl) (by kernel_rfl) (fun c a w h => par_put (by decide) (by decide) h) (yieldsIf_val (by rfl) (fun w' hS => ?_)) trivial ?_
                          rotate_left
                          · skip
                            go_simp
                            all_goals with_reducible rfl
                          conv =>
                            arg 8
                            simp [go_sem]
                          conv =>
                            arg 8
                            simp [go_sem]
                          refine wpAnyH_ready (rs := [1, 16]) (by kernel_rfl) (by simp) ?_
                          refine AllReadyH.cons rfl (fun K' hK' => ?_) (AllReadyH.cons rfl (fun K' hK' => ?_) AllReadyH.nil)
                          · refine oper_load1 (by rfl) 26 (.tmp 100) rfl (by kernel_rfl) rfl (HD.out.t.cellOf (i := 3) rfl) ?_
                            refine hK'.out _ _ trivial (fun _ => ?_)
                            clear hK' K'
                            conv =>
                              arg 8
                              simp [go_sem]
                            conv =>
                              arg 8
                              simp [go_sem]
                            refine wpAnyH_ready (rs := [16]) (by kernel_rfl) (by simp) ?_
                            refine AllReadyH.cons rfl (fun K' hK' => ?_) AllReadyH.nil
                            refine oper_litA (by rfl) 26 (.tmp 115) rfl sl_chks (cs := [.int .i64 (I : Int), .int .i64 (m / 16), .int .i64 vk, .int .i64 vn, .string ⟨vs.toArray⟩]) rfl rfl (by omega) (by omega) ?_
                            refine hK'.out _ _ trivial (fun _ => ?_)
                            clear hK' K'
                            conv =>
                              arg 8
                              simp [go_sem]
                            conv =>
                              arg 8
                              simp [go_sem]
                            refine wpAnyH_ready (rs := [17]) (by kernel_rfl) (by simp) ?_
                            refine AllReadyH.cons rfl (fun K' hK' => ?_) AllReadyH.nil
                            have SRC := Box.mk (Src.ofRd (P := Try.prog) (rd_newAt (w := w6) (arr := #[.int .i64 (I : Int), .int .i64 (m / 16), .int .i64 vk, .int .i64 vn, .string ⟨vs.toArray⟩]) (cs := recC Chk.enc [(⟨(I : Int), m / 16, ⟨vk, vn, vs⟩⟩ : Chk)]) (e := 42) (n := 1) (g := w6.heap.size) (size := 5) rfl rfl rfl (by simp [maxLen])) (recC_one Chk.enc_one _))
                            have TA := Box.mk (HD.out.o.step ((Below.refl _ _).alloc (Nat.le_refl _) (.cells #[.int .i64 (I : Int), .int .i64 (m / 16), .int .i64 vk, .int .i64 vn, .string ⟨vs.toArray⟩] 42)))
                            have hbs := HD.out.big
                            refine oper_append2 (by rfl) (.tmp 101) (.tmp 116) 26 26 rfl sl_chks (.inl sl_chks.ht) rfl TA.out.chks rfl SRC.out (by show (chks.length + 1) * _ ≤ _; omega) (by show chks.length + 1 ≤ _; unfold maxLen; omega) (by simp; omega) ?_
                            intro a7 c7 w7 hown7 hgr7 hnew7
                            have HA := Box.mk (And.intro hgr7 (And.intro hown7 hnew7))
                            clear hown7 hgr7 hnew7 hbs SRC TA
                            refine hK'.out _ _ trivial (fun _ => ?_)
                            clear hK' K'
                            conv =>
                              arg 8
                              simp [go_sem]
                            refine wpAnyH_take (i := 18) (v := ?_) rfl (by kernel_rfl) (by kernel_rfl) (by kernel_rfl) (fun c a w h => par_put (by decide) (by decide) h) (yieldsIf_val (by rfl) (fun w' hS => ?_)) trivial ?_
                            rotate_left
                            · skip
                              go_simp
                              all_goals with_reducible rfl
                            conv =>
                              arg 8
                              simp [go_sem]
                            conv =>
                              arg 8
                              simp [go_sem]
                            refine wpAnyH_ready (rs := [19]) (by kernel_rfl) (by simp) ?_
                            refine AllReadyH.cons rfl (fun K' hK' => ?_) AllReadyH.nil
                            have BT := Box.mk (HD.out.t.eq ((HD.out.grown HD.out.o.chks HA.out.1).1 w.heap.size (by omega)))
                            refine oper_store_part (by rfl) 26 (.tmp 118) (.tmp 117) rfl rfl (size := 1) (off := 3) (by kernel_rfl) BT.out (by simp) rfl (cs := [.slice a7 (chks.length + 1) c7]) rfl rfl (by simp [Value.oneCell']) ?_
                            refine hK'.out _ _ trivial (fun _ => ?_)
                            clear hK' K'
                            conv =>
                              arg 8
                              simp [go_sem]
                            refine ⟨by kernel_rfl, ?_⟩
                            conv =>
                              arg 5
                              simp [go_sem]
                            have H8 := Box.mk (show PSt w.heap.size w (w7.setRow w.heap.size (splice [.string ⟨nm.toArray⟩, .slice (some ⟨gk, ok, none⟩) cols.length cc, .slice ia ixs.length ic, .slice ha chks.length hc] 3 [.slice a7 (chks.length + 1) c7]).toArray) ⟨nm, some ⟨gk, ok, none⟩, cc, cols, ia, ic, ixs, a7, c7, chks ++ [(⟨(I : Int), m / 16, ⟨vk, vn, vs⟩⟩ : Chk)]⟩ lx from HD.out.addChk (⟨(I : Int), m / 16, ⟨vk, vn, vs⟩⟩ : Chk) HA.out.1 HA.out.2.1 HA.out.2.2 _ rfl)
                            have HN8 := Box.mk (rdMany_next HM.out HRX.out)
                            generalize (w7.setRow w.heap.size (splice [.string ⟨nm.toArray⟩, .slice (some ⟨gk, ok, none⟩) cols.length cc, .slice ia ixs.length ic, .slice ha chks.length hc] 3 [.slice a7 (chks.length + 1) c7]).toArray) = w8 at *
                            go_wp2_with fail
                            exact ⟨⟨k4 + 1, by omega, by omega, chks ++ [(⟨(I : Int), m / 16, ⟨vk, vn, vs⟩⟩ : Chk)], a7, c7, lx, ⟨And.intro HN8.out H8.out⟩⟩, by simp [intOf]; omega⟩
                          · refine oper_litA (by rfl) 26 (.tmp 115) rfl sl_chks (cs := [.int .i64 (I : Int), .int .i64 (m / 16), .int .i64 vk, .int .i64 vn, .string ⟨vs.toArray⟩]) rfl rfl (by omega) (by omega) ?_
                            refine hK'.out _ _ trivial (fun _ => ?_)
                            clear hK' K'
                            conv =>
                              arg 8
                              simp [go_sem]
                            conv =>
                              arg 8
                              simp [go_sem]
                            refine wpAnyH_ready (rs := [1]) (by kernel_rfl) (by simp) ?_
                            refine AllReadyH.cons rfl (fun K' hK' => ?_) AllReadyH.nil
                            refine oper_load1 (by rfl) 26 (.tmp 100) rfl (by kernel_rfl) rfl ((HD.out.t.alloc _).cellOf (i := 3) rfl) ?_
                            refine hK'.out _ _ trivial (fun _ => ?_)
                            clear hK' K'
                            conv =>
                              arg 8
                              simp [go_sem]
                            conv =>
                              arg 8
                              simp [go_sem]
                            refine wpAnyH_ready (rs := [17]) (by kernel_rfl) (by simp) ?_
                            refine AllReadyH.cons rfl (fun K' hK' => ?_) AllReadyH.nil
                            have SRC := Box.mk (Src.ofRd (P := Try.prog) (rd_newAt (w := w6) (arr := #[.int .i64 (I : Int), .int .i64 (m / 16), .int .i64 vk, .int .i64 vn, .string ⟨vs.toArray⟩]) (cs := recC Chk.enc [(⟨(I : Int), m / 16, ⟨vk, vn, vs⟩⟩ : Chk)]) (e := 42) (n := 1) (g := w6.heap.size) (size := 5) rfl rfl rfl (by simp [maxLen])) (recC_one Chk.enc_one _))
                            have TA := Box.mk (HD.out.o.step ((Below.refl _ _).alloc (Nat.le_refl _) (.cells #[.int .i64 (I : Int), .int .i64 (m / 16), .int .i64 vk, .int .i64 vn, .string ⟨vs.toArray⟩] 42)))
                            have hbs := HD.out.big
                            refine oper_append2 (by rfl) (.tmp 101) (.tmp 116) 26 26 rfl sl_chks (.inl sl_chks.ht) rfl TA.out.chks rfl SRC.out (by show (chks.length + 1) * _ ≤ _; omega) (by show chks.length + 1 ≤ _; unfold maxLen; omega) (by simp; omega) ?_
                            intro a7 c7 w7 hown7 hgr7 hnew7
                            have HA := Box.mk (And.intro hgr7 (And.intro hown7 hnew7))
                            clear hown7 hgr7 hnew7 hbs SRC TA
                            refine hK'.out _ _ trivial (fun _ => ?_)
                            clear hK' K'
                            conv =>
                              arg 8
                              simp [go_sem]
                            refine wpAnyH_take (i := 18) (v := ?_) rfl (by kernel_rfl) (by kernel_rfl) (by kernel_rfl) (fun c a w h => par_put (by decide) (by decide) h) (yieldsIf_val (by rfl) (fun w' hS => ?_)) trivial ?_
                            rotate_left
                            · skip
                              go_simp
                              all_goals with_reducible rfl
                            conv =>
                              arg 8
                              simp [go_sem]
                            conv =>
                              arg 8
                              simp [go_sem]
                            refine wpAnyH_ready (rs := [19]) (by kernel_rfl) (by simp) ?_
                            refine AllReadyH.cons rfl (fun K' hK' => ?_) AllReadyH.nil
                            have BT := Box.mk (HD.out.t.eq ((HD.out.grown HD.out.o.chks HA.out.1).1 w.heap.size (by omega)))
                            refine oper_store_part (by rfl) 26 (.tmp 118) (.tmp 117) rfl rfl (size := 1) (off := 3) (by kernel_rfl) BT.out (by simp) rfl (cs := [.slice a7 (chks.length + 1) c7]) rfl rfl (by simp [Value.oneCell']) ?_
                            refine hK'.out _ _ trivial (fun _ => ?_)
                            clear hK' K'
                            conv =>
                              arg 8
                              simp [go_sem]
                            refine ⟨by kernel_rfl, ?_⟩
                            conv =>
                              arg 5
                              simp [go_sem]
                            have H8 := Box.mk (show PSt w.heap.size w (w7.setRow w.heap.size (splice [.string ⟨nm.toArray⟩, .slice (some ⟨gk, ok, none⟩) cols.length cc, .slice ia ixs.length ic, .slice ha chks.length hc] 3 [.slice a7 (chks.length + 1) c7]).toArray) ⟨nm, some ⟨gk, ok, none⟩, cc, cols, ia, ic, ixs, a7, c7, chks ++ [(⟨(I : Int), m / 16, ⟨vk, vn, vs⟩⟩ : Chk)]⟩ lx from HD.out.addChk (⟨(I : Int), m / 16, ⟨vk, vn, vs⟩⟩ : Chk) HA.out.1 HA.out.2.1 HA.out.2.2 _ rfl)
                            have HN8 := Box.mk (rdMany_next HM.out HRX.out)
                            generalize (w7.setRow w.heap.size (splice [.string ⟨nm.toArray⟩, .slice (some ⟨gk, ok, none⟩) cols.length cc, .slice ia ixs.length ic, .slice ha chks.length hc] 3 [.slice a7 (chks.length + 1) c7]).toArray) = w8 at *
                            go_wp2_with fail
                            exact ⟨⟨k4 + 1, by omega, by omega, chks ++ [(⟨(I : Int), m / 16, ⟨vk, vn, vs⟩⟩ : Chk)], a7, c7, lx, ⟨And.intro HN8.out H8.out⟩⟩, by simp [intOf]; omega⟩
                    done
              · obtain rfl : k4 = n4 := by omega
                have hX := HZ.out
                unfold parse3 at hX
                rw [show (h / 256 % 16).toNat = k4 from by have := HN4.out; omega, HB.out.1] at hX
                simp only [Option.bind_some] at hX
                unfold parse4 at hX
                have HT := Box.mk HB.out.2
                obtain ⟨ra, rn, rc, hrb, hrd, _⟩ := HB.out.2.r
                have hrn := hrd.ilen
                have e0 := hrb.cellOf (i := 0) rfl
                clear hrb hrd HZ HB HKL
                by_cases hr0 : rn = 0
                · subst hr0
                  obtain rfl : li = [] := List.eq_nil_of_length_eq_zero hrn
                  generalize hv : checkT ⟨nm, cols, ixs.map (·.x), chks⟩ = v
                  have HV := Box.mk hv
                  rw [hv] at hX
                  have HXX := Box.mk hX
                  have x0 := HT.out.t.cellOf (i := 0) rfl
                  have x1 := HT.out.t.cellOf (i := 1) rfl
                  have x2 := HT.out.t.cellOf (i := 2) rfl
                  have x3 := HT.out.t.cellOf (i := 3) rfl
                  clear hX hv hrn
                  go_wp2_with fail
                  clear x0 x1 x2 x3
                  refine (chk_is (X := ⟨nm, ca, cc, cols, ia, ic, ixs, ha, hc, chks⟩) HV.out HT.out.o.rd).mono ?_
                  rintro e w5 ⟨rfl, hb5⟩
                  have H5 := Box.mk (HT.out.step hb5)
                  clear hb5
                  by_cases hv0 : v = 0
                  · subst hv0
                    obtain rfl := HXX.out.symm.trans (if_pos (by simp))
                    have x0 := H5.out.t.cellOf (i := 0) rfl
                    have x1 := H5.out.t.cellOf (i := 1) rfl
                    have x2 := H5.out.t.cellOf (i := 2) rfl
                    have x3 := H5.out.t.cellOf (i := 3) rfl
                    have HE := Box.mk (H5.out.e.rowOther (k := w.heap.size) (by omega) #[.string ⟨nm.toArray⟩, .slice ca cols.length cc, .slice ia ixs.length ic, .slice ha chks.length hc])
                    have d0 := HE.out.cellOf (i := 0) rfl
                    have f0 := HE.out.free 0
                    go_wp2_with (with_reducible refine wpList_store_row rfl _ _ _ rfl rfl (by kernel_rfl) H5.out.t rfl rfl (cs := [.string ⟨nm.toArray⟩, .slice ca cols.length cc, .slice ia ixs.length ic, .slice ha chks.length hc]) rfl rfl (tab_one _ _ _ _ _ _ _ _ _ _) ?_)
                    exact par_done (X := ⟨nm, ca, cc, cols, ia, ic, ixs, ha, hc, chks⟩) ((H5.out.t.row _).other (by show w.heap.size ≠ w.heap.size + 1; omega) _) (HE.out.set 0 _) ((below_setRow H5.out.b (Nat.le_refl _) _).setCell (by show w.heap.size ≤ w.heap.size + 1; omega) _) ((H5.out.o.setRow (by omega) _).setCell (by omega) 0 _).rd rfl _ rfl rfl
                  · obtain rfl := HXX.out.symm.trans (if_neg (fun h => hv0 h.2))
                    have hvb : (v == 0) = false := by simp [hv0]
                    go_wp2_with fail
                    refine (fail_any _).mono ?_
                    rintro e w' ⟨rfl, rfl⟩
                    go_wp2_with fail
                    exact H5.out.dd.dies _ rfl rfl
                · have hne : li ≠ [] := fun h => hr0 (by rw [← hrn, h]; rfl)
                  obtain rfl := hX.symm.trans (if_neg (fun h => hne h.1))
                  have hr1 : 0 < rn := by omega
                  clear hX hrn hne hr0
                  go_wp2_with fail
                  refine (fail_any _).mono ?_
                  rintro e w' ⟨rfl, rfl⟩
                  go_wp2_with fail
                  exact HT.out.dd.dies _ rfl rfl
end Go.Proofs.Ytgimkipekoabbaa
