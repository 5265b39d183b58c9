/-
  The walks of the reference's Project and Update. No condition.
-/
import Derived.Test.YtpgdfhncigmmbaaLGrw
namespace Go.Proofs.Ytpgdfhncigmmbaa
open Go.RowKit

set_option maxRecDepth 20000 in
set_option maxHeartbeats 4000000 in
theorem rproject_any {r : List Val} {cols : List Int} {a b : Option Addr} {n c m d : Nat} {w : World} (hr : Rd w a n c 3 (recC Val.enc r)) (hc : Rd w b m d 1 (intVals cols)) (hm : m ≤ 1000) : Calls Try.prog 25 #[.slice a n c, .slice b m d] w (RetRE (projR r cols) (projE r cols) w) := by
  have hln := hr.rlen Val.enc_len (by omega)
  have hlm := hc.ilen
  have hnm := hr.lenMax
  have HR := Box.mk hr
  have HC := Box.mk hc
  clear hr hc
  generalize hE : projE r cols = E
  generalize hL : projR r cols = L
  have HEL := Box.mk (And.intro hE hL)
  clear hE hL
  go_enter Try.func25, Try.ntmps25
  go_wp2_with fail
  go_loopw [6, 7] (fun v i wr => ∃ (k : Nat) (a2 : Option Addr) (c2 : Nat), k ≤ m ∧ i = .int .i64 k ∧ v = .slice a2 k c2 ∧ Box ((∀ j, j < k → placeB r.length (cols.getD j 0) = true) ∧ Own w.heap.size wr [RowP 59 3 a2 k c2 (recC Val.enc (projL r (cols.take k)))] ∧ Below w.heap.size w wr)) (fun _ i _ => m - (intOf i).toNat)
  case atStart => exact ⟨0, none, 0, Nat.zero_le _, rfl, rfl, ⟨fun j hj => by omega, (Own.start w).nilRow _ _, Below.refl _ _⟩⟩
  case round =>
    obtain ⟨k, a2, c2, hk, rfl, rfl, HB⟩ := hrel
    by_cases hlt : k < m
    · obtain ⟨g, off, rfl, hcc⟩ := (HC.out.below HB.out.2.2 (Nat.le_refl _)).intAtD k hlt
      generalize hx : cols.getD k 0 = x at *
      cases hp : placeB r.length x with
      | false =>
        obtain ⟨h1, h2⟩ := proj_bad (r := r) (by omega) hx hp
        obtain rfl := HEL.out.1.symm.trans h1
        obtain rfl := HEL.out.2.symm.trans h2
        rw [hln] at hp
        have hpp : x < 0 ∨ (n : Int) ≤ x := by
          unfold placeB at hp
          by_cases h0 : 0 ≤ x
          · rw [decide_eq_true h0, Bool.true_and, decide_eq_false_iff_not] at hp; omega
          · omega
        clear hp h1 h2 hx
        by_cases hx0 : x < 0
        · have t0 : decide (x < 0) = true := decide_eq_true hx0
          clear hx0 hpp
          go_wp2_with fail
          go_ret2
          exact RetRE.nil HB.out.2.2
        · have t0 : decide (x < 0) = false := decide_eq_false hx0
          have t1 : decide ((n : Int) ≤ x) = true := decide_eq_true (by omega)
          clear hx0 hpp
          go_wp2_with fail
          go_ret2
          exact RetRE.nil HB.out.2.2
      | true =>
        have HA := Box.mk (show ∀ j, j < k + 1 → placeB r.length (cols.getD j 0) = true from fun j hj => by
          by_cases e : j = k
          · subst e; rw [hx]; exact hp
          · exact HB.out.1 j (by omega))
        have HS := Box.mk (show projL r (cols.take (k + 1)) = projL r (cols.take k) ++ [r.getD x.toNat default] from by rw [← hx]; exact projL_succ r cols k (by omega))
        obtain ⟨hx0, hx1⟩ := placeB_true hp
        obtain ⟨X, rfl⟩ := Int.eq_ofNat_of_zero_le hx0
        rw [hln] at hp hx1
        have hX : X < n := by omega
        have HP := Box.mk hp
        obtain ⟨g2, off2, hca, hgb, hvc⟩ := (HR.out.below HB.out.2.2 (Nat.le_refl _)).recAt Val.enc_len (by omega) X hX
        rw [show (X : Int).toNat = X from rfl] at HS
        generalize hy : r.getD X default = y at *
        obtain ⟨yk, yn, ys⟩ := y
        have c0 := hvc 0 _ rfl
        have c1 := hvc 1 _ rfl
        have c2' := hvc 2 _ rfl
        simp only [Nat.add_zero] at c0 c1 c2'
        subst hca
        have HOA := Box.mk (And.intro (HB.out.2.1.alloc (.cells #[.int .i64 yk, .int .i64 yn, .string ⟨ys.toArray⟩] 59)) (HB.out.2.2.alloc HB.out.2.2.size (.cells #[.int .i64 yk, .int .i64 yn, .string ⟨ys.toArray⟩] 59)))
        have SRC := Box.mk (Src.ofRd (P := Try.prog) (rd_newAt (w := wr) (arr := #[.int .i64 yk, .int .i64 yn, .string ⟨ys.toArray⟩]) (cs := recC Val.enc [⟨yk, yn, ys⟩]) (e := 59) (n := 1) (g := wr.heap.size) (size := 3) rfl rfl rfl (by simp [maxLen])) (recC_one Val.enc_one _))
        clear hp hx hy hvc hgb hx0 hx1
        have t1 : decide (n ≤ X) = false := decide_eq_false (by omega)
        clear HP
        go_wp2_with (first | (with_reducible show wpList _ _ _ _ _ _; refine wpList_lit_one rfl 28 (.tmp 35) rfl sl_row (cs := [.int .i64 yk, .int .i64 yn, .string ⟨ys.toArray⟩]) rfl rfl (by omega) (by omega) ?_) | (at_builtin; refine wpList_append_src rfl _ _ 28 28 rfl sl_row (.inl sl_row.ht) rfl (HOA.out.1.row 0 rfl) rfl SRC.out (by omega) (by unfold maxLen; omega) (by simp) ?_; intro a3 c3 w3 hown3 hgr3 hnew3; have HG := Box.mk (HOA.out.1.grown 0 rfl hown3 hgr3 hnew3); clear hown3 hgr3 hnew3))
        refine ⟨⟨k + 1, a3, c3, hlt, by go_num, rfl, ⟨HA.out, ?_, HOA.out.2.trans HG.out.2⟩⟩, by simp [intOf]; omega⟩
        rw [HS.out, recC_append]; exact HG.out.1
    · obtain rfl : k = m := by omega
      obtain ⟨h1, h2⟩ := proj_good (r := r) (cols := cols) (fun j hj => HB.out.1 j (by omega))
      obtain rfl := HEL.out.1.symm.trans h1
      have h3 := HEL.out.2.symm.trans h2
      have h4 : cols.take k = cols := by rw [List.take_of_length_le (by omega)]
      have hO := HB.out.2
      rw [h4, ← h3] at hO
      have hLk : L.length = k := by rw [h3]; unfold projL; simp; omega
      have HO := Box.mk hO
      clear hO h1 h2
      go_wp2_with fail
      go_ret2
      refine ⟨HO.out.2, a2, c2, by rw [hLk]; rfl, ?_⟩
      rw [hLk]; exact HO.out.1.rowB 0 rfl
theorem rproject_is {r : List Val} {cols : List Int} {e : Int} (h2 : projE r cols = e) {a b : Option Addr} {n c m d : Nat} {w : World} (hr : Rd w a n c 3 (recC Val.enc r)) (hc : Rd w b m d 1 (intVals cols)) (hm : m ≤ 1000) : Calls Try.prog 25 #[.slice a n c, .slice b m d] w (RetRE (projR r cols) e w) := by
  subst h2; exact rproject_any hr hc hm
theorem rfits_is {X : TabP} {r : List Val} {v : Int} (h : fitsT X.t r = v) {a : Option Addr} {n c : Nat} {w : World} (hX : TabRd w X) (hr : Rd w a n c 3 (recC Val.enc r)) : Calls Try.prog 37 #[.agg #[.string ⟨X.name.toArray⟩, .slice X.ca X.cols.length X.cc, .slice X.ia X.ixs.length X.ic, .slice X.ha X.chks.length X.hc], .slice a n c] w (RetV (.int .i64 v) w) := by
  subst h; exact rfits_any X r a n c w hX hr
theorem proj_any {r : List Val} {cols : List Int} : (projE r cols = 0 ∧ ∀ k, k < cols.length → placeB r.length (cols.getD k 0) = true) ∨ (projE r cols = 1 ∧ cols.any (fun k => !placeB r.length k) = true) := by
  unfold projE
  cases h : cols.all (placeB r.length) with
  | true =>
    refine .inl ⟨rfl, fun k hk => ?_⟩
    rw [List.getD_eq_getElem?_getD, List.getElem?_eq_getElem hk]
    exact List.all_eq_true.1 h _ (List.getElem_mem hk)
  | false =>
    refine .inr ⟨rfl, ?_⟩
    obtain ⟨x, hx, hx2⟩ := List.all_eq_false.1 h
    rw [List.any_eq_true]
    exact ⟨x, hx, by simpa using hx2⟩

set_option maxRecDepth 100000 in
set_option maxHeartbeats 8000000 in
theorem rupdate_any (X : TabP) {r vals : List Val} {cols : List Int} {a b v : Option Addr} {n c m d p q : Nat} {w : World} (hX : TabRd w X) (hr : Rd w a n c 3 (recC Val.enc r)) (hc : Rd w b m d 1 (intVals cols)) (hv : Rd w v p q 3 (recC Val.enc vals)) (hn : n ≤ 1000) (hm : m ≤ 1000) :
    Calls Try.prog 27 #[X.v, .slice a n c, .slice b m d, .slice v p q] w (RetRE (updR X.t r cols vals) (updE X.t r cols vals) w) := by
  have hln := hr.rlen Val.enc_len (by omega)
  have hlm := hc.ilen
  have hlp := hv.rlen Val.enc_len (by omega)
  have hpm := hv.lenMax
  have HX := Box.mk hX
  have HR := Box.mk hr
  have HC := Box.mk hc
  have HV := Box.mk hv
  have H0 := Box.mk (And.intro ((Own.start w).new X.cs 26) ((Below.refl w.heap.size w).alloc (Nat.le_refl _) (.cells X.cs.toArray 26)))
  clear hX hr hc hv
  generalize hE : updE X.t r cols vals = E
  generalize hL : updR X.t r cols vals = L
  have HEL := Box.mk (And.intro hE hL)
  clear hE hL
  unfold TabP.cs at H0
  unfold TabP.v
  obtain ⟨pe, hpe⟩ : ∃ pe, projE r cols = pe := ⟨_, rfl⟩
  have HPE := Box.mk hpe
  have HPA := Box.mk (proj_any (r := r) (cols := cols))
  rw [hpe] at HPA
  clear hpe
  go_enter Try.func27, Try.ntmps27
  go_wp2_with fail
  generalize (w.alloc (.cells #[.string ⟨X.name.toArray⟩, .slice X.ca X.cols.length X.cc, .slice X.ia X.ixs.length X.ic, .slice X.ha X.chks.length X.hc] 26)) = w1 at *
  refine (rproject_is HPE.out (HR.out.below H0.out.2 (Nat.le_refl _)) (HC.out.below H0.out.2 (Nat.le_refl _)) (by omega)).mono ?_
  rintro e w2 ⟨hb2, a2, c2, rfl, _⟩
  have H2 := Box.mk (And.intro (H0.out.1.below hb2) (H0.out.2.trans (hb2.mono H0.out.2.size)))
  clear hb2 H0
  generalize (projR r cols).length = lp at *
  rcases HPA.out with ⟨rfl, hgood⟩ | ⟨rfl, hbad⟩
  · have HALL := Box.mk (show ∀ k, k < m → placeB n (cols.getD k 0) = true from fun k hk => by rw [← hln]; exact hgood k (by omega))
    clear hgood HPA HPE
    by_cases hmp : m = p
    · have t1 : ((m : Int) != (p : Int)) = false := by simp [hmp]
      have t0 : ((0 : Int) != 0) = false := rfl
      have HMP := Box.mk hmp
      have HOKC := Box.mk (show ¬ (cols.length ≠ vals.length ∨ cols.any (fun k => !placeB r.length k) = true) from by
        rintro (h | h)
        · omega
        · obtain ⟨x, hx, hx2⟩ := List.any_eq_true.1 h
          obtain ⟨k, hk, rfl⟩ := List.mem_iff_getElem.1 hx
          have := HALL.out k (by omega)
          rw [List.getD_eq_getElem?_getD, List.getElem?_eq_getElem hk, Option.getD_some, ← hln] at this
          rw [this] at hx2; simp at hx2)
      clear hmp
      have B0 : Blk (w2.alloc (.cells #[] 59)) w2.heap.size 59 [] := Blk.new rfl rfl
      have HO := Box.mk (own_new (base := w2.heap.size) (n := 0) (size := 3) B0 (Nat.le_refl _) rfl (by decide))
      have H3 := Box.mk (And.intro (H2.out.1.alloc (.cells #[] 59)) (H2.out.2.alloc H2.out.2.size (.cells #[] 59)))
      have SRC := Box.mk (Src.ofRd (P := Try.prog) (HR.out.below H3.out.2 (Nat.le_refl _)) (recC_one Val.enc_one _))
      clear B0
      go_wp2_with (at_builtin; refine wpList_append_src rfl _ _ 28 28 rfl sl_row (.inl sl_row.ht) rfl HO.out rfl SRC.out (by omega) (by unfold maxLen; omega) (by simp) ?_; intro a3 c3 w3 hown3 hgr3 hnew3)
      have hb3 : Below w2.heap.size w2 w3 := below_grown ((Below.refl _ _).alloc (Nat.le_refl _) (.cells #[] 59)) hgr3 HO.out (Nat.le_refl _) (by simp)
      rw [Nat.zero_add, List.nil_append] at hown3
      have H4 := Box.mk (And.intro (H2.out.1.newRow hb3 hown3 (Nat.le_refl _)) (H2.out.2.trans (hb3.mono H2.out.2.size)))
      clear hb3 hown3 hgr3 hnew3 H2 H3 HO SRC
      go_loopw [13] (fun i wr => ∃ k : Nat, k ≤ m ∧ i = .int .i64 k ∧ Box ((∀ j, j < k → decide (cols.getD j 0 ∈ cols.take j) = false) ∧ Own w.heap.size wr [BlkP w.heap.size 26 [.string ⟨X.name.toArray⟩, .slice X.ca X.cols.length X.cc, .slice X.ia X.ixs.length X.ic, .slice X.ha X.chks.length X.hc], RowP 59 3 a3 n c3 (recC Val.enc (updUp r cols vals k))] ∧ Below w.heap.size w wr)) (fun i _ => m - (intOf i).toNat)
      case atStart => exact ⟨0, Nat.zero_le _, rfl, ⟨fun j hj => by omega, H4.out.1, H4.out.2⟩⟩
      case round =>
        clear H4
        obtain ⟨k, hk, rfl, HB⟩ := hrel
        by_cases hlt : k < m
        · obtain ⟨g, off, rfl, hcc⟩ := HC.out.intAtD k hlt
          have HCK := Box.mk hcc
          have HT := Box.mk (fun h => upd_twice (T := X.t) HOKC.out (i := k) (by omega) h)
          have HAS := Box.mk (fun (h : decide (cols.getD k 0 ∈ cols.take k) = false) => show ∀ j, j < k + 1 → decide (cols.getD j 0 ∈ cols.take j) = false from fun j hj => by
            by_cases e : j = k
            · subst e; exact h
            · exact HB.out.1 j (by omega))
          have hpl := HALL.out k hlt
          have HUS := Box.mk (show updUp r cols vals (k + 1) = (updUp r cols vals k).set (cols.getD k 0).toNat (vals.getD k default) from rfl)
          have HNM := Box.mk (fun (h : ∀ j, j < k → cols.getD j 0 ≠ cols.getD k 0) => show decide (cols.getD k 0 ∈ cols.take k) = false from decide_eq_false (fun hm => by
            obtain ⟨i, hi, he⟩ := List.mem_take_iff_getElem.1 hm
            refine h i (by omega) ?_
            rw [List.getD_eq_getElem?_getD, List.getElem?_eq_getElem (by omega)]; exact he))
          have HYM := Box.mk (fun (j : Nat) (hj : j < k) (h : cols.getD j 0 = cols.getD k 0) => show decide (cols.getD k 0 ∈ cols.take k) = true from decide_eq_true (by
            rw [← h, List.getD_eq_getElem?_getD, List.getElem?_eq_getElem (by omega)]
            exact List.mem_take_iff_getElem.2 ⟨j, by omega, rfl⟩))
          generalize cols.getD k 0 = x at *
          obtain ⟨hx0, hx1⟩ := placeB_true hpl
          obtain ⟨Y, rfl⟩ := Int.eq_ofNat_of_zero_le hx0
          have hY : Y < n := by omega
          clear hcc hpl hx0 hx1
          go_wp2_with fail
          go_loopw [14] (fun i wx => ∃ j : Nat, j ≤ k ∧ i = .int .i64 j ∧ Box ((∀ i, i < j → cols.getD i 0 ≠ (Y : Int)) ∧ Own w.heap.size wx [BlkP w.heap.size 26 [.string ⟨X.name.toArray⟩, .slice X.ca X.cols.length X.cc, .slice X.ia X.ixs.length X.ic, .slice X.ha X.chks.length X.hc], RowP 59 3 a3 n c3 (recC Val.enc (updUp r cols vals k))] ∧ Below w.heap.size w wx)) (fun i _ => k - (intOf i).toNat)
          case atStart => exact ⟨0, Nat.zero_le _, rfl, ⟨fun i hi => by omega, HB.out.2⟩⟩
          case round =>
            obtain ⟨j, hj, rfl, HJ⟩ := hrel
            by_cases hjk : j < k
            · obtain ⟨gj, oj, hgj, hcj⟩ := HC.out.intAtD j (by omega)
              simp only [Option.some.injEq, Addr.mk.injEq, and_true] at hgj
              obtain ⟨rfl, rfl⟩ := hgj
              have HCJ := Box.mk hcj
              have HYJ := Box.mk (HYM.out j hjk)
              have HNJ := Box.mk (fun (h : cols.getD j 0 ≠ (Y : Int)) => show ∀ i, i < j + 1 → cols.getD i 0 ≠ (Y : Int) from fun i hi => by
                by_cases e : i = j
                · subst e; exact h
                · exact HJ.out.1 i (by omega))
              generalize cols.getD j 0 = z at *
              clear hcj
              go_upto_region 11 with fail
              have HS0 : Below w.heap.size w wr.drew := HJ.out.2.2.drew
              refine wp_region_held_drew (S := fun w' => Below w.heap.size w w') (by kernel_rfl) HS0 (fun _ => ?_)
              refine wpAnyH_take (i := 0) (v := ?_) rfl (by kernel_rfl) (by kernel_rfl) (by kernel_rfl) (fun _ _ _ h => h) (yieldsIf_val (by rfl) (fun w' hS => ?_)) HS0 ?_
              rotate_left
              · skip
                go_simp
                all_goals with_reducible rfl
              conv =>
                arg 8
                simp [go_sem]
              refine wpAnyH_take (i := 1) (v := ?_) rfl (by kernel_rfl) (by kernel_rfl) (by kernel_rfl) (fun _ _ _ h => h) (yieldsIf_val (by rfl) (fun w' hS => ?_)) HS0 ?_
              rotate_left
              · skip
                go_simp
                all_goals with_reducible rfl
              conv =>
                arg 8
                simp [go_sem]
              refine wpAnyH_take (i := 2) (v := ?_) rfl (by kernel_rfl) (by kernel_rfl) (by kernel_rfl) (fun _ _ _ h => h) (yieldsIf_val (by rfl) (fun w' hS => ?_)) HS0 ?_
              rotate_left
              · skip
                have q0 : (0 : Int) ≤ (j : Int) := by omega
                have q1 : (j : Int) < (m : Int) := by omega
                go_simp
                all_goals with_reducible rfl
              conv =>
                arg 8
                simp [go_sem]
              refine wpAnyH_take (i := 3) (v := ?_) rfl (by kernel_rfl) (by kernel_rfl) (by kernel_rfl) (fun _ _ _ h => h) (yieldsIf_val (by rfl) (fun w' hS => ?_)) HS0 ?_
              rotate_left
              · skip
                have q := (hS.cell (p := ⟨g, off + j, none⟩) (cell_block_lt HCJ.out)).trans HCJ.out
                go_simp
                all_goals with_reducible rfl
              conv =>
                arg 8
                simp [go_sem]
              refine wpAnyH_take (i := 4) (v := ?_) rfl (by kernel_rfl) (by kernel_rfl) (by kernel_rfl) (fun _ _ _ h => h) (yieldsIf_val (by rfl) (fun w' hS => ?_)) HS0 ?_
              rotate_left
              · skip
                go_simp
                all_goals with_reducible rfl
              conv =>
                arg 8
                simp [go_sem]
              refine wpAnyH_take (i := 5) (v := ?_) rfl (by kernel_rfl) (by kernel_rfl) (by kernel_rfl) (fun _ _ _ h => h) (yieldsIf_val (by rfl) (fun w' hS => ?_)) HS0 ?_
              rotate_left
              · skip
                go_simp
                all_goals with_reducible rfl
              conv =>
                arg 8
                simp [go_sem]
              refine wpAnyH_take (i := 6) (v := ?_) rfl (by kernel_rfl) (by kernel_rfl) (by kernel_rfl) (fun _ _ _ h => h) (yieldsIf_val (by rfl) (fun w' hS => ?_)) HS0 ?_
              rotate_left
              · skip
                have q0 : (0 : Int) ≤ (k : Int) := by omega
                have q1 : (k : Int) < (m : Int) := by omega
                go_simp
                all_goals with_reducible rfl
              conv =>
                arg 8
                simp [go_sem]
              refine wpAnyH_take (i := 7) (v := ?_) rfl (by kernel_rfl) (by kernel_rfl) (by kernel_rfl) (fun _ _ _ h => h) (yieldsIf_val (by rfl) (fun w' hS => ?_)) HS0 ?_
              rotate_left
              · skip
                have q := (hS.cell (p := ⟨g, off + k, none⟩) (cell_block_lt HCK.out)).trans HCK.out
                go_simp
                all_goals with_reducible rfl
              conv =>
                arg 8
                simp [go_sem]
              refine wpAnyH_take (i := 8) (v := ?_) rfl (by kernel_rfl) (by kernel_rfl) (by kernel_rfl) (fun _ _ _ h => h) (yieldsIf_val (by rfl) (fun w' hS => ?_)) HS0 ?_
              rotate_left
              · skip
                go_simp
                all_goals with_reducible rfl
              conv =>
                arg 8
                simp [go_sem]
              refine ⟨by kernel_rfl, ?_⟩
              conv =>
                arg 5
                simp [go_sem]
              generalize hwd : wr.drew = wd at *
              have HJ5 := Box.mk (show Own w.heap.size wd _ from hwd ▸ HJ.out.2.1.drew)
              clear hwd
              by_cases hz : z = (Y : Int)
              · obtain ⟨h1, h2⟩ := HT.out (HYJ.out hz)
                obtain rfl := HEL.out.1.symm.trans h1
                obtain rfl := HEL.out.2.symm.trans h2
                have tz : (z == (Y : Int)) = true := by simp [hz]
                clear hz h1 h2
                go_wp2_with fail
                go_ret2
                exact RetRE.nil HS0
              · have tz : (z == (Y : Int)) = false := by simp [hz]
                have HNJ2 := Box.mk (HNJ.out hz)
                clear hz
                go_wp2_with fail
                exact ⟨⟨j + 1, by omega, by go_num, ⟨HNJ2.out, HJ5.out, HS0⟩⟩, by simp [intOf]; omega⟩
            · obtain rfl : j = k := by omega
              have HAS2 := Box.mk (HAS.out (HNM.out HJ.out.1))
              obtain ⟨go, rfl⟩ := own_head (HJ.out.2.1.row 1 rfl) (by omega)
              have hkp : j < p := by have := HMP.out; omega
              obtain ⟨g2, off2, hca, hgb, hvc⟩ := HV.out.recAt Val.enc_len (by omega) j hkp
              generalize hy : vals.getD j default = y at *
              obtain ⟨yk, yn, ys⟩ := y
              have c0 := hvc 0 _ rfl
              have c1 := hvc 1 _ rfl
              have c2' := hvc 2 _ rfl
              simp only [Nat.add_zero] at c0 c1 c2'
              subst hca
              have HCV := Box.mk (And.intro c0 (And.intro c1 c2'))
              have hul := updUp_len r cols vals j
              obtain ⟨cur, hbk, hcl, hown, hgr⟩ := own_storeN (HJ.out.2.1.drew.row 1 rfl) (Y * 3) [.int .i64 yk, .int .i64 yn, .string ⟨ys.toArray⟩] (by rw [recC_length Val.enc_len, hul, hln]; show Y * 3 + 3 ≤ _; omega)
              have hsp := recC_splice Val.enc_len (updUp r cols vals j) Y (by omega) ⟨yk, yn, ys⟩
              rw [show Val.enc ⟨yk, yn, ys⟩ = [.int .i64 yk, .int .i64 yn, .string ⟨ys.toArray⟩] from rfl] at hsp
              rw [hsp] at hown
              have HG := Box.mk (HJ.out.2.1.drew.grown 1 rfl hown hgr (fun ad had => .inl had))
              have HBK := Box.mk (And.intro hbk (show Y * 3 + 3 ≤ cur.length from hcl))
              clear hbk hcl hown hgr hsp hvc hgb hy HT HAS hul c0 c1 c2'
              go_upto_region 13 with fail
              have HS0 : Below w.heap.size w wr.drew := HJ.out.2.2.drew
              refine wp_region_held_drew (S := fun w' => Below w.heap.size w w') (by kernel_rfl) HS0 (fun _ => ?_)
              refine wpAnyH_take (i := 0) (v := ?_) rfl (by kernel_rfl) (by kernel_rfl) (by kernel_rfl) (fun _ _ _ h => h) (yieldsIf_val (by rfl) (fun w' hS => ?_)) HS0 ?_
              rotate_left
              · skip
                go_simp
                all_goals with_reducible rfl
              conv =>
                arg 8
                simp [go_sem]
              refine wpAnyH_take (i := 1) (v := ?_) rfl (by kernel_rfl) (by kernel_rfl) (by kernel_rfl) (fun _ _ _ h => h) (yieldsIf_val (by rfl) (fun w' hS => ?_)) HS0 ?_
              rotate_left
              · skip
                go_simp
                all_goals with_reducible rfl
              conv =>
                arg 8
                simp [go_sem]
              refine wpAnyH_take (i := 2) (v := ?_) rfl (by kernel_rfl) (by kernel_rfl) (by kernel_rfl) (fun _ _ _ h => h) (yieldsIf_val (by rfl) (fun w' hS => ?_)) HS0 ?_
              rotate_left
              · skip
                go_simp
                all_goals with_reducible rfl
              conv =>
                arg 8
                simp [go_sem]
              refine wpAnyH_take (i := 3) (v := ?_) rfl (by kernel_rfl) (by kernel_rfl) (by kernel_rfl) (fun _ _ _ h => h) (yieldsIf_val (by rfl) (fun w' hS => ?_)) HS0 ?_
              rotate_left
              · skip
                have q0 : (0 : Int) ≤ (j : Int) := by omega
                have q1 : (j : Int) < (m : Int) := by omega
                go_simp
                all_goals with_reducible rfl
              conv =>
                arg 8
                simp [go_sem]
              refine wpAnyH_take (i := 4) (v := ?_) rfl (by kernel_rfl) (by kernel_rfl) (by kernel_rfl) (fun _ _ _ h => h) (yieldsIf_val (by rfl) (fun w' hS => ?_)) HS0 ?_
              rotate_left
              · skip
                have q := (hS.cell (p := ⟨g, off + j, none⟩) (cell_block_lt HCK.out)).trans HCK.out
                go_simp
                all_goals with_reducible rfl
              conv =>
                arg 8
                simp [go_sem]
              refine wpAnyH_take (i := 5) (v := ?_) rfl (by kernel_rfl) (by kernel_rfl) (by kernel_rfl) (fun _ _ _ h => h) (yieldsIf_val (by rfl) (fun w' hS => ?_)) HS0 ?_
              rotate_left
              · skip
                go_simp
                all_goals with_reducible rfl
              conv =>
                arg 8
                simp [go_sem]
              refine wpAnyH_take (i := 6) (v := ?_) rfl (by kernel_rfl) (by kernel_rfl) (by kernel_rfl) (fun _ _ _ h => h) (yieldsIf_val (by rfl) (fun w' hS => ?_)) HS0 ?_
              rotate_left
              · skip
                go_simp
                all_goals with_reducible rfl
              conv =>
                arg 8
                simp [go_sem]
              refine wpAnyH_take (i := 7) (v := ?_) rfl (by kernel_rfl) (by kernel_rfl) (by kernel_rfl) (fun _ _ _ h => h) (yieldsIf_val (by rfl) (fun w' hS => ?_)) HS0 ?_
              rotate_left
              · skip
                have q0 : (0 : Int) ≤ (j : Int) := by omega
                have q1 : (j : Int) < (p : Int) := by omega
                go_simp
                all_goals with_reducible rfl
              conv =>
                arg 8
                simp [go_sem]
              refine wpAnyH_take (i := 8) (v := ?_) rfl (by kernel_rfl) (by kernel_rfl) (by kernel_rfl) (fun _ _ _ h => h) (yieldsIf_val (by rfl) (fun w' hS => ?_)) HS0 ?_
              rotate_left
              · skip
                have q0 := (hS.cell (p := ⟨g2, off2 + j * 3, none⟩) (cell_block_lt HCV.out.1)).trans HCV.out.1
                have q1 := (hS.cell (p := ⟨g2, off2 + j * 3 + 1, none⟩) (cell_block_lt HCV.out.2.1)).trans HCV.out.2.1
                have q2 := (hS.cell (p := ⟨g2, off2 + j * 3 + 2, none⟩) (cell_block_lt HCV.out.2.2)).trans HCV.out.2.2
                go_simp
                all_goals with_reducible rfl
              conv =>
                arg 8
                simp [go_sem]
              refine wpAnyH_take (i := 9) (v := ?_) rfl (by kernel_rfl) (by kernel_rfl) (by kernel_rfl) (fun _ _ _ h => h) (yieldsIf_val (by rfl) (fun w' hS => ?_)) HS0 ?_
              rotate_left
              · skip
                have q0 : (0 : Int) ≤ (Y : Int) := by omega
                have q1 : (Y : Int) < (n : Int) := by omega
                go_simp
                all_goals with_reducible rfl
              conv =>
                arg 8
                simp [go_sem]
              conv =>
                arg 8
                simp [go_sem]
              refine wpAnyH_ready (rs := [10]) (by kernel_rfl) (by simp) (AllReadyH.cons rfl (fun K' hK' => oper_store_part (by rfl) 59 (.tmp 62) (.tmp 61) rfl rfl (size := 3) (off := Y * 3) (by kernel_rfl) HBK.out.1 HBK.out.2 rfl (cs := [.int .i64 yk, .int .i64 yn, .string ⟨ys.toArray⟩]) rfl rfl (Val.enc_one ⟨yk, yn, ys⟩) ?_) AllReadyH.nil)
              have HT1 := HS0.trans HG.out.2
              refine hK'.out _ _ HT1 (fun _ => ?_)
              clear hK' K'
              conv =>
                arg 8
                simp [go_sem]
              refine ⟨by kernel_rfl, ?_⟩
              conv =>
                arg 5
                simp [go_sem]
              generalize (wr.drew.setRow go (splice cur (Y * 3) [.int .i64 yk, .int .i64 yn, .string ⟨ys.toArray⟩]).toArray) = w8 at *
              go_wp2_with fail
              refine ⟨⟨j + 1, by omega, by go_num, ⟨HAS2.out, ?_, HS0.trans HG.out.2⟩⟩, by simp [intOf]; omega⟩
              rw [HUS.out]; exact HG.out.1
        · obtain rfl : k = m := by omega
          generalize hv : fitsT X.t (updUp r cols vals cols.length) = v2
          have HGO := Box.mk (upd_go HOKC.out (fun i hi => HB.out.1 i (by omega)) hv)
          have HFV := Box.mk hv
          rw [hlm] at HFV HGO
          have x0 := (HB.out.2.1.blk 0 rfl).1.cellOf (i := 0) rfl
          have x1 := (HB.out.2.1.blk 0 rfl).1.cellOf (i := 1) rfl
          have x2 := (HB.out.2.1.blk 0 rfl).1.cellOf (i := 2) rfl
          have x3 := (HB.out.2.1.blk 0 rfl).1.cellOf (i := 3) rfl
          have HRO := Box.mk (Rd.ofOwn (HB.out.2.1.row 1 rfl))
          clear hv
          go_wp2_with fail
          refine (rfits_is HFV.out (HX.out.below HB.out.2.2) HRO.out).mono ?_
          rintro e w5 ⟨rfl, hb5⟩
          have H5 := Box.mk (And.intro (HB.out.2.1.below hb5) (HB.out.2.2.trans (hb5.mono HB.out.2.2.size)))
          clear hb5 x0 x1 x2 x3
          by_cases h0 : v2 = 0
          · subst h0
            obtain rfl := HEL.out.1.symm.trans HGO.out.1
            have HLL := Box.mk (HEL.out.2.symm.trans (HGO.out.2.1 rfl))
            go_wp2_with fail
            go_ret2
            have hlen : L.length = n := by rw [HLL.out, updUp_len, hln]
            refine ⟨H5.out.2, a3, c3, by rw [hlen]; rfl, ?_⟩
            rw [hlen, HLL.out]; exact H5.out.1.rowB 1 rfl
          · have hvb : (v2 != 0) = true := by simp [h0]
            obtain rfl := HEL.out.1.symm.trans HGO.out.1
            obtain rfl := HEL.out.2.symm.trans (HGO.out.2.2 h0)
            clear h0
            go_wp2_with fail
            go_ret2
            exact RetRE.nil H5.out.2
    · have t1 : ((m : Int) != (p : Int)) = true := by simp; omega
      have t0 : ((0 : Int) != 0) = false := rfl
      obtain ⟨h1, h2⟩ := upd_bad (T := X.t) (r := r) (cols := cols) (vals := vals) (.inl (by omega))
      obtain rfl := HEL.out.1.symm.trans h1
      obtain rfl := HEL.out.2.symm.trans h2
      clear hmp h1 h2
      go_wp2_with fail
      go_ret2
      exact RetRE.nil H2.out.2
  · obtain ⟨h1, h2⟩ := upd_bad (T := X.t) (r := r) (cols := cols) (vals := vals) (.inr hbad)
    obtain rfl := HEL.out.1.symm.trans h1
    obtain rfl := HEL.out.2.symm.trans h2
    have t0 : ((1 : Int) != 0) = true := rfl
    clear h1 h2 hbad
    go_wp2_with fail
    go_ret2
    exact RetRE.nil H2.out.2
end Go.Proofs.Ytpgdfhncigmmbaa
