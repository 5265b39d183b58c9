/-
  The walk of the reference's Words. No condition.
-/
import Derived.Test.YtgimkipekoabbaaE20
import Derived.Test.YtgimkipekoabbaaV20
import Derived.Test.YtgimkipekoabbaaR20
namespace Go.Proofs.Ytgimkipekoabbaa
open Go.RowKit

/-- A list of the call's own that holds the words L, behind w0. -/
structure OutIn (w0 : World) (L : List Int) (n : Nat) (a : Option Addr) (cap : Nat) (w : World) : Prop where
  below : Below w0.heap.size w0 w
  len : L.length = n
  own : w.ownsRow w0.heap.size 3 1 (.slice a n cap) n (intVals L)
theorem OutIn.step {w0 w w' : World} {L : List Int} {n cap : Nat} {a : Option Addr} (h : OutIn w0 L n a cap w) (hb : Below w.heap.size w w') : OutIn w0 L n a cap w' :=
  ⟨h.below.trans (hb.mono h.below.size), h.len, own_below h.own hb (Nat.le_refl _)⟩
theorem OutIn.alloc {w0 w : World} {L : List Int} {n cap : Nat} {a : Option Addr} (h : OutIn w0 L n a cap w) (o : Obj) : OutIn w0 L n a cap (w.alloc o) := h.step ((Below.refl _ _).alloc (Nat.le_refl _) o)
theorem OutIn.drewN {w0 w : World} {L : List Int} {n cap : Nat} {a : Option Addr} (h : OutIn w0 L n a cap w) (k : Nat) : OutIn w0 L n a cap (w.drewN k) := h.step (below_drewN (Below.refl _ _) k)
theorem OutIn.push {w0 w w' : World} {L M : List Int} {n m cap cap' : Nat} {a a' : Option Addr} {us : List Value} (h : OutIn w0 L n a cap w) (hm : M.length = m) (hown : w'.ownsRow w0.heap.size 3 1 (.slice a' (n + m) cap') (n + m) (intVals L ++ us)) (hg : w.grownBy w' (Value.slice a n cap).ownBlock) (hu : us = intVals M := by rfl) : OutIn w0 (L ++ M) (n + m) a' cap' w' := by
  subst hu
  exact ⟨below_grown h.below hg h.own (Nat.le_refl _) h.below.size, by rw [List.length_append, h.len, hm], by rw [show intVals (L ++ M) = intVals L ++ intVals M from by simp [intVals]]; exact hown⟩
theorem OutIn.ne {w0 w : World} {L : List Int} {n cap : Nat} {a : Option Addr} (h : OutIn w0 L n a cap w) : ∀ k, (Value.slice a n cap).ownBlock = some k → k < w.heap.size := fun k hk => (h.own.lt k hk).2

theorem packI_bd (l : List Int) (h : ∀ x ∈ l, 0 ≤ x ∧ x < 8) : 0 ≤ packI l ∧ packI l < ((16 ^ l.length : Nat) : Int) := by
  induction l with
  | nil => simp [packI]
  | cons c l ih =>
    obtain ⟨h1, h2⟩ := ih (fun x hx => h x (by simp [hx]))
    obtain ⟨h3, h4⟩ := h c (by simp)
    rw [packI, List.length_cons, Nat.pow_succ, Int.natCast_mul]
    omega
theorem packI_drop_bd {l : List Int} (h : ∀ k, k < l.length → 0 ≤ l.getD k 0 ∧ l.getD k 0 < 8) (hl : l.length ≤ 8) (m : Nat) : 0 ≤ packI (l.drop m) ∧ packI (l.drop m) < 4294967296 := by
  obtain ⟨h1, h2⟩ := packI_bd (l.drop m) (fun x hx => by
    obtain ⟨i, hi, rfl⟩ := List.getElem_of_mem (List.mem_of_mem_drop hx)
    have := h i hi
    rwa [List.getD_eq_getElem?_getD, List.getElem?_eq_getElem hi] at this)
  have h3 : 16 ^ (l.drop m).length ≤ 16 ^ 8 := Nat.pow_le_pow_right (by omega) (by rw [List.length_drop]; omega)
  omega

theorem nm_truth : (Try.f57.name == "runtime.NumGoroutine") = false := by kernel_rfl
theorem bd_truth : Try.f57.body.isNone = false := by kernel_rfl
theorem rcheck_is {X : TabP} {v : Int} (h : checkT X.t = v) {w : World} (hr : TabRd w X) : Calls Try.prog 20 #[.agg #[.string ⟨X.name.toArray⟩, .slice X.ca X.cols.length X.cc, .slice X.ia X.ixs.length X.ic, .slice X.ha X.chks.length X.hc]] w (RetV (.int .i64 v) w) := by
  subst h; exact rcheck_any X w hr

set_option maxRecDepth 20000 in
set_option maxHeartbeats 8000000 in
theorem rwords_any (X : TabP) (w : World) (hr : TabRd w X) : Calls Try.prog 22 #[X.v] w (RetWords X.t w) := by
  have T1 := Box.mk (TabIn.start hr)
  have mc := hr.cols.lenMax
  have mi := hr.ixs.lenMax
  have mh := hr.chks.lenMax
  clear hr
  unfold TabP.cs at T1
  unfold TabP.v
  go_enter Try.func22, Try.ntmps22
  go_wp2_with fail
  generalize (w.alloc (.cells #[.string ⟨X.name.toArray⟩, .slice X.ca X.cols.length X.cc, .slice X.ia X.ixs.length X.ic, .slice X.ha X.chks.length X.hc] 28)) = W at *
  generalize hg : w.heap.size = g at *
  have HG := Box.mk hg
  clear hg
  generalize hv : checkT X.t = v
  refine (rcheck_is hv T1.out.rd).mono ?_
  rintro e w2 ⟨rfl, hb⟩
  have T2 := Box.mk (T1.out.step hb)
  clear hb T1
  by_cases h0 : v = 0
  · subst h0
    have OK := Box.mk (checkT_ok hv)
    have n16 := OK.out.name16
    have c8 := OK.out.cols8
    have i4 := OK.out.ixs4
    have h4 := OK.out.chks4
    change X.cols.length ≤ 8 at c8
    change (X.ixs.map (·.x)).length ≤ 4 at i4
    rw [List.length_map] at i4
    change X.chks.length ≤ 4 at h4
    change 0 < X.name.length ∧ X.name.length ≤ 16 at n16
    have HV := Box.mk hv
    clear hv
    have x0 := T2.out.c0
    have x1 := T2.out.c1
    have x2 := T2.out.c2
    have x3 := T2.out.c3
    have y0 := Lib.cell?_alloc_some (.cells #[.int .i64 (headW X.t)] 3) T2.out.c0
    have HHD := Box.mk (show headW X.t = (X.cols.length : Int) + 16 * (X.ixs.length : Int) + 256 * (X.chks.length : Int) + 4096 * (X.name.length : Int) from by unfold headW TabP.t; simp only [List.length_map])
    rw [HHD.out] at y0
    go_wp2_with fail
    have HT := Box.mk (fun w => rtext_any X.name w (by omega))
    rw [← HHD.out]
    refine (HT.out _).mono ?_
    rintro e w4 ⟨hb4, ta, tc, rfl, hown4⟩
    have O3 : OutIn w2 [headW X.t] 1 (some ⟨w2.heap.size, 0, none⟩) 1 (w2.alloc (.cells #[.int .i64 (headW X.t)] 3)) := ⟨(Below.refl _ _).alloc (Nat.le_refl _) _, rfl, own_new (Blk.new rfl rfl) (Nat.le_refl _) rfl (by simp [maxLen])⟩
    have O4 := O3.step hb4
    have hm4 := textW_length X.name
    have hn4 : nWords X.name.length ≤ 4 := by unfold nWords; omega
    have HH0 := Box.mk (show wordsT X.t = [headW X.t] ++ textW X.name ++ flatW colW X.cols ++ flatW ixW (X.ixs.map fun (p : IxP) => p.x) ++ flatW chkW X.chks from rfl)
    have hl0 : ([headW X.t] ++ textW X.name).length ≤ 5 := by rw [List.length_append, hm4, List.length_singleton]; omega
    rw [← hm4] at hn4
    clear hm4
    generalize textW X.name = M at *
    clear y0 x0 x1 x2 x3 O3 HT
    go_wp2_with (at_builtin; refine wpList_append_src rfl _ _ 32 32 rfl sl_int (.inl sl_int.ht) rfl O4.own rfl (Src.ofRd (Rd.ofOwn hown4) (intVals_one _)) (by omega) (by unfold maxLen; omega) (by have := O4.below.size; omega) ?_; intro a5 c5 w5 hown5 hgr5 _; have OU := Box.mk (O4.push rfl hown5 hgr5); clear hown5 hgr5 hown4 hb4 O4)
    generalize [headW X.t] ++ M = L0 at *
    generalize 1 + M.length = n5 at *
    clear hn4
    go_loopw [5, 6] (fun v i wr => ∃ (k n : Nat) (a : Option Addr) (cap : Nat), k ≤ X.cols.length ∧ i = .int .i64 k ∧ v = .slice a n cap ∧ Box (OutIn w2 (L0 ++ flatW colW (X.cols.take k)) n a cap wr)) (fun _ i _ => X.cols.length - (intOf i).toNat)
    case atStart => exact ⟨0, _, _, _, Nat.zero_le _, rfl, rfl, by rw [flatW_zero, List.append_nil]; exact OU⟩
    case round =>
      clear OU
      obtain ⟨k, n, a, cap, hk, rfl, rfl, OU⟩ := hrel
      have x1 := (T2.out.step OU.out.below).c1
      by_cases hlt : k < X.cols.length
      · have hlc := flatW_le (c := 5) (fun i hi => colW_le OK.out i hi) k hk
        change (flatW colW (List.take k X.cols)).length ≤ _ at hlc
        have hn : n ≤ 45 := by rw [← OU.out.len, List.length_append]; omega
        clear hlc
        have hok := OK.out.col hlt
        obtain ⟨b, off, hca, hgb, hc⟩ := (T2.out.step OU.out.below).rd.cols.recAt Col.enc_len (by omega) k hlt
        rw [hca] at x1
        have HSUC := Box.mk (flatW_succ colW X.cols k hlt)
        change 0 < (X.cols.getD k default).name.length ∧ (X.cols.getD k default).name.length ≤ 16 ∧ 1 ≤ (X.cols.getD k default).kind ∧ (X.cols.getD k default).kind ≤ 3 at hok
        generalize X.cols.getD k default = y at *
        obtain ⟨yn, yk, yu⟩ := y
        have c0 := hc 0 _ rfl
        have c1 := hc 1 _ rfl
        have c2 := hc 2 _ rfl
        simp only [Nat.add_zero] at c0 c1 c2
        clear hc hca hgb
        simp only at hok
        obtain ⟨hn0, hn16, hk1, hk3⟩ := hok
        go_wp2_with fail
        have HB := Box.mk (fun w => truth_any yu w)
        change Box (∀ w, Calls Try.prog 57 #[.bool yu] w fun e w' => e = .returned (.int .i64 (b2i yu)) ∧ w' = w) at HB
        have hbu := b2i_le yu
        have HCH := Box.mk (show colH ⟨yn, yk, yu⟩ = yk + 4 * b2i yu + 8 * (yn.length : Int) from rfl)
        have HCW := Box.mk (show colW ⟨yn, yk, yu⟩ = [colH ⟨yn, yk, yu⟩] ++ textW yn from rfl)
        generalize colH ⟨yn, yk, yu⟩ = ch at *
        generalize colW ⟨yn, yk, yu⟩ = cw at *
        generalize b2i yu = bu at *
        have hh : IntKind.i64.wrap (IntKind.i64.wrap (yk + IntKind.i64.wrap (4 * bu)) + IntKind.i64.wrap (8 * (yn.length : Int))) = ch := by
          rw [HCH.out]; simp only [IntKind.wrap_i64]; omega
        have HHH := Box.mk hh
        clear hh c0 c1 c2
        have OA := Box.mk ((OU.out.alloc (.cells #[.string ⟨yn.toArray⟩, .int .i64 yk, .bool yu] 50)).drewN 1)
        have HNE := Box.mk (show ∀ q, (Value.slice a n cap).ownBlock = some q → q ≠ wr.heap.size from fun q hq => by have := OU.out.ne q hq; omega)
        have HS0 : Blk (wr.alloc (.cells #[.string ⟨yn.toArray⟩, .int .i64 yk, .bool yu] 50)).drew wr.heap.size 50 [.string ⟨yn.toArray⟩, .int .i64 yk, .bool yu] := (Blk.new rfl rfl).drew
        generalize (wr.alloc (.cells #[.string ⟨yn.toArray⟩, .int .i64 yk, .bool yu] 50)) = wa at *
        generalize wr.heap.size = gc at *
        replace OA : Box (OutIn w2 (L0 ++ flatW colW (X.cols.take k)) n a cap wa.drew) := OA
        refine wp_region_held_drew (S := fun w' => Blk w' gc 50 [.string ⟨yn.toArray⟩, .int .i64 yk, .bool yu]) (by kernel_rfl) HS0 (fun _ => ?_)
        refine wpAnyH_take (i := 0) (v := ?_) rfl (by kernel_rfl) (by kernel_rfl) (by kernel_rfl) (fun _ _ _ h => h) (yieldsIf_val (by rfl) (fun w' hS => ?_)) HS0 ?_
        rotate_left
        · skip
          go_simp
          all_goals with_reducible rfl
        conv =>
          arg 8
          simp [go_sem]
        refine wpAnyH_take (i := 1) (v := ?_) rfl (by kernel_rfl) (by kernel_rfl) (by kernel_rfl) (fun _ _ _ h => h) (yieldsIf_val (by rfl) (fun w' hS => ?_)) HS0 ?_
        rotate_left
        · skip
          go_simp
          all_goals with_reducible rfl
        conv =>
          arg 8
          simp [go_sem]
        refine wpAnyH_take (i := 2) (v := ?_) rfl (by kernel_rfl) (by kernel_rfl) (by kernel_rfl) (fun _ _ _ h => h) (yieldsIf_val (by rfl) (fun w' hS => ?_)) HS0 ?_
        rotate_left
        · skip
          have e := hS.cellOf (i := 1) rfl
          go_simp
          all_goals with_reducible rfl
        conv =>
          arg 8
          simp [go_sem]
        refine wpAnyH_take (i := 3) (v := ?_) rfl (by kernel_rfl) (by kernel_rfl) (by kernel_rfl) (fun _ _ _ h => h) (yieldsIf_val (by rfl) (fun w' hS => ?_)) HS0 ?_
        rotate_left
        · skip
          go_simp
          all_goals with_reducible rfl
        conv =>
          arg 8
          simp [go_sem]
        refine wpAnyH_take (i := 4) (v := ?_) rfl (by kernel_rfl) (by kernel_rfl) (by kernel_rfl) (fun _ _ _ h => h) (yieldsIf_val (by rfl) (fun w' hS => ?_)) HS0 ?_
        rotate_left
        · skip
          have e := hS.cellOf (i := 2) rfl
          go_simp
          all_goals with_reducible rfl
        conv =>
          arg 8
          simp [go_sem]
        refine wpAnyH_take (i := 8) (v := ?_) rfl (by kernel_rfl) (by kernel_rfl) (by kernel_rfl) (fun _ _ _ h => h) (yieldsIf_val (by rfl) (fun w' hS => ?_)) HS0 ?_
        rotate_left
        · skip
          go_simp
          all_goals with_reducible rfl
        conv =>
          arg 8
          simp [go_sem]
        refine wpAnyH_take (i := 9) (v := ?_) rfl (by kernel_rfl) (by kernel_rfl) (by kernel_rfl) (fun _ _ _ h => h) (yieldsIf_val (by rfl) (fun w' hS => ?_)) HS0 ?_
        rotate_left
        · skip
          have e := hS.cellOf (i := 0) rfl
          go_simp
          all_goals with_reducible rfl
        conv =>
          arg 8
          simp [go_sem]
        refine wpAnyH_take (i := 10) (v := ?_) rfl (by kernel_rfl) (by kernel_rfl) (by kernel_rfl) (fun _ _ _ h => h) (yieldsIf_val (by rfl) (fun w' hS => ?_)) HS0 ?_
        rotate_left
        · skip
          go_simp
          all_goals with_reducible rfl
        conv =>
          arg 8
          simp [go_sem]
        refine wpAnyH_take (i := 11) (v := ?_) rfl (by kernel_rfl) (by kernel_rfl) (by kernel_rfl) (fun _ _ _ h => h) (yieldsIf_val (by rfl) (fun w' hS => ?_)) HS0 ?_
        rotate_left
        · skip
          go_simp
          all_goals with_reducible rfl
        conv =>
          arg 8
          simp [go_sem]
        conv =>
          arg 8
          simp [go_sem]
        refine wpAnyH_ready (rs := [5]) (by kernel_rfl) (by simp) (AllReadyH.cons rfl (fun K' hK' => oper_call (by rfl) 57 [.tmp 59] #[4] rfl (vs := [.bool yu]) rfl Try.func57 nm_truth bd_truth (HB.out _) ?_) AllReadyH.nil)
        rintro e w5 ⟨rfl, rfl⟩
        have HS1 := HS0
        refine ⟨_, rfl, hK'.out _ _ HS1 (fun _ => ?_)⟩
        clear hK' K'
        conv =>
          arg 8
          simp [go_sem]
        refine wpAnyH_take (i := 6) (v := ?_) rfl (by kernel_rfl) (by kernel_rfl) (by kernel_rfl) (fun _ _ _ h => h) (yieldsIf_val (by rfl) (fun w' hS => ?_)) HS1 ?_
        rotate_left
        · skip
          go_simp
          all_goals with_reducible rfl
        conv =>
          arg 8
          simp [go_sem]
        refine wpAnyH_take (i := 7) (v := ?_) rfl (by kernel_rfl) (by kernel_rfl) (by kernel_rfl) (fun _ _ _ h => h) (yieldsIf_val (by rfl) (fun w' hS => ?_)) HS1 ?_
        rotate_left
        · skip
          go_simp
          all_goals with_reducible rfl
        conv =>
          arg 8
          simp [go_sem]
        refine wpAnyH_take (i := 12) (v := ?_) rfl (by kernel_rfl) (by kernel_rfl) (by kernel_rfl) (fun _ _ _ h => h) (yieldsIf_val (by rfl) (fun w' hS => ?_)) HS1 ?_
        rotate_left
        · skip
          go_simp
          all_goals with_reducible rfl
        conv =>
          arg 8
          simp [go_sem]
        refine wpAnyH_ready (rs := [13]) (by kernel_rfl) (by simp) (AllReadyH.cons rfl (fun K' hK' => oper_lit1 (by rfl) 32 (.tmp 67) rfl sl_int (v := .int .i64 (IntKind.i64.wrap (IntKind.i64.wrap (yk + IntKind.i64.wrap (4 * bu)) + IntKind.i64.wrap (8 * (yn.length : Int))))) rfl ?_) AllReadyH.nil)
        have HS2 := HS1.alloc (.cells #[.int .i64 (IntKind.i64.wrap (IntKind.i64.wrap (yk + IntKind.i64.wrap (4 * bu)) + IntKind.i64.wrap (8 * (yn.length : Int))))] 3)
        refine hK'.out _ _ HS2 (fun _ => ?_)
        clear hK' K'
        conv =>
          arg 8
          simp [go_sem]
        have OW := OA.out.alloc (.cells #[.int .i64 (IntKind.i64.wrap (IntKind.i64.wrap (yk + IntKind.i64.wrap (4 * bu)) + IntKind.i64.wrap (8 * (yn.length : Int))))] 3)
        refine wpAnyH_ready (rs := [14]) (by kernel_rfl) (by simp) (AllReadyH.cons rfl (fun K' hK' => oper_append (by rfl) (.tmp 55) (.tmp 68) 32 32 rfl sl_int (.inl sl_int.ht) rfl OW.own rfl (Src.oneNew _ _ _ rfl) (by omega) (by unfold maxLen; omega) (by have := OW.below.size; omega) ?_) AllReadyH.nil)
        intro a7 c7 w7 hown7 hgr7
        have OB := Box.mk (OW.push (M := [IntKind.i64.wrap (IntKind.i64.wrap (yk + IntKind.i64.wrap (4 * bu)) + IntKind.i64.wrap (8 * (yn.length : Int)))]) rfl hown7 hgr7)
        have HS3 := HS2.eq (hgr7.block gc HS2.lt (fun e => HNE.out gc e.symm rfl))
        refine hK'.out _ _ HS3 (fun _ => ?_)
        clear hK' K' hown7 hgr7 OW
        conv =>
          arg 8
          simp [go_sem]
        rw [HHH.out] at OB
        refine wpAnyH_take (i := 15) (v := ?_) rfl (by kernel_rfl) (by kernel_rfl) (by kernel_rfl) (fun _ _ _ h => h) (yieldsIf_val (by rfl) (fun w' hS => ?_)) HS3 ?_
        rotate_left
        · skip
          go_simp
          all_goals with_reducible rfl
        refine ⟨by kernel_rfl, ?_⟩
        conv =>
          arg 5
          simp [go_sem]
        have d0 := HS3.cellOf (i := 0) rfl
        have HT := Box.mk (fun w => rtext_any yn w (by omega))
        have hm6 := textW_length yn
        have hn6 : nWords yn.length ≤ 4 := by unfold nWords; omega
        rw [← hm6] at hn6
        clear hm6
        generalize textW yn = M at *
        go_wp2_with fail
        refine (HT.out _).mono ?_
        rintro e w8 ⟨hb8, ta8, tc8, rfl, hown8⟩
        have O8 := OB.out.step hb8
        clear HS0 HS1 HS2 HS3 d0 HT OB OA
        go_wp2_with (at_builtin; refine wpList_append_src rfl _ _ 32 32 rfl sl_int (.inl sl_int.ht) rfl O8.own rfl (Src.ofRd (Rd.ofOwn hown8) (intVals_one _)) (by omega) (by unfold maxLen; omega) (by have := O8.below.size; omega) ?_; intro a9 c9 w9 hown9 hgr9 _; have O9 := Box.mk (O8.push rfl hown9 hgr9); clear hown9 hgr9)
        have WR9 := Box.mk (show OutIn w2 (L0 ++ flatW colW (X.cols.take (k + 1))) _ _ _ w9 from by rw [HSUC.out, HCW.out]; simpa [List.append_assoc] using O9.out)
        exact ⟨⟨k + 1, _, _, _, by omega, by go_num, rfl, WR9⟩, by simp [intOf]; omega⟩
      · have hkl : k = X.cols.length := by omega
        subst hkl
        rw [flatW_all colW X.cols _ (Nat.le_refl _)] at OU
        have hL1 : (L0 ++ flatW colW X.cols).length ≤ 45 := by
          have := flatW_le (c := 5) (fun i hi => colW_le OK.out i hi) X.t.cols.length (Nat.le_refl _)
          rw [List.take_length] at this
          rw [List.length_append]
          change (flatW colW X.cols).length ≤ 5 * X.cols.length at this
          omega
        generalize L0 ++ flatW colW X.cols = L1 at *
        go_wp2_with fail
        clear x1
        go_loopw [5, 8] (fun v i wr => ∃ (k n : Nat) (a : Option Addr) (cap : Nat), k ≤ X.ixs.length ∧ i = .int .i64 k ∧ v = .slice a n cap ∧ Box (OutIn w2 (L1 ++ flatW ixW ((X.ixs.map fun (p : IxP) => p.x).take k)) n a cap wr)) (fun _ i _ => X.ixs.length - (intOf i).toNat)
        case atStart => exact ⟨0, _, _, _, Nat.zero_le _, rfl, rfl, by rw [flatW_zero, List.append_nil]; exact OU⟩
        case round =>
          clear OU
          obtain ⟨k, n, a, cap, hk, rfl, rfl, OU⟩ := hrel
          have x2 := (T2.out.step OU.out.below).c2
          by_cases hlt : k < X.ixs.length
          · have hlc := flatW_le (c := 6) (fun i hi => ixW_le OK.out i hi) k (by show k ≤ (X.ixs.map fun (p : IxP) => p.x).length; rw [List.length_map]; exact hk)
            change (flatW ixW (List.take k (X.ixs.map fun (p : IxP) => p.x))).length ≤ _ at hlc
            have hn : n ≤ 69 := by rw [← OU.out.len, List.length_append]; omega
            clear hlc
            have hok := OK.out.ix (i := k) (by show k < (X.ixs.map fun (p : IxP) => p.x).length; rw [List.length_map]; exact hlt)
            change 0 < ((X.ixs.map fun (p : IxP) => p.x).getD k default).name.length ∧ ((X.ixs.map fun (p : IxP) => p.x).getD k default).name.length ≤ 16 ∧ 0 < ((X.ixs.map fun (p : IxP) => p.x).getD k default).cols.length ∧ ((X.ixs.map fun (p : IxP) => p.x).getD k default).cols.length ≤ 8 ∧ (∀ j, j < ((X.ixs.map fun (p : IxP) => p.x).getD k default).cols.length → 0 ≤ ((X.ixs.map fun (p : IxP) => p.x).getD k default).cols.getD j 0 ∧ ((X.ixs.map fun (p : IxP) => p.x).getD k default).cols.getD j 0 < 8) at hok
            rw [getD_map_x] at hok
            have TT := T2.out.step OU.out.below
            obtain ⟨b, off, hca, hgb, hc⟩ := TT.rd.ixs.recAt IxP.enc_len (by omega) k hlt
            rw [hca] at x2
            have hrd := TT.rd.nums _ (getD_mem hlt)
            have HSUC := Box.mk (flatW_succ ixW (X.ixs.map fun (p : IxP) => p.x) k (by rw [List.length_map]; exact hlt))
            rw [getD_map_x] at HSUC
            clear TT
            generalize X.ixs.getD k default = y at *
            obtain ⟨⟨yn, yc, yu⟩, ya, yp⟩ := y
            have c0 := hc 0 _ rfl
            have c1 := hc 1 _ rfl
            have c2 := hc 2 _ rfl
            simp only [Nat.add_zero] at c0 c1 c2
            simp only at hok hrd HSUC c0 c1 c2
            clear hc hca hgb
            obtain ⟨hn0, hn16, hy0, hy8, hin⟩ := hok
            have HIN := Box.mk hin
            have RN := Box.mk (hrd.alloc (.cells #[.string ⟨yn.toArray⟩, .slice ya yc.length yp, .bool yu] 55))
            have OA := Box.mk (OU.out.alloc (.cells #[.string ⟨yn.toArray⟩, .slice ya yc.length yp, .bool yu] 55))
            have HNE := Box.mk (show ∀ q, (Value.slice a n cap).ownBlock = some q → q ≠ wr.heap.size from fun q hq => by have := OU.out.ne q hq; omega)
            have bc : Blk (wr.alloc (.cells #[.string ⟨yn.toArray⟩, .slice ya yc.length yp, .bool yu] 55)) wr.heap.size 55 [.string ⟨yn.toArray⟩, .slice ya yc.length yp, .bool yu] := Blk.new rfl rfl
            have BC := Box.mk bc
            have d1 := bc.cellOf (i := 1) rfl
            clear hrd hin bc
            go_wp2_with fail
            clear c0 c1 c2 d1 x2
            have hyl : yc.length ≤ 9223372036854775807 := by omega
            generalize (wr.alloc (.cells #[.string ⟨yn.toArray⟩, .slice ya yc.length yp, .bool yu] 55)) = wa at *
            generalize wr.heap.size = gc at *
            go_loopw [10, 11] (fun c i wr2 => ∃ m : Nat, m ≤ yc.length ∧ i = .int .i64 ((m : Int) - 1) ∧ c = .int .i64 (packI (yc.drop m)) ∧ wr2 = wa) (fun _ i _ => (intOf i + 1).toNat)
            case atStart => exact ⟨yc.length, Nat.le_refl _, by go_num, by rw [List.drop_length]; rfl, rfl⟩
            case round =>
              obtain ⟨m, hm, rfl, rfl, rfl⟩ := hrel
              have d1 := BC.out.cellOf (i := 1) rfl
              cases m with
              | succ m =>
                obtain ⟨bn, offn, rfl, cn⟩ := RN.out.intAtD m (by omega)
                obtain ⟨hz0, hz8⟩ := HIN.out m (by omega)
                have HPK := Box.mk (packI_drop yc m (by omega))
                obtain ⟨hp0, hp1⟩ := packI_drop_bd HIN.out hy8 (m + 1)
                rw [show ((m + 1 : Nat) : Int) - 1 = (m : Int) from by omega]
                generalize yc.getD m 0 = z at *
                generalize hq : packI (yc.drop (m + 1)) = q at *
                clear hq
                have hml : m < yc.length := by omega
                go_wp2_with fail
                exact ⟨⟨m, by omega, by go_num, by rw [HPK.out], trivial⟩, by simp [intOf]⟩
              | zero =>
                rw [show ((0 : Nat) : Int) - 1 = -1 from rfl]
                rw [List.drop_zero]
                go_wp2_with fail
                have HB := Box.mk (fun w => truth_any yu w)
                change Box (∀ w, Calls Try.prog 57 #[.bool yu] w fun e w' => e = .returned (.int .i64 (b2i yu)) ∧ w' = w) at HB
                have hbu := b2i_le yu
                have HCH := Box.mk (show ixH ⟨yn, yc, yu⟩ = b2i yu + 2 * (yc.length : Int) + 32 * (yn.length : Int) from rfl)
                have HCW := Box.mk (show ixW ⟨yn, yc, yu⟩ = [ixH ⟨yn, yc, yu⟩, packI yc] ++ textW yn from rfl)
                generalize ixH ⟨yn, yc, yu⟩ = ch at *
                generalize ixW ⟨yn, yc, yu⟩ = cw at *
                generalize b2i yu = bu at *
                generalize packI yc = pk at *
                have hh : IntKind.i64.wrap (IntKind.i64.wrap (bu + IntKind.i64.wrap (2 * (yc.length : Int))) + IntKind.i64.wrap (32 * (yn.length : Int))) = ch := by
                  rw [HCH.out]; simp only [IntKind.wrap_i64]; omega
                have HHH := Box.mk hh
                clear hh RN HIN d1
                replace OA := Box.mk (OA.out.drewN 1)
                have HS0 : Blk wr.drew gc 55 [.string ⟨yn.toArray⟩, .slice ya yc.length yp, .bool yu] := BC.out.drew
                replace OA : Box (OutIn w2 (L1 ++ flatW ixW ((X.ixs.map fun (p : IxP) => p.x).take k)) n a cap wr.drew) := OA
                refine wp_region_held_drew (S := fun w' => Blk w' gc 55 [.string ⟨yn.toArray⟩, .slice ya yc.length yp, .bool yu]) (by kernel_rfl) HS0 (fun _ => ?_)
                refine wpAnyH_take (i := 0) (v := ?_) rfl (by kernel_rfl) (by kernel_rfl) (by kernel_rfl) (fun _ _ _ h => h) (yieldsIf_val (by rfl) (fun w' hS => ?_)) HS0 ?_
                rotate_left
                · skip
                  go_simp
                  all_goals with_reducible rfl
                conv =>
                  arg 8
                  simp [go_sem]
                refine wpAnyH_take (i := 1) (v := ?_) rfl (by kernel_rfl) (by kernel_rfl) (by kernel_rfl) (fun _ _ _ h => h) (yieldsIf_val (by rfl) (fun w' hS => ?_)) HS0 ?_
                rotate_left
                · skip
                  go_simp
                  all_goals with_reducible rfl
                conv =>
                  arg 8
                  simp [go_sem]
                refine wpAnyH_take (i := 2) (v := ?_) rfl (by kernel_rfl) (by kernel_rfl) (by kernel_rfl) (fun _ _ _ h => h) (yieldsIf_val (by rfl) (fun w' hS => ?_)) HS0 ?_
                rotate_left
                · skip
                  have e := hS.cellOf (i := 2) rfl
                  go_simp
                  all_goals with_reducible rfl
                conv =>
                  arg 8
                  simp [go_sem]
                refine wpAnyH_take (i := 4) (v := ?_) rfl (by kernel_rfl) (by kernel_rfl) (by kernel_rfl) (fun _ _ _ h => h) (yieldsIf_val (by rfl) (fun w' hS => ?_)) HS0 ?_
                rotate_left
                · skip
                  go_simp
                  all_goals with_reducible rfl
                conv =>
                  arg 8
                  simp [go_sem]
                refine wpAnyH_take (i := 5) (v := ?_) rfl (by kernel_rfl) (by kernel_rfl) (by kernel_rfl) (fun _ _ _ h => h) (yieldsIf_val (by rfl) (fun w' hS => ?_)) HS0 ?_
                rotate_left
                · skip
                  have e := hS.cellOf (i := 1) rfl
                  go_simp
                  all_goals with_reducible rfl
                conv =>
                  arg 8
                  simp [go_sem]
                refine wpAnyH_take (i := 6) (v := ?_) rfl (by kernel_rfl) (by kernel_rfl) (by kernel_rfl) (fun _ _ _ h => h) (yieldsIf_val (by rfl) (fun w' hS => ?_)) HS0 ?_
                rotate_left
                · skip
                  go_simp
                  all_goals with_reducible rfl
                conv =>
                  arg 8
                  simp [go_sem]
                refine wpAnyH_take (i := 7) (v := ?_) rfl (by kernel_rfl) (by kernel_rfl) (by kernel_rfl) (fun _ _ _ h => h) (yieldsIf_val (by rfl) (fun w' hS => ?_)) HS0 ?_
                rotate_left
                · skip
                  go_simp
                  all_goals with_reducible rfl
                conv =>
                  arg 8
                  simp [go_sem]
                refine wpAnyH_take (i := 9) (v := ?_) rfl (by kernel_rfl) (by kernel_rfl) (by kernel_rfl) (fun _ _ _ h => h) (yieldsIf_val (by rfl) (fun w' hS => ?_)) HS0 ?_
                rotate_left
                · skip
                  go_simp
                  all_goals with_reducible rfl
                conv =>
                  arg 8
                  simp [go_sem]
                refine wpAnyH_take (i := 10) (v := ?_) rfl (by kernel_rfl) (by kernel_rfl) (by kernel_rfl) (fun _ _ _ h => h) (yieldsIf_val (by rfl) (fun w' hS => ?_)) HS0 ?_
                rotate_left
                · skip
                  have e := hS.cellOf (i := 0) rfl
                  go_simp
                  all_goals with_reducible rfl
                conv =>
                  arg 8
                  simp [go_sem]
                refine wpAnyH_take (i := 11) (v := ?_) rfl (by kernel_rfl) (by kernel_rfl) (by kernel_rfl) (fun _ _ _ h => h) (yieldsIf_val (by rfl) (fun w' hS => ?_)) HS0 ?_
                rotate_left
                · skip
                  go_simp
                  all_goals with_reducible rfl
                conv =>
                  arg 8
                  simp [go_sem]
                refine wpAnyH_take (i := 12) (v := ?_) rfl (by kernel_rfl) (by kernel_rfl) (by kernel_rfl) (fun _ _ _ h => h) (yieldsIf_val (by rfl) (fun w' hS => ?_)) HS0 ?_
                rotate_left
                · skip
                  go_simp
                  all_goals with_reducible rfl
                conv =>
                  arg 8
                  simp [go_sem]
                refine wpAnyH_take (i := 14) (v := ?_) rfl (by kernel_rfl) (by kernel_rfl) (by kernel_rfl) (fun _ _ _ h => h) (yieldsIf_val (by rfl) (fun w' hS => ?_)) HS0 ?_
                rotate_left
                · skip
                  go_simp
                  all_goals with_reducible rfl
                conv =>
                  arg 8
                  simp [go_sem]
                conv =>
                  arg 8
                  simp [go_sem]
                refine wpAnyH_ready (rs := [3]) (by kernel_rfl) (by simp) (AllReadyH.cons rfl (fun K' hK' => oper_call (by rfl) 57 [.tmp 105] #[4] rfl (vs := [.bool yu]) rfl Try.func57 nm_truth bd_truth (HB.out _) ?_) AllReadyH.nil)
                rintro e w5 ⟨rfl, rfl⟩
                have HS1 := HS0
                refine ⟨_, rfl, hK'.out _ _ HS1 (fun _ => ?_)⟩
                clear hK' K'
                conv =>
                  arg 8
                  simp [go_sem]
                refine wpAnyH_take (i := 8) (v := ?_) rfl (by kernel_rfl) (by kernel_rfl) (by kernel_rfl) (fun _ _ _ h => h) (yieldsIf_val (by rfl) (fun w' hS => ?_)) HS1 ?_
                rotate_left
                · skip
                  go_simp
                  all_goals with_reducible rfl
                conv =>
                  arg 8
                  simp [go_sem]
                refine wpAnyH_take (i := 13) (v := ?_) rfl (by kernel_rfl) (by kernel_rfl) (by kernel_rfl) (fun _ _ _ h => h) (yieldsIf_val (by rfl) (fun w' hS => ?_)) HS1 ?_
                rotate_left
                · skip
                  go_simp
                  all_goals with_reducible rfl
                conv =>
                  arg 8
                  simp [go_sem]
                refine wpAnyH_ready (rs := [15]) (by kernel_rfl) (by simp) (AllReadyH.cons rfl (fun K' hK' => oper_lit2 (by rfl) 32 (.tmp 116) (.tmp 117) rfl sl_int (v := .int .i64 (IntKind.i64.wrap (IntKind.i64.wrap (bu + IntKind.i64.wrap (2 * (yc.length : Int))) + IntKind.i64.wrap (32 * (yn.length : Int))))) (u := .int .i64 pk) rfl rfl ?_) AllReadyH.nil)
                have HS2 := HS1.alloc (.cells #[.int .i64 (IntKind.i64.wrap (IntKind.i64.wrap (bu + IntKind.i64.wrap (2 * (yc.length : Int))) + IntKind.i64.wrap (32 * (yn.length : Int)))), .int .i64 pk] 3)
                refine hK'.out _ _ HS2 (fun _ => ?_)
                clear hK' K'
                conv =>
                  arg 8
                  simp [go_sem]
                have OW := OA.out.alloc (.cells #[.int .i64 (IntKind.i64.wrap (IntKind.i64.wrap (bu + IntKind.i64.wrap (2 * (yc.length : Int))) + IntKind.i64.wrap (32 * (yn.length : Int)))), .int .i64 pk] 3)
                refine wpAnyH_ready (rs := [16]) (by kernel_rfl) (by simp) (AllReadyH.cons rfl (fun K' hK' => oper_append (by rfl) (.tmp 103) (.tmp 118) 32 32 rfl sl_int (.inl sl_int.ht) rfl OW.own rfl (Src.ofRd (rd_two _ _ _) (intVals_one _)) (by omega) (by unfold maxLen; omega) (by have := OW.below.size; omega) ?_) AllReadyH.nil)
                intro a7 c7 w7 hown7 hgr7
                have OB := Box.mk (OW.push (M := [IntKind.i64.wrap (IntKind.i64.wrap (bu + IntKind.i64.wrap (2 * (yc.length : Int))) + IntKind.i64.wrap (32 * (yn.length : Int))), pk]) rfl hown7 hgr7)
                have HS3 := HS2.eq (hgr7.block gc HS2.lt (fun e => HNE.out gc e.symm rfl))
                refine hK'.out _ _ HS3 (fun _ => ?_)
                clear hK' K' hown7 hgr7 OW
                conv =>
                  arg 8
                  simp [go_sem]
                rw [HHH.out] at OB
                refine wpAnyH_take (i := 17) (v := ?_) rfl (by kernel_rfl) (by kernel_rfl) (by kernel_rfl) (fun _ _ _ h => h) (yieldsIf_val (by rfl) (fun w' hS => ?_)) HS3 ?_
                rotate_left
                · skip
                  go_simp
                  all_goals with_reducible rfl
                refine ⟨by kernel_rfl, ?_⟩
                conv =>
                  arg 5
                  simp [go_sem]
                have d0 := HS3.cellOf (i := 0) rfl
                have HT := Box.mk (fun w => rtext_any yn w (by omega))
                have hm6 := textW_length yn
                have hn6 : nWords yn.length ≤ 4 := by unfold nWords; omega
                rw [← hm6] at hn6
                clear hm6
                generalize textW yn = M at *
                go_wp2_with fail
                refine (HT.out _).mono ?_
                rintro e w8 ⟨hb8, ta8, tc8, rfl, hown8⟩
                have O8 := OB.out.step hb8
                clear HS0 HS1 HS2 HS3 d0 HT OB OA BC
                go_wp2_with (at_builtin; refine wpList_append_src rfl _ _ 32 32 rfl sl_int (.inl sl_int.ht) rfl O8.own rfl (Src.ofRd (Rd.ofOwn hown8) (intVals_one _)) (by omega) (by unfold maxLen; omega) (by have := O8.below.size; omega) ?_; intro a9 c9 w9 hown9 hgr9 _; have O9 := Box.mk (O8.push rfl hown9 hgr9); clear hown9 hgr9)
                have WR9 := Box.mk (show OutIn w2 (L1 ++ flatW ixW ((X.ixs.map fun (p : IxP) => p.x).take (k + 1))) _ _ _ w9 from by rw [HSUC.out, HCW.out]; simpa [List.append_assoc] using O9.out)
                exact ⟨⟨k + 1, _, _, _, by omega, by go_num, rfl, WR9⟩, by simp [intOf]; omega⟩
          · have hkl : k = X.ixs.length := by omega
            subst hkl
            rw [flatW_all ixW (X.ixs.map fun (p : IxP) => p.x) _ (by rw [List.length_map]; exact Nat.le_refl _)] at OU
            have hL2 : (L1 ++ flatW ixW (X.ixs.map fun (p : IxP) => p.x)).length ≤ 69 := by
              have := flatW_le (c := 6) (fun i hi => ixW_le OK.out i hi) X.t.ixs.length (Nat.le_refl _)
              rw [List.take_length] at this
              rw [List.length_append]
              change (flatW ixW (X.ixs.map fun (p : IxP) => p.x)).length ≤ 6 * (X.ixs.map fun (p : IxP) => p.x).length at this
              rw [List.length_map] at this
              omega
            generalize L1 ++ flatW ixW (X.ixs.map fun (p : IxP) => p.x) = L2 at *
            go_wp2_with fail
            clear x2
            go_loopw [5, 12] (fun v i wr => ∃ (k n : Nat) (a : Option Addr) (cap : Nat), k ≤ X.chks.length ∧ i = .int .i64 k ∧ v = .slice a n cap ∧ Box (OutIn w2 (L2 ++ flatW chkW (X.chks.take k)) n a cap wr)) (fun _ i _ => X.chks.length - (intOf i).toNat)
            case atStart => exact ⟨0, _, _, _, Nat.zero_le _, rfl, rfl, by rw [flatW_zero, List.append_nil]; exact OU⟩
            case round =>
              clear OU
              obtain ⟨k, n, a, cap, hk, rfl, rfl, OU⟩ := hrel
              have x3 := (T2.out.step OU.out.below).c3
              by_cases hlt : k < X.chks.length
              · have hlc := flatW_le (c := 10) (fun i hi => chkW_le OK.out i hi) k hk
                change (flatW chkW (List.take k X.chks)).length ≤ _ at hlc
                have hn : n ≤ 109 := by rw [← OU.out.len, List.length_append]; omega
                clear hlc
                have hok := OK.out.chk hlt
                change 0 ≤ (X.chks.getD k default).col ∧ (X.chks.getD k default).col < X.cols.length ∧ 6 ≤ (X.chks.getD k default).op ∧ (X.chks.getD k default).op ≤ 11 ∧ validB (X.chks.getD k default).val = true ∧ _ at hok
                obtain ⟨b, off, hca, hgb, hc⟩ := (T2.out.step OU.out.below).rd.chks.recAt Chk.enc_len (by omega) k hlt
                rw [hca] at x3
                have HSUC := Box.mk (flatW_succ chkW X.chks k hlt)
                generalize X.chks.getD k default = y at *
                obtain ⟨yc, yo, yk, yn, ys⟩ := y
                have c0 := hc 0 _ rfl
                have c1 := hc 1 _ rfl
                have c2 := hc 2 _ rfl
                have c3 := hc 3 _ rfl
                have c4 := hc 4 _ rfl
                simp only [Nat.add_zero] at c0 c1 c2 c3 c4
                clear hc hca hgb
                simp only at hok
                obtain ⟨hy0, hy1, ho0, ho1, hval, _⟩ := hok
                obtain ⟨hs40, hk1, hk3⟩ := valid_len hval
                simp only at hs40 hk1 hk3
                have hvl := valW_le hval
                have HT := Box.mk (fun w => rconst_any yk yn ys w hk1 (by omega))
                clear hval hk1 hk3
                have HCW := Box.mk (show chkW ⟨yc, yo, yk, yn, ys⟩ = [chkH ⟨yc, yo, yk, yn, ys⟩] ++ valW ⟨yk, yn, ys⟩ from rfl)
                have HCH := Box.mk (show chkH ⟨yc, yo, yk, yn, ys⟩ = yc + 16 * yo from rfl)
                generalize chkW ⟨yc, yo, yk, yn, ys⟩ = cw at *
                generalize chkH ⟨yc, yo, yk, yn, ys⟩ = ch at *
                generalize valW ⟨yk, yn, ys⟩ = M at *
                have OA := OU.out.alloc (.cells #[.int .i64 yc, .int .i64 yo, .int .i64 yk, .int .i64 yn, .string ⟨ys.toArray⟩] 42)
                have HNE := Box.mk (show ∀ q, (Value.slice a n cap).ownBlock = some q → q ≠ wr.heap.size from fun q hq => by have := OU.out.ne q hq; omega)
                have bc : Blk (wr.alloc (.cells #[.int .i64 yc, .int .i64 yo, .int .i64 yk, .int .i64 yn, .string ⟨ys.toArray⟩] 42)) wr.heap.size 42 [.int .i64 yc, .int .i64 yo, .int .i64 yk, .int .i64 yn, .string ⟨ys.toArray⟩] := Blk.new rfl rfl
                have BC := Box.mk bc
                have d0 := bc.cellOf (i := 0) rfl
                have d1 := bc.cellOf (i := 1) rfl
                clear bc
                have OA2 := Box.mk (OA.alloc (.cells #[.int .i64 (yc + 16 * yo)] 3))
                have SRC := Box.mk (Src.ofRd (P := Try.prog) (rd_newAt (w := wr.alloc (.cells #[.int .i64 yc, .int .i64 yo, .int .i64 yk, .int .i64 yn, .string ⟨ys.toArray⟩] 42)) (arr := #[.int .i64 (yc + 16 * yo)]) (cs := intVals [yc + 16 * yo]) (e := 3) (n := 1) (g := wr.heap.size + 1) (size := 1) (by simp) rfl rfl (by simp [maxLen])) (intVals_one _))
                clear OA
                go_wp2_with (at_builtin; go_loud (refine wpList_append_src rfl _ _ 32 32 rfl sl_int (.inl sl_int.ht) rfl OA2.out.own rfl SRC.out (by omega) (by unfold maxLen; omega) (by have := OA2.out.below.size; omega) ?_; intro a7 c7 w7 hown7 hgr7 _; have OB := OA2.out.push (M := [yc + 16 * yo]) rfl hown7 hgr7; have BC7 := (BC.out.alloc (.cells #[.int .i64 (yc + 16 * yo)] 3)).eq (hgr7.block wr.heap.size (by simp; omega) (fun e => HNE.out _ e.symm rfl)); have e2 := BC7.cellOf (i := 2) rfl; have e3 := BC7.cellOf (i := 3) rfl; have e4 := BC7.cellOf (i := 4) rfl; rw [← HCH.out] at OB; clear hown7 hgr7 BC7 d0 d1))
                refine (HT.out _).mono ?_
                rintro e w8 ⟨hb8, ta8, tc8, rfl, hown8⟩
                have O8 := OB.step hb8
                clear HT OB e2 e3 e4
                go_wp2_with (at_builtin; refine wpList_append_src rfl _ _ 32 32 rfl sl_int (.inl sl_int.ht) rfl O8.own rfl (Src.ofRd (Rd.ofOwn hown8) (intVals_one _)) (by omega) (by unfold maxLen; omega) (by have := O8.below.size; omega) ?_; intro a9 c9 w9 hown9 hgr9 _; have O9 := Box.mk (O8.push rfl hown9 hgr9); clear hown9 hgr9)
                have WR9 := Box.mk (show OutIn w2 (L2 ++ flatW chkW (X.chks.take (k + 1))) _ _ _ w9 from by rw [HSUC.out, HCW.out]; simpa [List.append_assoc] using O9.out)
                exact ⟨⟨k + 1, _, _, _, by omega, by go_num, rfl, WR9⟩, by simp [intOf]; omega⟩
              · have hkl : k = X.chks.length := by omega
                subst hkl
                rw [flatW_all chkW X.chks _ (Nat.le_refl _)] at OU
                rw [← HH0.out] at OU
                go_wp2_with fail
                go_ret2
                refine ⟨T2.out.below.trans (OU.out.below.mono T2.out.below.size), a, n, cap, by rw [HV.out]; rfl, ?_⟩
                rw [if_pos HV.out]
                exact Rd.ofOwn OU.out.own
  · have hvv : (v != 0) = true := by simp [h0]
    have HV := Box.mk hv
    clear hv
    go_wp2_with fail
    go_ret2
    exact RetWords.err HV.out h0 (HG.out ▸ T2.out.below)
end Go.Proofs.Ytgimkipekoabbaa
