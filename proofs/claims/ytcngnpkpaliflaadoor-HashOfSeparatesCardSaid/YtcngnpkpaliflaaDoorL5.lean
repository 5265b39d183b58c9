/-
  The walk of HashCrcStreams: it returns true and keeps what was there. No condition.
-/
import Derived.Test.YtcngnpkpaliflaaDoorL4
namespace Go.Proofs.YtcngnpkpaliflaaDoor
open Go.RowKit

theorem oper_load1 {P : Program} {w : World} {ops : Array Oper} {o : Oper} {a : Act} {K : Act → World → Prop} {Q : Exit → Act → World → Prop} (hgd : Region.wanted o (yielded ops a.tmps) = true) (ty : TypeId) (x : Operand) (ho : o.op = .load ty x)
    (hT : (P.underlying ty).map (fun d => match d with | .struct _ | .array _ _ => true | _ => false) = some false) {ad : Addr} (hx : a.eval x = .pointer (some ad)) {v : Value} (hc : w.cell? ad = some v) (h : K (a.put o.dst v) w) : if Region.wanted o (yielded ops a.tmps) = true then Oper.wp P o a w K Q else K (a.put o.dst undef) w := by
  rw [if_pos hgd]
  obtain ⟨d, hd, hd2⟩ := Option.map_eq_some_iff.1 hT
  have ha : (Go.isAgg ty).run P w = .ok false w := by
    unfold Go.isAgg
    rw [Sem.run_bind, run_underlying hd w]
    cases d <;> simp_all
  unfold Oper.wp execOp
  simp [ho, hx, Instr.loadAt, Instr.sureAddr, loadVar, ha, hc]
  exact h
theorem cell_below {w w' : World} {p : Addr} {v : Value} (hb : Below w.drew.heap.size w.drew w') (hc : w.cell? p = some v) : w'.cell? p = some v := by
  rw [hb.cell (by have := cell_block_lt hc; simpa using this)]; exact hc
theorem Mem.drewOn {w w' : World} (h : Mem w) (hb : Below w.drew.heap.size w.drew w') : Mem w' := Mem.call0 (w := w.drew) ⟨h.tabs.drew, h.kons.drew⟩ hb
theorem u5' : Tryd.prog.underlying 5 = some (.int .u8) := by kernel_rfl
theorem sl26 : SlT Tryd.prog 26 9 (.string ⟨#[]⟩) 1 16 := ⟨by kernel_rfl, by kernel_rfl, rfl⟩
theorem bstr_take (l : List (List UInt8)) (i : Nat) : (bstrVals l).take i = bstrVals (l.take i) := by simp [bstrVals, List.map_take]
theorem nm20 : (Tryd.f20.name == "runtime.NumGoroutine") = false := by kernel_rfl
theorem bd20 : Tryd.f20.body.isNone = false := by kernel_rfl
theorem zero30 : (Tryd.prog.info? 30).map (·.zero) = some (some (.agg #[.int .u64 0])) := by kernel_rfl

/-- The cells of a check behind the message m. -/
def CrcSt (m : List UInt8) (cs : List Value) : Prop := cs = [.int .u64 ((feed ones40 m).toNat : Int)]
theorem CrcSt.len {m : List UInt8} {cs : List Value} (h : CrcSt m cs) : cs.length = 1 := by rw [h]; rfl
theorem CrcSt.one {m : List UInt8} {cs : List Value} (h : CrcSt m cs) : ∀ u ∈ cs, u.oneCell' = true := by
  intro u hu; rw [h] at hu; simp at hu; subst hu; rfl
def RetC (m : List UInt8) (w : World) (e : Ending) (w' : World) : Prop := ∃ cs, CrcSt m cs ∧ e = .returned (.agg cs.toArray) ∧ Below w.heap.size w w'
theorem begin_c (w : World) : Calls Tryd.prog 19 #[] w (RetC [] w) := (begin_any w).mono fun _ _ h => ⟨_, rfl, h.1, h.2⟩
theorem add_c {m : List UInt8} {cs : List Value} (hS : CrcSt m cs) (t : List UInt8) (w : World) (ht : t.length ≤ 1099511627776) (hM : Mem w) : Calls Tryd.prog 20 #[.agg cs.toArray, .string ⟨t.toArray⟩] w (RetC (m ++ t) w) := by
  rw [hS]
  exact (add_any (feed ones40 m) ⟨t.toArray⟩ w (by rw [str_size]; exact ht) hM.tabs).mono fun _ _ h => ⟨_, by rw [CrcSt, feed_append], by rw [str_to] at h; exact h.1, h.2⟩
theorem val_c {m : List UInt8} {cs : List Value} (hS : CrcSt m cs) (w : World) (_hm : m.length ≤ 1099511627776) (_hM : Mem w) : Calls Tryd.prog 22 #[.agg cs.toArray] w (RetV (.int .i64 (crc m : Int)) w) := by
  rw [hS]; exact value_any _ w
theorem whole_c (l : List UInt8) (a : Option Addr) (n cap : Nat) (w : World) (hrd : Rd w a n cap 1 (byteVals l)) (hn : n ≤ 1000000000000) (hM : Mem w) : Calls Tryd.prog 16 #[.slice a n cap] w (RetV (.int .i64 (crc l : Int)) w) :=
  crc40_any l a n cap w hrd (by omega) hM.tabs

set_option maxRecDepth 20000 in
set_option maxHeartbeats 4000000 in
theorem crcStreams_walk (a1 : Option Addr) (n c1 : Nat) (l : List (List UInt8)) (o : List UInt8) (at_ : Int) (h0 : 0 ≤ at_) (h1 : at_ < 256) (w : World) (hrd : Rd w a1 n c1 1 (bstrVals l)) (hs : ∀ s ∈ l, s.length ≤ 9223372036854775807) (ho63 : o.length ≤ 9223372036854775807) (hM : Mem w) :
    Calls Tryd.prog 4 #[.slice a1 n c1, .string ⟨o.toArray⟩, .int .u8 at_] w (RetBool true w) := by
  have hmax := hrd.lenMax
  have HL := Box.mk (show l.length = n from by have h := hrd.hlen; rw [bstrVals_length] at h; omega)
  have hfew := fun (w : World) (h : Rd w a1 n c1 1 (bstrVals l)) => few_any l a1 n c1 w h (Lib.hid hs)
  have R0 := Box.mk hrd; clear hrd
  cases hf : fewB l
  · rw [hf] at hfew
    go_enter Tryd.func4, Tryd.ntmps4
    go_wp2_with fail
    refine (sanity_any w hM).mono ?_
    rintro e w1 ⟨rfl, hb1⟩
    go_wp2_with fail
    refine (hfew w1 (R0.out.call0 hb1)).mono ?_
    rintro e wq ⟨rfl, rfl⟩
    go_wp2_with fail
    go_ret
    exact ⟨rfl, hb1⟩
  · rw [hf] at hfew
    have hff : l.length ≤ 12 ∧ ∀ s ∈ l, s.length ≤ 400 := of_decide_eq_true hf
    clear hf hs
    by_cases ho : o.length ≤ 400
    · obtain ⟨hn12, h400⟩ := hff
      have hn : n ≤ 12 := by rw [← HL.out]; exact hn12
      have hflat : l.flatten.length ≤ 4800 := by
        have key : ∀ (m : List (List UInt8)), (∀ s ∈ m, s.length ≤ 400) → m.flatten.length ≤ 400 * m.length := by
          intro m
          induction m with
          | nil => intro _; simp
          | cons x m ih => intro h; rw [List.flatten_cons, List.length_append, List.length_cons]; have := h x (by simp); have := ih (fun s hs => h s (by simp [hs])); omega
        have := key l h400; omega
      have hpre : ∀ i, ((l.take i).flatten).length ≤ 4800 := fun i => by
        refine Nat.le_trans ?_ hflat
        conv => rhs; rw [← List.take_append_drop i l, List.flatten_append, List.length_append]
        exact Nat.le_add_right _ _
      obtain ⟨kk, hkk⟩ : ∃ k : Nat, at_ % ((n : Int) + 1) = (k : Int) := ⟨(at_ % ((n : Int) + 1)).toNat, by have := Int.emod_nonneg at_ (show ((n : Int) + 1) ≠ 0 by omega); omega⟩
      have hkn : kk ≤ n := by have := Int.emod_lt_of_pos at_ (show 0 < (n : Int) + 1 by omega); omega
      have HP := Lib.hid hpre
      clear hn12 h400 hflat hpre
      go_enter Tryd.func4, Tryd.ntmps4
      go_wp2_with fail
      refine (sanity_any w hM).mono ?_
      rintro e w1 ⟨rfl, hb1⟩
      go_wp2_with fail
      refine (hfew w1 (R0.out.call0 hb1)).mono ?_
      rintro e wq ⟨rfl, rfl⟩
      clear hfew
      go_wp2_with fail
      simp only [hkk]
      refine (begin_c w1).mono ?_
      rintro e w2 ⟨cs0, S0, rfl, hb2⟩
      have B2 := hb1.call0 (Nat.le_refl _) hb2
      clear hb1 hb2
      have hkk' := Lib.hid hkk; clear hkk
      have b9 := Blk.new (w := w2) (ty := 30) (cs := cs0) (k := w2.heap.size) rfl rfl
      have B3 := B2.new (Nat.le_refl _) (.cells cs0.toArray 30)
      have hg9 := B2.size
      go_wp2_with (first
        | ((with_reducible show wpList _ _ _ _ _ _); refine wpList_alloc (o := ⟨some 9, .alloc 30, _, _, _, _⟩) rfl 30 rfl zero30 (zc := #[.int .u64 0]) rfl ?_)
        | ((with_reducible show wpList _ _ _ _ _ _); refine wpList_store_fresh (o := ⟨none, .store 30 (.tmp 9) (.tmp 32), _, _, _, _⟩) (cs := cs0) rfl 30 _ _ rfl rfl agg30.info rfl rfl rfl S0.len S0.one ?_; generalize w2.alloc (.cells cs0.toArray 30) = w3 at *))
      generalize w2.heap.size = g9 at *
      clear B2
      go_loopw [10] (fun v wr => ∃ (i : Nat) (cs : List Value), i ≤ kk ∧ v = .int .i64 i ∧ CrcSt ((l.take i).flatten) cs ∧ Blk wr g9 30 cs ∧ Below w.heap.size w wr)
        (fun v _ => kk - (intOf v).toNat)
      case atStart => exact ⟨0, cs0, Nat.zero_le _, rfl, S0, b9, B3⟩
      case round =>
        clear b9 B3 S0
        obtain ⟨i, cs, hik, rfl, S, bp, B⟩ := hrel
        by_cases hlt : i < kk
        · obtain ⟨g, off, rfl, hc⟩ := (R0.out.below B (Nat.le_refl _)).strAt i (by rw [HL.out]; omega)
          have hT := Box.mk (show (l.take (i + 1)).flatten = (l.take i).flatten ++ (l[i]'(by rw [HL.out]; omega)) from by rw [List.take_succ_eq_append_getElem (by rw [HL.out]; omega), List.flatten_append]; simp)
          have hle := HP.out (i + 1)
          rw [hT.out, List.length_append] at hle
          generalize (l[i]'(by rw [HL.out]; omega)) = x at *
          have hin : (i : Int) < (n : Int) := by omega
          go_wp2_with fail
          refine wp_region_any (by kernel_rfl) ?_
          (change wpAny _ _ _ _ _ _ _ (World.drew _))
          refine wpAny_take (i := 1) (v := ?_) rfl (by kernel_rfl) (by kernel_rfl) (by kernel_rfl) (fun _ _ _ h => h) (Or.inl ⟨by rfl, ?_⟩) ?_
          rotate_left
          · intro w
            go_simp
            all_goals with_reducible rfl
          refine wpAny_take (i := 2) (v := ?_) rfl (by kernel_rfl) (by kernel_rfl) (by kernel_rfl) (fun _ _ _ h => h) (Or.inl ⟨by rfl, ?_⟩) ?_
          rotate_left
          · intro w
            go_simp
            all_goals with_reducible rfl
          refine wpAny_take (i := 3) (v := ?_) rfl (by kernel_rfl) (by kernel_rfl) (by kernel_rfl) (fun _ _ _ h => h) (Or.inl ⟨by rfl, ?_⟩) ?_
          rotate_left
          · intro w
            go_simp
            all_goals with_reducible rfl
          conv =>
            arg 7
            simp [go_sem]
          refine wpAny_ext [0, 4, 5] (fun op v wx => match op with
            | 0 => v = .agg cs.toArray
            | 4 => v = .string ⟨x.toArray⟩
            | _ => ∃ cs', CrcSt ((l.take i).flatten ++ x) cs' ∧ v = .agg cs'.toArray) (by kernel_rfl) (by rfl) ?_ ?_ (fuel := 1) rfl ?_
          · intro i hi
            simp only [List.mem_cons, List.not_mem_nil, or_false] at hi
            rcases hi with rfl | rfl | rfl
            · refine StepOK.mk _ rfl fun a' wx hb hfr hdp K hK' => ?_
              have e9 : a'.tmps.getD 9 undef = .pointer (some ⟨g9, 0, none⟩) := hfr 9 (by decide)
              exact oper_load_agg rfl 30 (.tmp 9) rfl agg30 e9 S.len (bp.drew.below hb (Nat.le_refl _)).agg (hK'.out _ _ rfl (Below.refl _ _))
            · refine StepOK.mk _ rfl fun a' wx hb hfr hdp K hK' => ?_
              have eA : a'.tmps.getD 41 undef = .pointer (some ⟨g, off + i, none⟩) := hfr 41 (by decide)
              exact oper_load1 rfl 9 (.tmp 41) rfl (by kernel_rfl) eA (cell_below hb hc) (hK'.out _ _ rfl (Below.refl _ _))
            · refine StepOK.mk _ rfl fun a' wx hb hfr hdp K hK' => ?_
              have e1 := hdp 0 (by decide) (by kernel_rfl) 38 rfl
              have e2 := hdp 4 (by decide) (by kernel_rfl) 42 rfl
              refine oper_call rfl 20 [.tmp 38, .tmp 42] #[30, 9] rfl (vs := [.agg cs.toArray, .string ⟨x.toArray⟩]) (by show [a'.tmps.getD 38 undef, a'.tmps.getD 42 undef] = _; rw [e1, e2]) Tryd.func20 nm20 bd20 (add_c S x wx (by omega) ((hM.call0 B).drewOn hb)) ?_
              rintro e wy ⟨cs', hS', rfl, hby⟩
              exact ⟨_, rfl, hK'.out _ _ ⟨cs', hS', rfl⟩ hby⟩
          · intro i hi v wx wy hv hb
            simp only [List.mem_cons, List.not_mem_nil, or_false] at hi
            rcases hi with rfl | rfl | rfl <;> exact hv
          · intro vs w5 hv hb5
            obtain ⟨cs5, S5, e5⟩ := hv 5 (by decide)
            conv =>
              arg 7
              simp [go_sem, e5, dstOf]
            generalize vs 0 = v0' at *
            generalize vs 4 = v4' at *
            clear hv e5
            have hgp := bp.lt
            have B5 := below_setRow (B.drew.call0 (Nat.le_refl _) hb5) (g := g9) hg9 cs5.toArray
            have bp5 := bp.drew.call0 hb5
            have bp6 := bp5.row cs5
            refine wpAny_ready (rs := [6]) (by kernel_rfl) (by simp) (AllReady.cons rfl (fun K hK' => oper_store_row (by rfl) 30 (.tmp 9) (.tmp 43) rfl rfl agg30.info bp5 S.len rfl (cs := cs5) rfl S5.len S5.one (hK' _ _ ?_)) AllReady.nil)
            refine wpAny_done (by kernel_rfl) ?_ _
            clear hK' K bp bp5 B hb5
            go_wp2_with fail
            go_roundw
            case rel => exact ⟨i + 1, cs5, by omega, by go_num, by rw [hT.out]; exact S5, bp6, B5⟩
            case measure => simp [intOf]; omega
        · have hik' : i = kk := by omega
          subst hik'
          have b11 := Blk.new (w := wr) (ty := 30) (cs := cs) (k := wr.heap.size) rfl rfl
          have b9 := bp.alloc (.cells cs.toArray 30)
          have B4 := B.new (Nat.le_refl _) (.cells cs.toArray 30)
          have hg11 := bp.lt
          have Sk := S
          go_wp2_with (first
            | ((with_reducible show wpList _ _ _ _ _ _); refine wpList_load_agg (o := ⟨some 44, _, _, _, _, _⟩) rfl 30 _ rfl agg30 rfl (cs := cs) S.len bp.agg ?_)
            | ((with_reducible show wpList _ _ _ _ _ _); refine wpList_alloc (o := ⟨some 11, .alloc 30, _, _, _, _⟩) rfl 30 rfl zero30 (zc := #[.int .u64 0]) rfl ?_)
            | ((with_reducible show wpList _ _ _ _ _ _); refine wpList_store_fresh (o := ⟨none, .store 30 (.tmp 11) (.tmp 44), _, _, _, _⟩) (cs := cs) rfl 30 _ _ rfl rfl agg30.info rfl rfl rfl S.len S.one ?_; generalize wr.alloc (.cells cs.toArray 30) = w4 at *))
          generalize wr.heap.size = g11 at *
          clear bp B
          go_loopw [12] (fun v wr => ∃ (j : Nat) (cs2 : List Value), i ≤ j ∧ j ≤ n ∧ v = .int .i64 j ∧ CrcSt ((l.take j).flatten) cs2 ∧ Blk wr g9 30 cs2 ∧ Blk wr g11 30 cs ∧ Below w.heap.size w wr)
            (fun v _ => n - (intOf v).toNat)
          case atStart => exact ⟨i, cs, Nat.le_refl _, hkn, rfl, S, b9, b11, B4⟩
          case round =>
            clear b9 b11 B4 S
            obtain ⟨j, cs2, hij, hjn, rfl, S, bp, bq, B⟩ := hrel
            by_cases hlt : j < n
            · obtain ⟨g, off, rfl, hc⟩ := (R0.out.below B (Nat.le_refl _)).strAt j (by rw [HL.out]; omega)
              have hT := Box.mk (show (l.take (j + 1)).flatten = (l.take j).flatten ++ (l[j]'(by rw [HL.out]; omega)) from by rw [List.take_succ_eq_append_getElem (by rw [HL.out]; omega), List.flatten_append]; simp)
              have hle := HP.out (j + 1)
              rw [hT.out, List.length_append] at hle
              generalize (l[j]'(by rw [HL.out]; omega)) = x at *
              have hin : (j : Int) < (n : Int) := by omega
              go_wp2_with fail
              refine wp_region_any (by kernel_rfl) ?_
              (change wpAny _ _ _ _ _ _ _ (World.drew _))
              refine wpAny_take (i := 1) (v := ?_) rfl (by kernel_rfl) (by kernel_rfl) (by kernel_rfl) (fun _ _ _ h => h) (Or.inl ⟨by rfl, ?_⟩) ?_
              rotate_left
              · intro w
                go_simp
                all_goals with_reducible rfl
              refine wpAny_take (i := 2) (v := ?_) rfl (by kernel_rfl) (by kernel_rfl) (by kernel_rfl) (fun _ _ _ h => h) (Or.inl ⟨by rfl, ?_⟩) ?_
              rotate_left
              · intro w
                go_simp
                all_goals with_reducible rfl
              refine wpAny_take (i := 3) (v := ?_) rfl (by kernel_rfl) (by kernel_rfl) (by kernel_rfl) (fun _ _ _ h => h) (Or.inl ⟨by rfl, ?_⟩) ?_
              rotate_left
              · intro w
                go_simp
                all_goals with_reducible rfl
              conv =>
                arg 7
                simp [go_sem]
              refine wpAny_ext [0, 4, 5] (fun op v wx => match op with
                | 0 => v = .agg cs2.toArray
                | 4 => v = .string ⟨x.toArray⟩
                | _ => ∃ cs', CrcSt ((l.take j).flatten ++ x) cs' ∧ v = .agg cs'.toArray) (by kernel_rfl) (by rfl) ?_ ?_ (fuel := 1) rfl ?_
              · intro i hi
                simp only [List.mem_cons, List.not_mem_nil, or_false] at hi
                rcases hi with rfl | rfl | rfl
                · refine StepOK.mk _ rfl fun a' wx hb hfr hdp K hK' => ?_
                  have e9 : a'.tmps.getD 9 undef = .pointer (some ⟨g9, 0, none⟩) := hfr 9 (by decide)
                  exact oper_load_agg rfl 30 (.tmp 9) rfl agg30 e9 S.len (bp.drew.below hb (Nat.le_refl _)).agg (hK'.out _ _ rfl (Below.refl _ _))
                · refine StepOK.mk _ rfl fun a' wx hb hfr hdp K hK' => ?_
                  have eA : a'.tmps.getD 55 undef = .pointer (some ⟨g, off + j, none⟩) := hfr 55 (by decide)
                  exact oper_load1 rfl 9 (.tmp 55) rfl (by kernel_rfl) eA (cell_below hb hc) (hK'.out _ _ rfl (Below.refl _ _))
                · refine StepOK.mk _ rfl fun a' wx hb hfr hdp K hK' => ?_
                  have e1 := hdp 0 (by decide) (by kernel_rfl) 52 rfl
                  have e2 := hdp 4 (by decide) (by kernel_rfl) 56 rfl
                  refine oper_call rfl 20 [.tmp 52, .tmp 56] #[30, 9] rfl (vs := [.agg cs2.toArray, .string ⟨x.toArray⟩]) (by show [a'.tmps.getD 52 undef, a'.tmps.getD 56 undef] = _; rw [e1, e2]) Tryd.func20 nm20 bd20 (add_c S x wx (by omega) ((hM.call0 B).drewOn hb)) ?_
                  rintro e wy ⟨cs', hS', rfl, hby⟩
                  exact ⟨_, rfl, hK'.out _ _ ⟨cs', hS', rfl⟩ hby⟩
              · intro i hi v wx wy hv hb
                simp only [List.mem_cons, List.not_mem_nil, or_false] at hi
                rcases hi with rfl | rfl | rfl <;> exact hv
              · intro vs w5 hv hb5
                obtain ⟨cs5, S5, e5⟩ := hv 5 (by decide)
                conv =>
                  arg 7
                  simp [go_sem, e5, dstOf]
                generalize vs 0 = v0' at *
                generalize vs 4 = v4' at *
                clear hv e5
                have hgp := bp.lt
                have bq5 := (bq.drew.call0 hb5).rowOther (k := g9) (by omega) cs5.toArray
                have B5 := below_setRow (B.drew.call0 (Nat.le_refl _) hb5) (g := g9) hg9 cs5.toArray
                have bp5 := bp.drew.call0 hb5
                have bp6 := bp5.row cs5
                refine wpAny_ready (rs := [6]) (by kernel_rfl) (by simp) (AllReady.cons rfl (fun K hK' => oper_store_row (by rfl) 30 (.tmp 9) (.tmp 57) rfl rfl agg30.info bp5 S.len rfl (cs := cs5) rfl S5.len S5.one (hK' _ _ ?_)) AllReady.nil)
                refine wpAny_done (by kernel_rfl) ?_ _
                clear hK' K bp bp5 B hb5
                go_wp2_with fail
                go_roundw
                case rel => exact ⟨j + 1, cs5, by omega, by omega, by go_num, by rw [hT.out]; exact S5, bp6, bq5, B5⟩
                case measure => simp [intOf]; omega
            · have hjn' : j = n := by omega
              subst hjn'
              have hall := Box.mk (show (l.take j).flatten = l.flatten from by rw [List.take_of_length_le (by rw [HL.out]; exact Nat.le_refl _)])
              rw [hall.out] at S
              have hPk := HP.out i
              have hPn := HP.out j
              rw [hall.out] at hPn
              have R5 := Box.mk (R0.out.below B (Nat.le_refl _))
              have M5 := hM.call0 B
              have hz5 := B.size
              go_wp2_with (first
                | ((with_reducible show wpList _ _ _ _ _ _); refine wpList_load_agg (o := ⟨some 58, _, _, _, _, _⟩) rfl 30 _ rfl agg30 rfl (cs := cs) Sk.len bq.agg ?_))
              refine (add_c Sk o wr (by omega) M5).mono ?_
              rintro e w6 ⟨cs6, S6, rfl, hb6⟩
              have bp6 := bp.call0 hb6
              have bq6 := bq.call0 hb6
              have B6 := B.call0 (Nat.le_refl _) hb6
              have R6 := Box.mk (R5.out.call0 hb6)
              clear bp bq B R5 M5 hb6 hz5
              have b13 := Blk.new (w := w6) (ty := 30) (cs := cs6) (k := w6.heap.size) rfl rfl
              have bp7 := bp6.alloc (.cells cs6.toArray 30)
              have bq7 := bq6.alloc (.cells cs6.toArray 30)
              have B7 := B6.new (Nat.le_refl _) (.cells cs6.toArray 30)
              have R7 := Box.mk (R6.out.alloc (.cells cs6.toArray 30))
              clear bp6 bq6 B6 R6
              go_wp2_with (first
                | ((with_reducible show wpList _ _ _ _ _ _); refine wpList_alloc (o := ⟨some 13, .alloc 30, _, _, _, _⟩) rfl 30 rfl zero30 (zc := #[.int .u64 0]) rfl ?_)
                | ((with_reducible show wpList _ _ _ _ _ _); refine wpList_store_fresh (o := ⟨none, .store 30 (.tmp 13) (.tmp 60), _, _, _, _⟩) (cs := cs6) rfl 30 _ _ rfl rfl agg30.info rfl rfl rfl S6.len S6.one ?_; generalize w6.alloc (.cells cs6.toArray 30) = w7 at *))
              generalize w6.heap.size = g13 at *
              refine (joined_any l a1 j c1 w7 R7.out (by omega)).mono ?_
              rintro e wq ⟨rfl, rfl⟩
              go_wp2_with ((with_reducible show wpList _ _ _ _ _ _); refine wpList_slice_rd (o := ⟨some 65, _, _, _, _, _⟩) rfl 26 (.tmp 63) none (some (.tmp 64)) none rfl sl26 rfl R7.out none (some (i : Int)) none rfl rfl rfl 0 i c1 rfl rfl rfl (by intro h; cases h) (Nat.zero_le _) hkn (by have := R7.out.hcap; omega) (Nat.le_refl _) ?_; intro a8 r8 _; rw [Nat.sub_zero, Nat.sub_zero, Nat.zero_mul, List.drop_zero, Nat.mul_one, bstr_take] at r8; rw [Nat.sub_zero, Nat.sub_zero])
              refine (joined_any (l.take i) a8 i c1 w7 r8 (by omega)).mono ?_
              rintro e wq ⟨rfl, rfl⟩
              clear R7 r8
              have happ := bytes_app (l.take i).flatten o
              have hPo : ((l.take i).flatten ++ o).length ≤ 5200 := by rw [List.length_append]; omega
              generalize hwhole : l.flatten = W at *
              generalize hhead : (l.take i).flatten = H at *
              clear hwhole hhead
              generalize H ++ o = HO at *
              go_wp2_with ((with_reducible show wpList _ _ _ _ _ _); refine wpList_load_agg (o := ⟨some 69, _, _, _, _, _⟩) rfl 30 _ rfl agg30 rfl (cs := cs2) S.len bp7.agg ?_)
              have M7 := hM.call0 B7
              refine (val_c S w7 (by omega) M7).mono ?_
              rintro e w8 ⟨rfl, hb8⟩
              have B8 := B7.call0 (Nat.le_refl _) hb8
              have bq8 := bq7.call0 hb8
              have b8 := b13.call0 hb8
              clear B7 bp7 bq7 b13 hb8 M7
              go_wp2_with ((with_reducible show wpList _ _ _ _ _ _); refine wpList_str_bytes (o := ⟨some 72, _, _, _, _, _⟩) rfl 9 22 (.tmp 71) rfl u9 sl22.ht u5' (l := W) (by unfold maxLen; omega) rfl ?_; intro a9 d9 w9 R9 hb9)
              have B9 := B8.call0 (Nat.le_refl _) hb9
              have bq9 := bq8.call0 hb9
              have b9' := b8.call0 hb9
              clear B8 bq8 b8 hb9
              refine (whole_c W a9 W.length d9 w9 R9 (by omega) (hM.call0 B9)).mono ?_
              rintro e w10 ⟨rfl, hb10⟩
              have B10 := B9.call0 (Nat.le_refl _) hb10
              have bq10 := bq9.call0 hb10
              have b10 := b9'.call0 hb10
              clear B9 bq9 b9' hb10 R9
              go_wp2_with (first
                | ((with_reducible show wpList _ _ _ _ _ _); refine wpList_load_agg (o := ⟨some 77, _, _, _, _, _⟩) rfl 30 _ rfl agg30 rfl (cs := cs) Sk.len bq10.agg ?_))
              refine (val_c Sk w10 (by omega) (hM.call0 B10)).mono ?_
              rintro e w11 ⟨rfl, hb11⟩
              have B11 := B10.call0 (Nat.le_refl _) hb11
              have b11 := b10.call0 hb11
              clear B10 bq10 b10 hb11
              go_wp2_with ((with_reducible show wpList _ _ _ _ _ _); refine wpList_str_bytes (o := ⟨some 80, _, _, _, _, _⟩) rfl 9 22 (.tmp 79) rfl u9 sl22.ht u5' (l := H) (by unfold maxLen; omega) rfl ?_; intro a12 d12 w12 R12 hb12)
              have B12 := B11.call0 (Nat.le_refl _) hb12
              have b12 := b11.call0 hb12
              clear B11 b11 hb12
              refine (whole_c H a12 H.length d12 w12 R12 (by omega) (hM.call0 B12)).mono ?_
              rintro e w13 ⟨rfl, hb13⟩
              have B13 := B12.call0 (Nat.le_refl _) hb13
              have b13 := b12.call0 hb13
              clear B12 b12 hb13 R12
              go_wp2_with (first
                | ((with_reducible show wpList _ _ _ _ _ _); refine wpList_load_agg (o := ⟨some 85, _, _, _, _, _⟩) rfl 30 _ rfl agg30 rfl (cs := cs6) S6.len b13.agg ?_))
              refine (val_c S6 w13 (by omega) (hM.call0 B13)).mono ?_
              rintro e w14 ⟨rfl, hb14⟩
              have B14 := B13.call0 (Nat.le_refl _) hb14
              clear B13 b13 hb14
              go_wp2_with ((with_reducible show wpList _ _ _ _ _ _); refine wpList_str_bytes (o := ⟨some 90, _, _, _, _, _⟩) rfl 9 22 (.tmp 89) rfl u9 sl22.ht u5' (l := HO) (by unfold maxLen; omega) rfl ?_; intro a15 d15 w15 R15 hb15)
              have B15 := B14.call0 (Nat.le_refl _) hb15
              clear B14 hb15
              refine (whole_c HO a15 HO.length d15 w15 R15 (by omega) (hM.call0 B15)).mono ?_
              rintro e w16 ⟨rfl, hb16⟩
              have B16 := B15.call0 (Nat.le_refl _) hb16
              clear B15 hb16 R15
              go_wp2_with fail
              go_ret
              exact ⟨rfl, B16⟩
    · have ho' : 400 < o.length := by omega
      go_enter Tryd.func4, Tryd.ntmps4
      go_wp2_with fail
      refine (sanity_any w hM).mono ?_
      rintro e w1 ⟨rfl, hb1⟩
      go_wp2_with fail
      refine (hfew w1 (R0.out.call0 hb1)).mono ?_
      rintro e wq ⟨rfl, rfl⟩
      go_wp2_with fail
      go_ret
      exact ⟨rfl, hb1⟩
end Go.Proofs.YtcngnpkpaliflaaDoor
