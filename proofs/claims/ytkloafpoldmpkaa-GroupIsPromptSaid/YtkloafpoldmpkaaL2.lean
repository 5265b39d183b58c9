/-
  The walk of GroupIsPrompt: it returns true and keeps what was there. No condition.
-/
import Derived.Test.YtkloafpoldmpkaaCalm
import Derived.Test.YtkloafpoldmpkaaImap2
namespace Go.Proofs.Ytkloafpoldmpkaa
open Go.RowKit

theorem ty39 : Try.prog.underlying 39 = some (.map 3 3) := by kernel_rfl
theorem zero3 (w : World) : (zeroValue 3).run Try.prog w = .ok (.int .i64 0) w := by kernel_rfl

set_option maxRecDepth 20000 in
set_option maxHeartbeats 8000000 in
theorem prompt_walk (most room delay : Int) (a : Option Addr) (n cap : Nat) (ws : List Int) (w : World) (hrd : Rd w a n cap 1 (intVals ws)) :
    Calls Try.prog 4 #[.int .i64 most, .int .i64 room, .int .i64 delay, .slice a n cap] w (RetBool true w) := by
  have hmax := hrd.lenMax
  have hln := Box.mk hrd.ilen
  have HR := Box.mk hrd; clear hrd
  have HC := Box.mk (begun_own (Own.start w) most room delay)
  have hm0 : 0 ≤ most % 16 ∧ most % 16 ≤ 15 := by omega
  have hr0 : 0 ≤ room % 256 ∧ room % 256 ≤ 255 := by omega
  have hd0 : 0 ≤ delay % 32 ∧ delay % 32 ≤ 31 := by omega
  generalize most % 16 = mm at *
  generalize room % 256 = rr at *
  generalize delay % 32 = dd at *
  obtain ⟨hm1, hm2⟩ := hm0
  obtain ⟨hr1, hr2⟩ := hr0
  obtain ⟨hd1, hd2⟩ := hd0
  by_cases h60 : 60 < n
  · go_enter Try.func4, Try.ntmps4
    go_wp2_with fail
    refine HC.out.mono ?_
    rintro e w1 ⟨g, rfl, O1, B1⟩
    go_wp2_with fail
    refine (sanity_own O1).mono ?_
    rintro e w3 ⟨rfl, O3, B3⟩
    replace B3 := B1.trans B3
    go_wp2_with fail
    go_ret
    exact ⟨rfl, B3⟩
  · have hmm := @run_makeMap Try.prog
    go_enter Try.func4, Try.ntmps4
    go_wp2_with fail
    refine HC.out.mono ?_
    rintro e w1 ⟨g, rfl, O1, B1⟩
    clear HC
    go_wp2_with fail
    have O2 := O1.newMap Try.prog 3 3
    have B2 := B1.alloc O1.base (.map #[] 0)
    replace O2 : Own w.heap.size (w1.alloc (.map #[] 0)) [GrpP g (QX (1 + mm) (1 + rr) dd (fun _ => 1) (fun _ => 0) 0 0), IntMP Try.prog 3 3 w1.heap.size 0 (fun _ => 0)] := O2
    clear O1 B1 hmm
    generalize (w1.alloc (.map #[] 0)) = w2 at *
    generalize w1.heap.size = m at *
    go_loopw [12, 42] (fun vt vi wr => ∃ (i k : Nat) (t : Int) (T : Nat → Int) (f : Int → Int), i ≤ n ∧ k ≤ i ∧ vi = .int .i64 i ∧ vt = .int .i64 t ∧ 0 ≤ t ∧ t ≤ 7 * (i : Int) ∧ (∀ j, j < i → 0 ≤ T j ∧ T j ≤ t) ∧ (∀ j j', j ≤ j' → j' < i → T j ≤ T j') ∧ (∀ j : Nat, j < i → f (j : Int) = T j) ∧
      Own w.heap.size wr [GrpP g (QX (1 + mm) (1 + rr) dd (fun _ => 1) T k i), IntMP Try.prog 3 3 m i f] ∧ Below w.heap.size w wr) (fun _ vi _ => n - (intOf vi).toNat)
    case atStart => exact ⟨0, 0, 0, fun _ => 0, fun _ => 0, Nat.zero_le _, Nat.le_refl _, rfl, rfl, by omega, by simp, fun j h => by omega, fun j j' h1 h2 => by omega, fun j h => by omega, O2, B2⟩
    case round =>
      clear O2 B2
      obtain ⟨i, k, t, T, f, hi, hk, rfl, rfl, ht0, ht1, hT1, hT2, hf, O, BW⟩ := hrel
      have HT1 := Box.mk hT1; have HT2 := Box.mk hT2; have HF := Box.mk hf
      clear hT1 hT2 hf
      by_cases hl : i < n
      · obtain ⟨bw, off, rfl, hc⟩ := (HR.out.below BW (Nat.le_refl _)).intAtD i hl
        have m2 := i64_and7 (ws.getD i 0)
        have hy0 : 0 ≤ ws.getD i 0 % 8 := by omega
        have hy1 : ws.getD i 0 % 8 ≤ 7 := by omega
        generalize ws.getD i 0 % 8 = y at *
        generalize ws.getD i 0 = x at *
        go_wp2_with fail
        clear hc m2
        obtain ⟨wo, rfl⟩ : ∃ wo : World, wo = wr := ⟨_, rfl⟩
        go_loopw [12, 49] (fun vt vc wx => ∃ (c k : Nat), (c : Int) ≤ y ∧ k ≤ i ∧ vc = .int .i64 c ∧ vt = .int .i64 (t + c) ∧ Own w.heap.size wx [GrpP g (QX (1 + mm) (1 + rr) dd (fun _ => 1) T k i), IntMP Try.prog 3 3 m i f] ∧ Below w.heap.size w wx) (fun _ vc _ => y.toNat - (intOf vc).toNat)
        case atStart => exact ⟨0, k, by omega, hk, rfl, by simp, O, BW⟩
        case round =>
          clear O BW hk
          obtain ⟨c, k, hc, hk, rfl, rfl, O, BW⟩ := hrel
          by_cases hcy : (c : Int) < y
          · have hCa := Box.mk (calm_own O 0 rfl hk (by omega) (t + c + 1))
            go_wp2_with fail
            refine hCa.out.mono ?_
            rintro e w3 ⟨k', h1, h2, rfl, hdue, O3, B3⟩
            replace B3 := BW.trans B3
            replace O3 : Own w.heap.size w3 [GrpP g (QX (1 + mm) (1 + rr) dd (fun _ => 1) T k' i), IntMP Try.prog 3 3 m i f] := O3
            clear hCa hdue O BW
            go_wp2_with fail
            go_roundw
            case rel => exact ⟨c + 1, k', by omega, h2, by go_num, by first | rfl | (congr 1; push_cast; omega), O3, B3⟩
            case measure => simp [intOf]; omega
          · have hcy' : (c : Int) = y := by omega
            obtain ⟨t1, ht1e⟩ : ∃ t1, t1 = t + (c : Int) := ⟨_, rfl⟩
            have hta : t ≤ t1 := by omega
            have htb : t1 ≤ 7 * (i : Int) + 7 := by omega
            obtain ⟨T', hT'⟩ : ∃ T' : Nat → Int, T' = fun j => if j = i then t1 else T j := ⟨_, rfl⟩
            have HT' := Box.mk hT'; clear hT'
            have hcg := QX_congr (mo := 1 + mm) (ro := 1 + rr) (de := dd) (W := fun _ => 1) (k := k) (i := i) (T := T) (T' := T') (fun j hj => by rw [HT'.out]; simp; omega)
            rw [hcg] at O
            clear hcg
            have hTi : T' i = t1 := by rw [HT'.out]; simp
            obtain ⟨w3, hrun, hM3, hturn⟩ := (O.intM 1 rfl).store ty3 ty3 ty39 (x := (i : Int)) (v := t1) (by unfold In64; omega) (by unfold In64; omega) (by unfold maxLen; omega)
            obtain ⟨O3, B3⟩ := O.mapSet 1 rfl hM3 hturn
            replace O3 : Own w.heap.size w3 [GrpP g (QX (1 + mm) (1 + rr) dd (fun _ => 1) T' k i), IntMP Try.prog 3 3 m (i + 1) (fun y => if y = (i : Int) then t1 else f y)] := O3
            replace B3 := BW.trans B3
            have hAsk := QX_ask (mo := 1 + mm) (ro := 1 + rr) (de := dd) (W := fun _ => 1) (T := T') (k := k) (i := i) hk (by omega) (by omega) (by omega) (by rw [hTi]; omega) (by rw [hTi]; omega)
            rw [hTi] at hAsk
            have hA := Box.mk (ask_to O3 0 rfl (i : Int) 1 t1 hAsk (by unfold In64; omega))
            have HTi := Box.mk hTi
            have HT1e := Box.mk ht1e
            clear hAsk hTi hM3 hturn O BW hcy' ht1e
            rw [← HT1e.out]
            go_wp2_with fail
            refine hA.out.mono ?_
            rintro e w4 ⟨rfl, O4, B4⟩
            replace O4 : Own w.heap.size w4 [GrpP g (QX (1 + mm) (1 + rr) dd (fun _ => 1) T' k (i + 1)), IntMP Try.prog 3 3 m (i + 1) (fun y => if y = (i : Int) then t1 else f y)] := O4
            replace B4 := B3.trans B4
            clear hA O3 B3 hrun
            have hCa := Box.mk (calm_own O4 0 rfl (by omega) (by omega) t1)
            go_wp2_with fail
            refine hCa.out.mono ?_
            rintro e w5 ⟨k', h1, h2, rfl, hdue, O5, B5⟩
            replace B5 := B4.trans B5
            replace O5 : Own w.heap.size w5 [GrpP g (QX (1 + mm) (1 + rr) dd (fun _ => 1) T' k' (i + 1)), IntMP Try.prog 3 3 m (i + 1) (fun y => if y = (i : Int) then t1 else f y)] := O5
            clear hCa O4 B4
            have HD := Box.mk hdue; clear hdue
            have hF2 : ∀ j : Nat, j < i + 1 → (fun y => if y = (i : Int) then t1 else f y) (j : Int) = T' j := fun j hj => by
              simp only [HT'.out]
              by_cases e : j = i
              · subst e; simp
              · rw [if_neg (by omega), if_neg e, HF.out j (by omega)]
            have hT2 : ∀ j j', j ≤ j' → j' < i + 1 → T' j ≤ T' j' := fun j j' h1 h2 => by
              simp only [HT'.out]
              by_cases e : j' = i
              · subst e
                rw [if_pos rfl]
                by_cases e2 : j = j'
                · rw [if_pos e2]; exact Int.le_refl _
                · rw [if_neg e2]; have := (HT1.out j (by omega)).2; omega
              · rw [if_neg e, if_neg (by omega)]; exact HT2.out j j' h1 (by omega)
            have hT1 : ∀ j, j < i + 1 → 0 ≤ T' j ∧ T' j ≤ t1 := fun j hj => by
              simp only [HT'.out]
              by_cases e : j = i
              · rw [if_pos e]; omega
              · rw [if_neg e]; have := HT1.out j (by omega); omega
            have HF2 := Box.mk hF2; have HT2' := Box.mk hT2; have HT1' := Box.mk hT1
            clear hF2 hT2 hT1 HT1 HT2 HF
            generalize (fun y => if y = (i : Int) then t1 else f y) = f2 at *
            have hWt := Box.mk (waiting_own O5 0 rfl)
            rw [QX_txs] at hWt
            generalize hxs : ((List.range (i + 1)).drop k').map (fun (j : Nat) => (j : Int)) = xs at *
            have HX := Box.mk hxs; clear hxs
            have hxl := Box.mk (show xs.length = i + 1 - k' from by rw [← HX.out]; simp)
            go_wp2_with fail
            refine hWt.out.mono ?_
            rintro e w6 ⟨a6, c6, rfl, O6, B6⟩
            replace B6 := B5.trans B6
            replace O6 : Own w.heap.size w6 [GrpP g (QX (1 + mm) (1 + rr) dd (fun _ => 1) T' k' (i + 1)), IntMP Try.prog 3 3 m (i + 1) f2, RowP 3 1 a6 xs.length c6 (intVals xs)] := O6
            clear hWt O5 B5
            have hRw := Rd.ofOwn (O6.row 2 rfl)
            have hRmax := hRw.lenMax
            have HRw := Box.mk hRw; clear hRw
            go_wp2_with fail
            have hlook := Box.mk (fun (x : Int) (hx : In64 x) => (O6.intM 1 rfl).look ty3 ty3 ty39 zero3 hx)
            replace O6 := O6.drop 2
            replace O6 : Own w.heap.size w6 [GrpP g (QX (1 + mm) (1 + rr) dd (fun _ => 1) T' k' (i + 1)), IntMP Try.prog 3 3 m (i + 1) f2] := O6
            go_loopw [75] (fun vc wx => ∃ c : Nat, c ≤ xs.length ∧ vc = .int .i64 c ∧ wx = w6) (fun vc _ => xs.length - (intOf vc).toNat)
            case atStart => exact ⟨0, Nat.zero_le _, rfl, rfl⟩
            case round =>
              obtain ⟨c, hcl, rfl, rfl⟩ := hrel
              by_cases hcx : c < xs.length
              · obtain ⟨b6, o6, rfl, hcell⟩ := HRw.out.intAtD c hcx
                have hx0 : xs.getD c 0 = ((k' + c : Nat) : Int) := by
                  rw [List.getD_eq_getElem?_getD, List.getElem?_eq_getElem hcx]
                  simp only [← HX.out]
                  simp
                have hkc : k' + c < i + 1 := by have := hxl.out; omega
                rw [hx0] at hcell
                have hlk := hlook.out ((k' + c : Nat) : Int) (by unfold In64; omega)
                rw [HF2.out (k' + c) hkc] at hlk
                have hTk := HT1'.out (k' + c) hkc
                have hTm := HT2'.out k' (k' + c) (by omega) hkc
                have hno : ¬ (T' k' + dd ≤ t1) := fun h => by
                  have := QX_due_old (mo := 1 + mm) (ro := 1 + rr) (de := dd) (W := fun _ => 1) (T := T') (k := k') (i := i + 1) (by omega) t1 h
                  rw [HD.out] at this; cases this
                have hdec : decide (T' (k' + c) + dd ≤ t1) = false := decide_eq_false (by omega)
                generalize T' (k' + c) = tk at *
                obtain ⟨hTk1, hTk2⟩ := hTk
                clear hx0 hno hTm
                generalize ((k' + c : Nat) : Int) = kc at *
                go_wp2_with fail
                go_roundw
                case rel => exact ⟨c + 1, by omega, by go_num, trivial⟩
                case measure => simp [intOf]; omega
              · go_wp2_with fail
                go_roundw
                case rel => exact ⟨i + 1, k', t1, T', f2, by omega, by omega, by go_num, rfl, by omega, by push_cast; omega, HT1'.out, HT2'.out, HF2.out, O6, B6⟩
                case measure => simp [intOf]; omega
      · obtain rfl : i = n := by omega
        go_wp2_with fail
        refine (sanity_own O).mono ?_
        rintro e w4 ⟨rfl, O4, B4⟩
        replace B4 := BW.trans B4
        go_wp2_with fail
        go_ret
        exact ⟨rfl, B4⟩
end Go.Proofs.Ytkloafpoldmpkaa
