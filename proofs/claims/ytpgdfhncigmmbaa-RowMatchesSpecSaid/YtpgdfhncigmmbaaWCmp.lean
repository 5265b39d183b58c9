/-
  The walks of strings.Compare, cmp.Or at three numbers, and value.Compare. No condition.
-/
import Derived.Test.YtpgdfhncigmmbaaWDec
import Derived.Lib.Bytealg
import Derived.Lib.Walk
namespace Go.Proofs.Ytpgdfhncigmmbaa
open Go.RowKit

theorem cb_zero : ∀ (a b : List UInt8), Lib.compareBytes a b = 0 ↔ a = b
  | [], [] => by simp [Lib.compareBytes]
  | [], _ :: _ => by simp [Lib.compareBytes]
  | _ :: _, [] => by simp [Lib.compareBytes]
  | x :: a, y :: b => by
    unfold Lib.compareBytes
    by_cases h1 : x < y
    · rw [if_pos h1]
      have : x ≠ y := fun e => by subst e; exact UInt8.lt_irrefl _ h1
      simp [this]
    · rw [if_neg h1]
      by_cases h2 : y < x
      · rw [if_pos h2]
        have : x ≠ y := fun e => by subst e; exact UInt8.lt_irrefl _ h2
        simp [this]
      · rw [if_neg h2]
        have : x = y := UInt8.le_antisymm (UInt8.not_lt.1 h2) (UInt8.not_lt.1 h1)
        rw [cb_zero a b]; simp [this]

set_option maxRecDepth 100000 in
set_option maxHeartbeats 2000000 in
theorem cmpStr1_any (a b : List UInt8) (w : World) : Calls Try.prog 87 #[.string ⟨a.toArray⟩, .string ⟨b.toArray⟩] w fun e w' => e = .returned (.int .i64 (Lib.compareBytes a b)) ∧ w' = w := by
  go_enter Try.func87, Try.ntmps87
  go_wp2_with fail
  rw [run_callFunc_extern Try.func94 (by kernel_rfl) (by kernel_rfl) (by kernel_rfl) (e := Extern.BytealgCompare.compare) (by kernel_rfl), Lib.run_compareString]
  simp only [Result.andThen]
  rw [Oper.upon_value]
  go_wp2_with fail
  go_ret
  exact ⟨rfl, rfl⟩
set_option maxRecDepth 20000 in
theorem cmpStr_any (a b : List UInt8) (w : World) : Calls Try.prog 72 #[.string ⟨a.toArray⟩, .string ⟨b.toArray⟩] w fun e w' => e = .returned (.int .i64 (Lib.compareBytes a b)) ∧ w' = w := by
  have HC := Box.mk (cmpStr1_any a b w)
  go_enter Try.func72, Try.ntmps72
  go_wp2_with fail
  refine HC.out.mono ?_
  rintro e w1 ⟨rfl, rfl⟩
  go_wp2_with fail
  go_ret
  exact ⟨rfl, rfl⟩
def or3I (p q r : Int) : Int := if p = 0 then (if q = 0 then r else q) else p
set_option maxRecDepth 20000 in
set_option maxHeartbeats 2000000 in
theorem or3_any (p q r : Int) (w : World) (g : Nat) (hb : Blk w g 3 [.int .i64 p, .int .i64 q, .int .i64 r]) : Calls Try.prog 70 #[.slice (some ⟨g, 0, none⟩) 3 3] w fun e w' => e = .returned (.int .i64 (or3I p q r)) ∧ w' = w := by
  have HB := Box.mk hb
  obtain ⟨L, hL⟩ : ∃ L : List Int, L = [p, q, r] := ⟨_, rfl⟩
  have hLL : L.length = 3 := by rw [hL]; rfl
  have HBL := Box.mk (show ∀ k, k < 3 → w.cell? ⟨g, k, none⟩ = some (.int .i64 (L.getD k 0)) from fun k hk => by
    subst hL
    match k, hk with
    | 0, _ => exact hb.cellOf rfl
    | 1, _ => exact hb.cellOf rfl
    | 2, _ => exact hb.cellOf rfl)
  have HR := Box.mk (show ∀ k, k < 3 → (∀ j, j < k → L.getD j 0 = 0) → L.getD k 0 ≠ 0 → or3I p q r = L.getD k 0 from fun k hk h0 h1 => by
    subst hL
    unfold or3I
    match k, hk with
    | 0, _ => rw [if_neg (show p ≠ 0 from h1)]; rfl
    | 1, _ => rw [if_pos (show p = 0 from h0 0 (by omega)), if_neg (show q ≠ 0 from h1)]; rfl
    | 2, _ => rw [if_pos (show p = 0 from h0 0 (by omega)), if_pos (show q = 0 from h0 1 (by omega))]; rfl)
  have HZ := Box.mk (show (∀ j, j < 3 → L.getD j 0 = 0) → or3I p q r = 0 from fun h0 => by
    subst hL
    unfold or3I
    rw [if_pos (show p = 0 from h0 0 (by omega)), if_pos (show q = 0 from h0 1 (by omega))]; exact h0 2 (by omega))
  clear hb HB hL
  generalize or3I p q r = R at *
  go_enter Try.func70, Try.ntmps70
  go_wp2_with fail
  go_loopw [8] (fun i wr => ∃ k : Nat, k ≤ 3 ∧ i = .int .i64 k ∧ Box (∀ j, j < k → L.getD j 0 = 0) ∧ wr = w) (fun i _ => 3 - (intOf i).toNat)
  case atStart => exact ⟨0, by omega, rfl, ⟨fun j h => by omega⟩, rfl⟩
  case round =>
    obtain ⟨k, hk, rfl, H0, rfl⟩ := hrel
    by_cases hlt : k < 3
    · have c0 := HBL.out k hlt
      by_cases e : L.getD k 0 = 0
      · have H1 := Box.mk (show ∀ j, j < k + 1 → L.getD j 0 = 0 from fun j hj => by
          by_cases h : j = k
          · subst h; exact e
          · exact H0.out j (by omega))
        rw [e] at c0
        have b1 : ((0 : Int) != 0) = false := rfl
        clear e
        go_wp2_with fail
        exact ⟨⟨k + 1, by omega, by go_num, H1, trivial⟩, by simp [intOf]; omega⟩
      · have H1 := Box.mk (HR.out k hlt H0.out e)
        have b1 : (L.getD k 0 != 0) = true := by simp only [bne_iff_ne, ne_eq]; exact e
        generalize L.getD k 0 = y at *
        clear e
        go_wp2_with fail
        go_ret
        exact ⟨by rw [H1.out]; rfl, rfl⟩
    · obtain rfl : k = 3 := by omega
      have H1 := Box.mk (HZ.out H0.out)
      go_wp2_with fail
      go_ret
      exact ⟨by rw [H1.out]; rfl, rfl⟩
/-- The order of two values: zero for equal ones alone. -/
def cmpA (x y : Val) : Int := or3I (cmpI x.kind y.kind) (cmpI x.n y.n) (Lib.compareBytes x.s y.s)
theorem cmpI_zero (a b : Int) : cmpI a b = 0 ↔ a = b := by
  unfold cmpI
  by_cases h1 : a < b
  · rw [if_pos h1]; constructor <;> intro h <;> omega
  · rw [if_neg h1]
    by_cases h2 : b < a
    · rw [if_pos h2]; constructor <;> intro h <;> omega
    · rw [if_neg h2]; constructor <;> intro h <;> omega
theorem cmpA_zero (x y : Val) : cmpA x y = 0 ↔ x = y := by
  obtain ⟨a, b, c⟩ := x
  obtain ⟨d, e, f⟩ := y
  unfold cmpA or3I
  simp only
  have h1 := cmpI_zero a d
  have h2 := cmpI_zero b e
  have h3 := cb_zero c f
  by_cases k1 : cmpI a d = 0
  · rw [if_pos k1]
    by_cases k2 : cmpI b e = 0
    · rw [if_pos k2, h3]
      rw [h1] at k1; rw [h2] at k2
      simp [k1, k2]
    · rw [if_neg k2]
      rw [h2] at k2
      simp [k2, h2]
  · rw [if_neg k1]
    rw [h1] at k1
    simp [k1, h1]
theorem nm_cmpStr : (Try.f72.name == "runtime.NumGoroutine") = false := by kernel_rfl
theorem bd_cmpStr : Try.f72.body.isNone = false := by kernel_rfl
theorem oper_lit3 {P : Program} {w : World} {ops : Array Oper} {o : Oper} {a : Act} {K : Act → World → Prop} {Q : Exit → Act → World → Prop} (hgd : Region.wanted o (yielded ops a.tmps) = true) (t : TypeId) (x y z : Operand) (ho : o.op = .buildSlice t 3 #[(0, x), (1, y), (2, z)])
    {e : TypeId} {z0 : Value} {bytes : Nat} (hT : SlT P t e z0 1 bytes) {v u s : Value} (hx : (a.eval x).cells = #[v]) (hy : (a.eval y).cells = #[u]) (hz2 : (a.eval z).cells = #[s])
    (h : K (a.put o.dst (.slice (some ⟨w.heap.size, 0, none⟩) 3 3)) (w.alloc (.cells #[v, u, s] e))) : if Region.wanted o (yielded ops a.tmps) = true then Oper.wp P o a w K Q else K (a.put o.dst undef) w := by
  rw [if_pos hgd]
  obtain ⟨i, hi, hz, hsz, hby⟩ := info_parts hT.info
  have hrun : (Instr.buildSlice t 3 #[(0, a.eval x), (1, a.eval y), (2, a.eval z)]).run P w = .ok (.slice (some ⟨w.heap.size, 0, none⟩) 3 3) (w.alloc (.cells #[v, u, s] e)) := by
    simp [Instr.buildSlice, run_underlying hT.ht, sizeOf, typeInfo, zeroValue, hi, hz, hsz, Instr.fill, hx, hy, hz2, newRow, hT.hz]
    rw [show Array.range 3 = #[0, 1, 2] from rfl]; simp
  unfold Oper.wp execOp
  simp only [ho, List.map_toArray, List.map_cons, List.map_nil, Sem.run_bind, hrun, Result.andThen_ok, Sem.run_pure]
  exact h
set_option maxRecDepth 20000 in
set_option maxHeartbeats 2000000 in
theorem valCmp_any (x y : Val) (w : World) : Calls Try.prog 53 #[x.v, y.v] w (RetV (.int .i64 (cmpA x y)) w) := by
  obtain ⟨kx, nx, sx⟩ := x
  obtain ⟨ky, ny, sy⟩ := y
  have HK := Box.mk (fun w => cmpI_any kx ky w)
  have HI := Box.mk (fun w => cmpI_any nx ny w)
  have HS := Box.mk (fun w => cmpStr_any sx sy w)
  have HO := Box.mk (fun (w : World) (g : Nat) (hb : Blk w g 3 [.int .i64 (cmpI kx ky), .int .i64 (cmpI nx ny), .int .i64 (Lib.compareBytes sx sy)]) => or3_any _ _ _ w g hb)
  show Calls _ _ _ _ (RetV (.int .i64 (or3I (cmpI kx ky) (cmpI nx ny) (Lib.compareBytes sx sy))) w)
  generalize cmpI kx ky = p at *
  generalize cmpI nx ny = q at *
  generalize Lib.compareBytes sx sy = s at *
  generalize or3I p q s = r at *
  unfold Val.v
  have b1 := (Blk.new (w := w) (k := w.heap.size) (ty := 59) (cs := [.int .i64 kx, .int .i64 nx, .string ⟨sx.toArray⟩]) rfl rfl).alloc (.cells #[.int .i64 ky, .int .i64 ny, .string ⟨sy.toArray⟩] 59)
  have b2 := Blk.new (w := w.alloc (.cells #[.int .i64 kx, .int .i64 nx, .string ⟨sx.toArray⟩] 59)) (k := w.heap.size + 1) (ty := 59) (cs := [.int .i64 ky, .int .i64 ny, .string ⟨sy.toArray⟩]) (by simp) rfl
  have B2 := ((Below.refl w.heap.size w).alloc (Nat.le_refl _) (.cells #[.int .i64 kx, .int .i64 nx, .string ⟨sx.toArray⟩] 59)).alloc (by simp) (.cells #[.int .i64 ky, .int .i64 ny, .string ⟨sy.toArray⟩] 59)
  have HS0 : Blk (World.drew _) w.heap.size 59 [.int .i64 kx, .int .i64 nx, .string ⟨sx.toArray⟩] ∧ Blk (World.drew _) (w.heap.size + 1) 59 [.int .i64 ky, .int .i64 ny, .string ⟨sy.toArray⟩] ∧ Below w.heap.size w (World.drew _) := ⟨b1.drew, b2.drew, B2.drew⟩
  clear b1 b2
  go_enter Try.func53, Try.ntmps53
  go_wp2_with fail
  refine wp_region_held_drew (S := fun w' => Blk w' w.heap.size 59 [.int .i64 kx, .int .i64 nx, .string ⟨sx.toArray⟩] ∧ Blk w' (w.heap.size + 1) 59 [.int .i64 ky, .int .i64 ny, .string ⟨sy.toArray⟩] ∧ Below w.heap.size w w') (by kernel_rfl) HS0 (fun _ => ?_)
  refine wpAnyH_take (i := 0) (v := ?_) rfl (by kernel_rfl) (by kernel_rfl) (by kernel_rfl) (fun _ _ _ h => h) (yieldsIf_val (by rfl) (fun w' hS => ?_)) HS0 ?_
  rotate_left
  · skip
    go_simp
    all_goals with_reducible rfl
  conv =>
    arg 8
    simp [go_sem]
  refine wpAnyH_take (i := 1) (v := ?_) rfl (by kernel_rfl) (by kernel_rfl) (by kernel_rfl) (fun _ _ _ h => h) (yieldsIf_val (by rfl) (fun w' hS => ?_)) HS0 ?_
  rotate_left
  · skip
    have e := hS.1.cellOf (i := 0) rfl
    go_simp
    all_goals with_reducible rfl
  conv =>
    arg 8
    simp [go_sem]
  refine wpAnyH_take (i := 2) (v := ?_) rfl (by kernel_rfl) (by kernel_rfl) (by kernel_rfl) (fun _ _ _ h => h) (yieldsIf_val (by rfl) (fun w' hS => ?_)) HS0 ?_
  rotate_left
  · skip
    go_simp
    all_goals with_reducible rfl
  conv =>
    arg 8
    simp [go_sem]
  refine wpAnyH_take (i := 3) (v := ?_) rfl (by kernel_rfl) (by kernel_rfl) (by kernel_rfl) (fun _ _ _ h => h) (yieldsIf_val (by rfl) (fun w' hS => ?_)) HS0 ?_
  rotate_left
  · skip
    have e := hS.2.1.cellOf (i := 0) rfl
    go_simp
    all_goals with_reducible rfl
  conv =>
    arg 8
    simp [go_sem]
  refine wpAnyH_take (i := 5) (v := ?_) rfl (by kernel_rfl) (by kernel_rfl) (by kernel_rfl) (fun _ _ _ h => h) (yieldsIf_val (by rfl) (fun w' hS => ?_)) HS0 ?_
  rotate_left
  · skip
    go_simp
    all_goals with_reducible rfl
  conv =>
    arg 8
    simp [go_sem]
  refine wpAnyH_take (i := 6) (v := ?_) rfl (by kernel_rfl) (by kernel_rfl) (by kernel_rfl) (fun _ _ _ h => h) (yieldsIf_val (by rfl) (fun w' hS => ?_)) HS0 ?_
  rotate_left
  · skip
    have e := hS.1.cellOf (i := 1) rfl
    go_simp
    all_goals with_reducible rfl
  conv =>
    arg 8
    simp [go_sem]
  refine wpAnyH_take (i := 7) (v := ?_) rfl (by kernel_rfl) (by kernel_rfl) (by kernel_rfl) (fun _ _ _ h => h) (yieldsIf_val (by rfl) (fun w' hS => ?_)) HS0 ?_
  rotate_left
  · skip
    go_simp
    all_goals with_reducible rfl
  conv =>
    arg 8
    simp [go_sem]
  refine wpAnyH_take (i := 8) (v := ?_) rfl (by kernel_rfl) (by kernel_rfl) (by kernel_rfl) (fun _ _ _ h => h) (yieldsIf_val (by rfl) (fun w' hS => ?_)) HS0 ?_
  rotate_left
  · skip
    have e := hS.2.1.cellOf (i := 1) rfl
    go_simp
    all_goals with_reducible rfl
  conv =>
    arg 8
    simp [go_sem]
  refine wpAnyH_take (i := 10) (v := ?_) rfl (by kernel_rfl) (by kernel_rfl) (by kernel_rfl) (fun _ _ _ h => h) (yieldsIf_val (by rfl) (fun w' hS => ?_)) HS0 ?_
  rotate_left
  · skip
    go_simp
    all_goals with_reducible rfl
  conv =>
    arg 8
    simp [go_sem]
  refine wpAnyH_take (i := 11) (v := ?_) rfl (by kernel_rfl) (by kernel_rfl) (by kernel_rfl) (fun _ _ _ h => h) (yieldsIf_val (by rfl) (fun w' hS => ?_)) HS0 ?_
  rotate_left
  · skip
    have e := hS.1.cellOf (i := 2) rfl
    go_simp
    all_goals with_reducible rfl
  conv =>
    arg 8
    simp [go_sem]
  refine wpAnyH_take (i := 12) (v := ?_) rfl (by kernel_rfl) (by kernel_rfl) (by kernel_rfl) (fun _ _ _ h => h) (yieldsIf_val (by rfl) (fun w' hS => ?_)) HS0 ?_
  rotate_left
  · skip
    go_simp
    all_goals with_reducible rfl
  conv =>
    arg 8
    simp [go_sem]
  refine wpAnyH_take (i := 13) (v := ?_) rfl (by kernel_rfl) (by kernel_rfl) (by kernel_rfl) (fun _ _ _ h => h) (yieldsIf_val (by rfl) (fun w' hS => ?_)) HS0 ?_
  rotate_left
  · skip
    have e := hS.2.1.cellOf (i := 2) rfl
    go_simp
    all_goals with_reducible rfl
  conv =>
    arg 8
    simp [go_sem]
  conv =>
    arg 8
    simp [go_sem]
  refine wpAnyH_ready (rs := [4]) (by kernel_rfl) (by simp) (AllReadyH.cons rfl (fun K' hK' => oper_call (by rfl) 71 [.tmp 6, .tmp 8] #[3, 3] rfl (vs := [.int .i64 kx, .int .i64 ky]) rfl Try.func71 nm_cmpI bd_cmpI (HK.out _) ?_) AllReadyH.nil)
  rintro e w5 ⟨rfl, rfl⟩
  have HT1 := HS0
  refine ⟨_, rfl, hK'.out _ _ HT1 (fun _ => ?_)⟩
  clear hK' K'
  conv =>
    arg 8
    simp [go_sem]
  conv =>
    arg 8
    simp [go_sem]
  refine wpAnyH_ready (rs := [9]) (by kernel_rfl) (by simp) (AllReadyH.cons rfl (fun K' hK' => oper_call (by rfl) 71 [.tmp 11, .tmp 13] #[3, 3] rfl (vs := [.int .i64 nx, .int .i64 ny]) rfl Try.func71 nm_cmpI bd_cmpI (HI.out _) ?_) AllReadyH.nil)
  rintro e w6 ⟨rfl, rfl⟩
  have HT2 := HT1
  refine ⟨_, rfl, hK'.out _ _ HT2 (fun _ => ?_)⟩
  clear hK' K'
  conv =>
    arg 8
    simp [go_sem]
  conv =>
    arg 8
    simp [go_sem]
  refine wpAnyH_ready (rs := [14]) (by kernel_rfl) (by simp) (AllReadyH.cons rfl (fun K' hK' => oper_call (by rfl) 72 [.tmp 16, .tmp 18] #[9, 9] rfl (vs := [.string ⟨sx.toArray⟩, .string ⟨sy.toArray⟩]) rfl Try.func72 nm_cmpStr bd_cmpStr (HS.out _) ?_) AllReadyH.nil)
  rintro e w7 ⟨rfl, rfl⟩
  have HT3 := HT2
  refine ⟨_, rfl, hK'.out _ _ HT3 (fun _ => ?_)⟩
  clear hK' K'
  conv =>
    arg 8
    simp [go_sem]
  conv =>
    arg 8
    simp [go_sem]
  refine wpAnyH_ready (rs := [15]) (by kernel_rfl) (by simp) (AllReadyH.cons rfl (fun K' hK' => oper_lit3 (by rfl) 29 (.tmp 9) (.tmp 14) (.tmp 19) rfl sl_int (v := .int .i64 p) (u := .int .i64 q) (s := .int .i64 s) rfl rfl rfl ?_) AllReadyH.nil)
  have HT4 := And.intro (HT3.1.alloc (.cells #[.int .i64 p, .int .i64 q, .int .i64 s] 3)) (And.intro (HT3.2.1.alloc (.cells #[.int .i64 p, .int .i64 q, .int .i64 s] 3)) (HT3.2.2.alloc HT3.2.2.size (.cells #[.int .i64 p, .int .i64 q, .int .i64 s] 3)))
  refine hK'.out _ _ HT4 (fun _ => ?_)
  clear hK' K'
  conv =>
    arg 8
    simp [go_sem]
  conv =>
    arg 8
    simp [go_sem]
  refine wpAnyH_ready (rs := [16]) (by kernel_rfl) (by simp) (AllReadyH.cons rfl (fun K' hK' => oper_call (by rfl) 70 [.tmp 20] #[29] rfl (vs := [.slice (some ⟨_, 0, none⟩) 3 3]) rfl Try.func70 nm_or bd_or (HO.out _ _ (Blk.new (by simp) rfl)) ?_) AllReadyH.nil)
  rintro e w8 ⟨rfl, rfl⟩
  have HT5 := HT4
  refine ⟨_, rfl, hK'.out _ _ HT5 (fun _ => ?_)⟩
  clear hK' K'
  conv =>
    arg 8
    simp [go_sem]
  refine wpAnyH_take (i := 17) (v := ?_) rfl (by kernel_rfl) (by kernel_rfl) (by kernel_rfl) (fun _ _ _ h => h) (yieldsIf_val (by rfl) (fun w' hS => ?_)) HT5 ?_
  rotate_left
  · skip
    go_simp
    all_goals with_reducible rfl
  conv =>
    arg 8
    simp [go_sem]
  refine ⟨by kernel_rfl, ?_⟩
  conv =>
    arg 5
    simp [go_sem]
  have HSE := HT5
  go_wp2_with fail
  go_ret
  exact ⟨rfl, HSE.2.2⟩
end Go.Proofs.Ytpgdfhncigmmbaa
