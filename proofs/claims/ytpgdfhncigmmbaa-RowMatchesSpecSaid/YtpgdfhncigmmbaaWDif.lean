/-
  The walk of row.Diff. No condition.
-/
import Derived.Test.YtpgdfhncigmmbaaWUpd
namespace Go.Proofs.Ytpgdfhncigmmbaa
open Go.RowKit

/-- Two rows differ in place k. -/
def difB (a b : List Val) (k : Nat) : Bool := decide (a.length ≤ k) || decide (b.length ≤ k) || decide (a.getD k default ≠ b.getD k default)
/-- The places, less than k, in which two rows differ. -/
def diffUp (a b : List Val) : Nat → List Int
  | 0 => []
  | k + 1 => diffUp a b k ++ if difB a b k = true then [(k : Int)] else []
def diffR (a b : List Val) : List Int := diffUp a b (max a.length b.length)
theorem diffUp_hit {a b : List Val} {k : Nat} (h : difB a b k = true) : diffUp a b (k + 1) = diffUp a b k ++ [(k : Int)] := by
  show diffUp a b k ++ (if difB a b k = true then [(k : Int)] else []) = _
  rw [if_pos h]
theorem diffUp_miss {a b : List Val} {k : Nat} (h : difB a b k = false) : diffUp a b (k + 1) = diffUp a b k := by
  show diffUp a b k ++ (if difB a b k = true then [(k : Int)] else []) = _
  rw [h]; simp
theorem diffUp_len (a b : List Val) (k : Nat) : (diffUp a b k).length ≤ k := by
  induction k with
  | zero => simp [diffUp]
  | succ k ih =>
    cases h : difB a b k with
    | true => rw [diffUp_hit h, List.length_append]; simp; omega
    | false => rw [diffUp_miss h]; omega
theorem dif_a {a b : List Val} {k : Nat} (h : a.length ≤ k) : difB a b k = true := by unfold difB; rw [decide_eq_true h]; rfl
theorem dif_b {a b : List Val} {k : Nat} (h : b.length ≤ k) : difB a b k = true := by unfold difB; rw [decide_eq_true h, Bool.or_true]; rfl
theorem dif_c {a b : List Val} {k : Nat} (h : k < a.length) (h2 : k < b.length) {x y : Val} (hx : a.getD k default = x) (hy : b.getD k default = y) : difB a b k = (cmpA x y != 0) := by
  unfold difB
  rw [decide_eq_false (by omega), decide_eq_false (by omega), hx, hy]
  have := cmpA_zero x y
  by_cases e : x = y
  · rw [this.2 e]; simp [e]
  · have h0 : cmpA x y ≠ 0 := fun h => e (this.1 h)
    simp [e, h0]
theorem nm_place : (Try.f48.name == "runtime.NumGoroutine") = false := by kernel_rfl
theorem bd_place : Try.f48.body.isNone = false := by kernel_rfl
theorem nm_vcmp : (Try.f53.name == "runtime.NumGoroutine") = false := by kernel_rfl
theorem bd_vcmp : Try.f53.body.isNone = false := by kernel_rfl
theorem placeB_nat {n k : Nat} : placeB n (k : Int) = decide (k < n) := by
  unfold placeB; rw [decide_eq_true (by omega), Bool.true_and]; simp

set_option maxRecDepth 100000 in
set_option maxHeartbeats 8000000 in
theorem diff_any {x y : List Val} {a b : Option Addr} {n c m d : Nat} {w : World} (ha : Rd w a n c 3 (recC Val.enc x)) (hb : Rd w b m d 3 (recC Val.enc y)) (hn : n ≤ 1000) (hm : m ≤ 1000) : Calls Try.prog 28 #[.slice a n c, .slice b m d] w (RetL (diffR x y) w) := by
  have hln := ha.rlen Val.enc_len (by omega)
  have hlm := hb.rlen Val.enc_len (by omega)
  have HA := Box.mk ha
  have HB' := Box.mk hb
  clear ha hb
  obtain ⟨M, hM⟩ : ∃ M, max n m = M := ⟨_, rfl⟩
  have hM1 : M ≤ 1000 := by omega
  have HMX := Box.mk hM
  have q1 : max (n : Int) (m : Int) = (M : Int) := by omega
  have q2 : (if (n : Int) ≤ (m : Int) then (m : Int) else (n : Int)) = (M : Int) := by split <;> omega
  have q3 : (if n ≤ m then (m : Int) else (n : Int)) = (M : Int) := by split <;> omega
  have q4 : (if (n : Int) < (m : Int) then (m : Int) else (n : Int)) = (M : Int) := by split <;> omega
  have q5 : (if n < m then (m : Int) else (n : Int)) = (M : Int) := by split <;> omega
  clear hM
  go_enter Try.func28, Try.ntmps28
  go_wp2_with fail
  clear q1 q2 q3 q4 q5
  go_loopw [5, 12] (fun v i wr => ∃ (k : Nat) (a2 : Option Addr) (L c2 : Nat), k ≤ M ∧ i = .int .i64 k ∧ v = .slice a2 L c2 ∧ Box (L = (diffUp x y k).length ∧ Own w.heap.size wr [RowP 3 1 a2 L c2 (intVals (diffUp x y k))] ∧ Below w.heap.size w wr)) (fun _ i _ => M - (intOf i).toNat)
  case atStart => exact ⟨0, none, 0, 0, Nat.zero_le _, rfl, rfl, ⟨rfl, (Own.start w).nilRow _ _, Below.refl _ _⟩⟩
  case round =>
    obtain ⟨k, a2, L, c2, hk, rfl, rfl, HB⟩ := hrel
    by_cases hlt : k < M
    · have hL : L ≤ k := by rw [HB.out.1]; exact diffUp_len x y k
      have HLE := Box.mk HB.out.1
      have HO := Box.mk HB.out.2
      clear HB
      go_upto_region 5 with fail
      have HS0 : Below wr.heap.size wr wr.drew := (Below.refl _ _).drew
      by_cases hna : n ≤ k
      · have HD := Box.mk (dif_a (a := x) (b := y) (k := k) (by omega))
        have HP := Box.mk (show placeB n (k : Int) = false from by rw [placeB_nat]; exact decide_eq_false (by omega))
        clear hna
        refine wp_region_held_drew (S := fun w' => Below wr.heap.size wr w') (by kernel_rfl) HS0 (fun _ => ?_)
        refine wpAnyH_take (i := 0) (v := ?_) rfl (by kernel_rfl) (by kernel_rfl) (by kernel_rfl) (fun _ _ _ h => h) (yieldsIf_val (by rfl) (fun w' hS => ?_)) HS0 ?_
        rotate_left
        · skip
          go_simp
          all_goals with_reducible rfl
        conv =>
          arg 8
          simp [go_sem]
        refine wpAnyH_take (i := 1) (v := ?_) rfl (by kernel_rfl) (by kernel_rfl) (by kernel_rfl) (fun _ _ _ h => h) (yieldsIf_val (by rfl) (fun w' hS => ?_)) HS0 ?_
        rotate_left
        · skip
          go_simp
          all_goals with_reducible rfl
        conv =>
          arg 8
          simp [go_sem]
        conv =>
          arg 8
          simp [go_sem]
        refine wpAnyH_ready (rs := [2]) (by kernel_rfl) (by simp) (AllReadyH.cons rfl (fun K' hK' => oper_call (by rfl) 48 [.tmp 15, .tmp 16] #[28, 3] rfl (vs := [.slice a n c, .int .i64 (k : Int)]) rfl Try.func48 nm_place bd_place (place_is HP.out _ _ _) ?_) AllReadyH.nil)
        rintro e w5 ⟨rfl, rfl⟩
        have HT1 := HS0
        refine ⟨_, rfl, hK'.out _ _ HT1 (fun _ => ?_)⟩
        clear hK' K'
        conv =>
          arg 8
          simp [go_sem]
        refine wpAnyH_take (i := 3) (v := ?_) rfl (by kernel_rfl) (by kernel_rfl) (by kernel_rfl) (fun _ _ _ h => h) (yieldsIf_val (by rfl) (fun w' hS => ?_)) HT1 ?_
        rotate_left
        · skip
          go_simp
          all_goals with_reducible rfl
        conv =>
          arg 8
          simp [go_sem]
        refine wpAnyH_take (i := 4) (v := ?_) rfl (by kernel_rfl) (by kernel_rfl) (by kernel_rfl) (fun _ _ _ h => h) (yieldsIf_val (by rfl) (fun w' hS => ?_)) HT1 ?_
        rotate_left
        · skip
          go_simp
          all_goals with_reducible rfl
        conv =>
          arg 8
          simp [go_sem]
        refine wpAnyH_take (i := 5) (v := undef) rfl (by kernel_rfl) (by kernel_rfl) (by kernel_rfl) (fun _ _ _ h => h) (Or.inr ⟨by rfl, rfl⟩) HT1 ?_
        conv =>
          arg 8
          simp [go_sem]
        refine wpAnyH_take (i := 6) (v := undef) rfl (by kernel_rfl) (by kernel_rfl) (by kernel_rfl) (fun _ _ _ h => h) (Or.inr ⟨by rfl, rfl⟩) HT1 ?_
        conv =>
          arg 8
          simp [go_sem]
        refine wpAnyH_take (i := 7) (v := undef) rfl (by kernel_rfl) (by kernel_rfl) (by kernel_rfl) (fun _ _ _ h => h) (Or.inr ⟨by rfl, rfl⟩) HT1 ?_
        conv =>
          arg 8
          simp [go_sem]
        refine wpAnyH_take (i := 8) (v := undef) rfl (by kernel_rfl) (by kernel_rfl) (by kernel_rfl) (fun _ _ _ h => h) (Or.inr ⟨by rfl, rfl⟩) HT1 ?_
        conv =>
          arg 8
          simp [go_sem]
        refine wpAnyH_take (i := 9) (v := ?_) rfl (by kernel_rfl) (by kernel_rfl) (by kernel_rfl) (fun _ _ _ h => h) (yieldsIf_val (by rfl) (fun w' hS => ?_)) HT1 ?_
        rotate_left
        · skip
          go_simp
          all_goals with_reducible rfl
        conv =>
          arg 8
          simp [go_sem]
        refine wpAnyH_take (i := 10) (v := ?_) rfl (by kernel_rfl) (by kernel_rfl) (by kernel_rfl) (fun _ _ _ h => h) (yieldsIf_val (by rfl) (fun w' hS => ?_)) HT1 ?_
        rotate_left
        · skip
          go_simp
          all_goals with_reducible rfl
        conv =>
          arg 8
          simp [go_sem]
        refine wpAnyH_take (i := 11) (v := undef) rfl (by kernel_rfl) (by kernel_rfl) (by kernel_rfl) (fun _ _ _ h => h) (Or.inr ⟨by rfl, rfl⟩) HT1 ?_
        conv =>
          arg 8
          simp [go_sem]
        refine wpAnyH_take (i := 12) (v := undef) rfl (by kernel_rfl) (by kernel_rfl) (by kernel_rfl) (fun _ _ _ h => h) (Or.inr ⟨by rfl, rfl⟩) HT1 ?_
        conv =>
          arg 8
          simp [go_sem]
        refine wpAnyH_take (i := 13) (v := undef) rfl (by kernel_rfl) (by kernel_rfl) (by kernel_rfl) (fun _ _ _ h => h) (Or.inr ⟨by rfl, rfl⟩) HT1 ?_
        conv =>
          arg 8
          simp [go_sem]
        refine wpAnyH_take (i := 14) (v := undef) rfl (by kernel_rfl) (by kernel_rfl) (by kernel_rfl) (fun _ _ _ h => h) (Or.inr ⟨by rfl, rfl⟩) HT1 ?_
        conv =>
          arg 8
          simp [go_sem]
        refine wpAnyH_take (i := 15) (v := undef) rfl (by kernel_rfl) (by kernel_rfl) (by kernel_rfl) (fun _ _ _ h => h) (Or.inr ⟨by rfl, rfl⟩) HT1 ?_
        conv =>
          arg 8
          simp [go_sem]
        refine wpAnyH_take (i := 16) (v := undef) rfl (by kernel_rfl) (by kernel_rfl) (by kernel_rfl) (fun _ _ _ h => h) (Or.inr ⟨by rfl, rfl⟩) HT1 ?_
        conv =>
          arg 8
          simp [go_sem]
        refine wpAnyH_take (i := 17) (v := undef) rfl (by kernel_rfl) (by kernel_rfl) (by kernel_rfl) (fun _ _ _ h => h) (Or.inr ⟨by rfl, rfl⟩) HT1 ?_
        conv =>
          arg 8
          simp [go_sem]
        refine wpAnyH_take (i := 18) (v := undef) rfl (by kernel_rfl) (by kernel_rfl) (by kernel_rfl) (fun _ _ _ h => h) (Or.inr ⟨by rfl, rfl⟩) HT1 ?_
        conv =>
          arg 8
          simp [go_sem]
        refine wpAnyH_take (i := 19) (v := undef) rfl (by kernel_rfl) (by kernel_rfl) (by kernel_rfl) (fun _ _ _ h => h) (Or.inr ⟨by rfl, rfl⟩) HT1 ?_
        conv =>
          arg 8
          simp [go_sem]
        refine wpAnyH_take (i := 20) (v := undef) rfl (by kernel_rfl) (by kernel_rfl) (by kernel_rfl) (fun _ _ _ h => h) (Or.inr ⟨by rfl, rfl⟩) HT1 ?_
        conv =>
          arg 8
          simp [go_sem]
        refine wpAnyH_take (i := 21) (v := ?_) rfl (by kernel_rfl) (by kernel_rfl) (by kernel_rfl) (fun _ _ _ h => h) (yieldsIf_val (by rfl) (fun w' hS => ?_)) HT1 ?_
        rotate_left
        · skip
          go_simp
          all_goals with_reducible rfl
        conv =>
          arg 8
          simp [go_sem]
        refine ⟨by kernel_rfl, ?_⟩
        conv =>
          arg 5
          simp [go_sem]
        generalize wr.drew = w5 at *
        have HSE := HS0
        have O5 := Box.mk (And.intro (HO.out.1.below HSE) (HO.out.2.trans (HSE.mono HO.out.2.size)))
        have HO1 := Box.mk (And.intro (O5.out.1.new [.int .i64 (k : Int)] 3) (O5.out.2.alloc O5.out.2.size (.cells #[.int .i64 (k : Int)] 3)))
        have HRW := Box.mk (HO1.out.1.row 0 rfl)
        clear HSE
        go_wp2_with (at_builtin; refine wpList_append_src rfl _ _ 29 29 rfl sl_int (.inl sl_int.ht) rfl HRW.out rfl (Src.oneNew _ _ _ rfl) (by omega) (by unfold maxLen; omega) (by simp) ?_; intro a3 c3 w3 hown3 hgr3 hnew3; have HG := Box.mk (HO1.out.1.grown 0 rfl hown3 hgr3 hnew3); clear hown3 hgr3 hnew3)
        exact ⟨⟨k + 1, a3, L + 1, c3, by omega, by go_num, rfl, ⟨by rw [diffUp_hit HD.out, List.length_append, ← HLE.out]; rfl, by rw [diffUp_hit HD.out, show intVals (diffUp x y k ++ [(k : Int)]) = intVals (diffUp x y k) ++ [.int .i64 (k : Int)] from by simp [intVals]]; exact HG.out.1.drop 1, HO1.out.2.trans HG.out.2⟩⟩, by simp [intOf]; omega⟩
        done
      · by_cases hma : m ≤ k
        · have HD := Box.mk (dif_b (a := x) (b := y) (k := k) (by omega))
          have HP := Box.mk (show placeB n (k : Int) = true from by rw [placeB_nat]; exact decide_eq_true (by omega))
          have HP2 := Box.mk (show placeB m (k : Int) = false from by rw [placeB_nat]; exact decide_eq_false (by omega))
          clear hna hma
          refine wp_region_held_drew (S := fun w' => Below wr.heap.size wr w') (by kernel_rfl) HS0 (fun _ => ?_)
          refine wpAnyH_take (i := 0) (v := ?_) rfl (by kernel_rfl) (by kernel_rfl) (by kernel_rfl) (fun _ _ _ h => h) (yieldsIf_val (by rfl) (fun w' hS => ?_)) HS0 ?_
          rotate_left
          · skip
            go_simp
            all_goals with_reducible rfl
          conv =>
            arg 8
            simp [go_sem]
          refine wpAnyH_take (i := 1) (v := ?_) rfl (by kernel_rfl) (by kernel_rfl) (by kernel_rfl) (fun _ _ _ h => h) (yieldsIf_val (by rfl) (fun w' hS => ?_)) HS0 ?_
          rotate_left
          · skip
            go_simp
            all_goals with_reducible rfl
          conv =>
            arg 8
            simp [go_sem]
          conv =>
            arg 8
            simp [go_sem]
          refine wpAnyH_ready (rs := [2]) (by kernel_rfl) (by simp) (AllReadyH.cons rfl (fun K' hK' => oper_call (by rfl) 48 [.tmp 15, .tmp 16] #[28, 3] rfl (vs := [.slice a n c, .int .i64 (k : Int)]) rfl Try.func48 nm_place bd_place (place_is HP.out _ _ _) ?_) AllReadyH.nil)
          rintro e w5 ⟨rfl, rfl⟩
          have HT2 := HS0
          refine ⟨_, rfl, hK'.out _ _ HT2 (fun _ => ?_)⟩
          clear hK' K'
          conv =>
            arg 8
            simp [go_sem]
          refine wpAnyH_take (i := 3) (v := ?_) rfl (by kernel_rfl) (by kernel_rfl) (by kernel_rfl) (fun _ _ _ h => h) (yieldsIf_val (by rfl) (fun w' hS => ?_)) HT2 ?_
          rotate_left
          · skip
            go_simp
            all_goals with_reducible rfl
          conv =>
            arg 8
            simp [go_sem]
          refine wpAnyH_take (i := 4) (v := ?_) rfl (by kernel_rfl) (by kernel_rfl) (by kernel_rfl) (fun _ _ _ h => h) (yieldsIf_val (by rfl) (fun w' hS => ?_)) HT2 ?_
          rotate_left
          · skip
            go_simp
            all_goals with_reducible rfl
          conv =>
            arg 8
            simp [go_sem]
          refine wpAnyH_take (i := 5) (v := ?_) rfl (by kernel_rfl) (by kernel_rfl) (by kernel_rfl) (fun _ _ _ h => h) (yieldsIf_val (by rfl) (fun w' hS => ?_)) HT2 ?_
          rotate_left
          · skip
            go_simp
            all_goals with_reducible rfl
          conv =>
            arg 8
            simp [go_sem]
          refine wpAnyH_take (i := 6) (v := ?_) rfl (by kernel_rfl) (by kernel_rfl) (by kernel_rfl) (fun _ _ _ h => h) (yieldsIf_val (by rfl) (fun w' hS => ?_)) HT2 ?_
          rotate_left
          · skip
            go_simp
            all_goals with_reducible rfl
          conv =>
            arg 8
            simp [go_sem]
          conv =>
            arg 8
            simp [go_sem]
          refine wpAnyH_ready (rs := [7]) (by kernel_rfl) (by simp) (AllReadyH.cons rfl (fun K' hK' => oper_call (by rfl) 48 [.tmp 20, .tmp 21] #[28, 3] rfl (vs := [.slice b m d, .int .i64 (k : Int)]) rfl Try.func48 nm_place bd_place (place_is HP2.out _ _ _) ?_) AllReadyH.nil)
          rintro e w5 ⟨rfl, rfl⟩
          have HT3 := HT2
          refine ⟨_, rfl, hK'.out _ _ HT3 (fun _ => ?_)⟩
          clear hK' K'
          conv =>
            arg 8
            simp [go_sem]
          refine wpAnyH_take (i := 8) (v := ?_) rfl (by kernel_rfl) (by kernel_rfl) (by kernel_rfl) (fun _ _ _ h => h) (yieldsIf_val (by rfl) (fun w' hS => ?_)) HT3 ?_
          rotate_left
          · skip
            go_simp
            all_goals with_reducible rfl
          conv =>
            arg 8
            simp [go_sem]
          refine wpAnyH_take (i := 9) (v := ?_) rfl (by kernel_rfl) (by kernel_rfl) (by kernel_rfl) (fun _ _ _ h => h) (yieldsIf_val (by rfl) (fun w' hS => ?_)) HT3 ?_
          rotate_left
          · skip
            go_simp
            all_goals with_reducible rfl
          conv =>
            arg 8
            simp [go_sem]
          refine wpAnyH_take (i := 10) (v := ?_) rfl (by kernel_rfl) (by kernel_rfl) (by kernel_rfl) (fun _ _ _ h => h) (yieldsIf_val (by rfl) (fun w' hS => ?_)) HT3 ?_
          rotate_left
          · skip
            go_simp
            all_goals with_reducible rfl
          conv =>
            arg 8
            simp [go_sem]
          refine wpAnyH_take (i := 11) (v := undef) rfl (by kernel_rfl) (by kernel_rfl) (by kernel_rfl) (fun _ _ _ h => h) (Or.inr ⟨by rfl, rfl⟩) HT3 ?_
          conv =>
            arg 8
            simp [go_sem]
          refine wpAnyH_take (i := 12) (v := undef) rfl (by kernel_rfl) (by kernel_rfl) (by kernel_rfl) (fun _ _ _ h => h) (Or.inr ⟨by rfl, rfl⟩) HT3 ?_
          conv =>
            arg 8
            simp [go_sem]
          refine wpAnyH_take (i := 13) (v := undef) rfl (by kernel_rfl) (by kernel_rfl) (by kernel_rfl) (fun _ _ _ h => h) (Or.inr ⟨by rfl, rfl⟩) HT3 ?_
          conv =>
            arg 8
            simp [go_sem]
          refine wpAnyH_take (i := 14) (v := undef) rfl (by kernel_rfl) (by kernel_rfl) (by kernel_rfl) (fun _ _ _ h => h) (Or.inr ⟨by rfl, rfl⟩) HT3 ?_
          conv =>
            arg 8
            simp [go_sem]
          refine wpAnyH_take (i := 15) (v := undef) rfl (by kernel_rfl) (by kernel_rfl) (by kernel_rfl) (fun _ _ _ h => h) (Or.inr ⟨by rfl, rfl⟩) HT3 ?_
          conv =>
            arg 8
            simp [go_sem]
          refine wpAnyH_take (i := 16) (v := undef) rfl (by kernel_rfl) (by kernel_rfl) (by kernel_rfl) (fun _ _ _ h => h) (Or.inr ⟨by rfl, rfl⟩) HT3 ?_
          conv =>
            arg 8
            simp [go_sem]
          refine wpAnyH_take (i := 17) (v := undef) rfl (by kernel_rfl) (by kernel_rfl) (by kernel_rfl) (fun _ _ _ h => h) (Or.inr ⟨by rfl, rfl⟩) HT3 ?_
          conv =>
            arg 8
            simp [go_sem]
          refine wpAnyH_take (i := 18) (v := undef) rfl (by kernel_rfl) (by kernel_rfl) (by kernel_rfl) (fun _ _ _ h => h) (Or.inr ⟨by rfl, rfl⟩) HT3 ?_
          conv =>
            arg 8
            simp [go_sem]
          refine wpAnyH_take (i := 19) (v := undef) rfl (by kernel_rfl) (by kernel_rfl) (by kernel_rfl) (fun _ _ _ h => h) (Or.inr ⟨by rfl, rfl⟩) HT3 ?_
          conv =>
            arg 8
            simp [go_sem]
          refine wpAnyH_take (i := 20) (v := undef) rfl (by kernel_rfl) (by kernel_rfl) (by kernel_rfl) (fun _ _ _ h => h) (Or.inr ⟨by rfl, rfl⟩) HT3 ?_
          conv =>
            arg 8
            simp [go_sem]
          refine wpAnyH_take (i := 21) (v := ?_) rfl (by kernel_rfl) (by kernel_rfl) (by kernel_rfl) (fun _ _ _ h => h) (yieldsIf_val (by rfl) (fun w' hS => ?_)) HT3 ?_
          rotate_left
          · skip
            go_simp
            all_goals with_reducible rfl
          conv =>
            arg 8
            simp [go_sem]
          refine ⟨by kernel_rfl, ?_⟩
          conv =>
            arg 5
            simp [go_sem]
          generalize wr.drew = w5 at *
          have HSE := HS0
          have O5 := Box.mk (And.intro (HO.out.1.below HSE) (HO.out.2.trans (HSE.mono HO.out.2.size)))
          have HO1 := Box.mk (And.intro (O5.out.1.new [.int .i64 (k : Int)] 3) (O5.out.2.alloc O5.out.2.size (.cells #[.int .i64 (k : Int)] 3)))
          have HRW := Box.mk (HO1.out.1.row 0 rfl)
          clear HSE
          go_wp2_with (at_builtin; refine wpList_append_src rfl _ _ 29 29 rfl sl_int (.inl sl_int.ht) rfl HRW.out rfl (Src.oneNew _ _ _ rfl) (by omega) (by unfold maxLen; omega) (by simp) ?_; intro a3 c3 w3 hown3 hgr3 hnew3; have HG := Box.mk (HO1.out.1.grown 0 rfl hown3 hgr3 hnew3); clear hown3 hgr3 hnew3)
          exact ⟨⟨k + 1, a3, L + 1, c3, by omega, by go_num, rfl, ⟨by rw [diffUp_hit HD.out, List.length_append, ← HLE.out]; rfl, by rw [diffUp_hit HD.out, show intVals (diffUp x y k ++ [(k : Int)]) = intVals (diffUp x y k) ++ [.int .i64 (k : Int)] from by simp [intVals]]; exact HG.out.1.drop 1, HO1.out.2.trans HG.out.2⟩⟩, by simp [intOf]; omega⟩
          done
        · have hkn : k < n := by omega
          have hkm : k < m := by omega
          have HP := Box.mk (show placeB n (k : Int) = true from by rw [placeB_nat]; exact decide_eq_true (by omega))
          have HP2 := Box.mk (show placeB m (k : Int) = true from by rw [placeB_nat]; exact decide_eq_true (by omega))
          clear hna hma
          obtain ⟨g, off, rfl, _, hc⟩ := (HA.out.below HO.out.2 (Nat.le_refl _)).recAt Val.enc_len (by omega) k hkn
          obtain ⟨g2, off2, rfl, _, hc2⟩ := (HB'.out.below HO.out.2 (Nat.le_refl _)).recAt Val.enc_len (by omega) k hkm
          have HDC := Box.mk (fun (X Y : Val) (hx : x.getD k default = X) (hy : y.getD k default = Y) => dif_c (a := x) (b := y) (k := k) (by omega) (by omega) hx hy)
          generalize hx : x.getD k default = X at *
          generalize hy : y.getD k default = Y at *
          have HDD := Box.mk (HDC.out X Y rfl rfl)
          have HCC := Box.mk (fun w => valCmp_any X Y w)
          obtain ⟨xk, xn, xs⟩ := X
          obtain ⟨yk, yn, ys⟩ := Y
          have c0 := hc 0 _ rfl
          have c1 := hc 1 _ rfl
          have c2' := hc 2 _ rfl
          have d0 := hc2 0 _ rfl
          have d1 := hc2 1 _ rfl
          have d2 := hc2 2 _ rfl
          simp only [Nat.add_zero] at c0 c1 c2' d0 d1 d2
          unfold Val.v at HCC
          generalize cmpA ⟨xk, xn, xs⟩ ⟨yk, yn, ys⟩ = C at *
          clear hc hc2 hx hy HDC
          refine wp_region_held_drew (S := fun w' => Below wr.heap.size wr w') (by kernel_rfl) HS0 (fun _ => ?_)
          refine wpAnyH_take (i := 0) (v := ?_) rfl (by kernel_rfl) (by kernel_rfl) (by kernel_rfl) (fun _ _ _ h => h) (yieldsIf_val (by rfl) (fun w' hS => ?_)) HS0 ?_
          rotate_left
          · skip
            go_simp
            all_goals with_reducible rfl
          conv =>
            arg 8
            simp [go_sem]
          refine wpAnyH_take (i := 1) (v := ?_) rfl (by kernel_rfl) (by kernel_rfl) (by kernel_rfl) (fun _ _ _ h => h) (yieldsIf_val (by rfl) (fun w' hS => ?_)) HS0 ?_
          rotate_left
          · skip
            go_simp
            all_goals with_reducible rfl
          conv =>
            arg 8
            simp [go_sem]
          conv =>
            arg 8
            simp [go_sem]
          refine wpAnyH_ready (rs := [2]) (by kernel_rfl) (by simp) (AllReadyH.cons rfl (fun K' hK' => oper_call (by rfl) 48 [.tmp 15, .tmp 16] #[28, 3] rfl (vs := [.slice (some ⟨g, off, none⟩) n c, .int .i64 (k : Int)]) rfl Try.func48 nm_place bd_place (place_is HP.out _ _ _) ?_) AllReadyH.nil)
          rintro e w5 ⟨rfl, rfl⟩
          have HT4 := HS0
          refine ⟨_, rfl, hK'.out _ _ HT4 (fun _ => ?_)⟩
          clear hK' K'
          conv =>
            arg 8
            simp [go_sem]
          refine wpAnyH_take (i := 3) (v := ?_) rfl (by kernel_rfl) (by kernel_rfl) (by kernel_rfl) (fun _ _ _ h => h) (yieldsIf_val (by rfl) (fun w' hS => ?_)) HT4 ?_
          rotate_left
          · skip
            go_simp
            all_goals with_reducible rfl
          conv =>
            arg 8
            simp [go_sem]
          refine wpAnyH_take (i := 4) (v := ?_) rfl (by kernel_rfl) (by kernel_rfl) (by kernel_rfl) (fun _ _ _ h => h) (yieldsIf_val (by rfl) (fun w' hS => ?_)) HT4 ?_
          rotate_left
          · skip
            go_simp
            all_goals with_reducible rfl
          conv =>
            arg 8
            simp [go_sem]
          refine wpAnyH_take (i := 5) (v := ?_) rfl (by kernel_rfl) (by kernel_rfl) (by kernel_rfl) (fun _ _ _ h => h) (yieldsIf_val (by rfl) (fun w' hS => ?_)) HT4 ?_
          rotate_left
          · skip
            go_simp
            all_goals with_reducible rfl
          conv =>
            arg 8
            simp [go_sem]
          refine wpAnyH_take (i := 6) (v := ?_) rfl (by kernel_rfl) (by kernel_rfl) (by kernel_rfl) (fun _ _ _ h => h) (yieldsIf_val (by rfl) (fun w' hS => ?_)) HT4 ?_
          rotate_left
          · skip
            go_simp
            all_goals with_reducible rfl
          conv =>
            arg 8
            simp [go_sem]
          conv =>
            arg 8
            simp [go_sem]
          refine wpAnyH_ready (rs := [7]) (by kernel_rfl) (by simp) (AllReadyH.cons rfl (fun K' hK' => oper_call (by rfl) 48 [.tmp 20, .tmp 21] #[28, 3] rfl (vs := [.slice (some ⟨g2, off2, none⟩) m d, .int .i64 (k : Int)]) rfl Try.func48 nm_place bd_place (place_is HP2.out _ _ _) ?_) AllReadyH.nil)
          rintro e w5 ⟨rfl, rfl⟩
          have HT5 := HT4
          refine ⟨_, rfl, hK'.out _ _ HT5 (fun _ => ?_)⟩
          clear hK' K'
          conv =>
            arg 8
            simp [go_sem]
          refine wpAnyH_take (i := 8) (v := ?_) rfl (by kernel_rfl) (by kernel_rfl) (by kernel_rfl) (fun _ _ _ h => h) (yieldsIf_val (by rfl) (fun w' hS => ?_)) HT5 ?_
          rotate_left
          · skip
            go_simp
            all_goals with_reducible rfl
          conv =>
            arg 8
            simp [go_sem]
          refine wpAnyH_take (i := 9) (v := ?_) rfl (by kernel_rfl) (by kernel_rfl) (by kernel_rfl) (fun _ _ _ h => h) (yieldsIf_val (by rfl) (fun w' hS => ?_)) HT5 ?_
          rotate_left
          · skip
            go_simp
            all_goals with_reducible rfl
          conv =>
            arg 8
            simp [go_sem]
          refine wpAnyH_take (i := 10) (v := ?_) rfl (by kernel_rfl) (by kernel_rfl) (by kernel_rfl) (fun _ _ _ h => h) (yieldsIf_val (by rfl) (fun w' hS => ?_)) HT5 ?_
          rotate_left
          · skip
            go_simp
            all_goals with_reducible rfl
          conv =>
            arg 8
            simp [go_sem]
          refine wpAnyH_take (i := 11) (v := ?_) rfl (by kernel_rfl) (by kernel_rfl) (by kernel_rfl) (fun _ _ _ h => h) (yieldsIf_val (by rfl) (fun w' hS => ?_)) HT5 ?_
          rotate_left
          · skip
            go_simp
            all_goals with_reducible rfl
          conv =>
            arg 8
            simp [go_sem]
          refine wpAnyH_take (i := 12) (v := ?_) rfl (by kernel_rfl) (by kernel_rfl) (by kernel_rfl) (fun _ _ _ h => h) (yieldsIf_val (by rfl) (fun w' hS => ?_)) HT5 ?_
          rotate_left
          · skip
            go_simp
            all_goals with_reducible rfl
          conv =>
            arg 8
            simp [go_sem]
          refine wpAnyH_take (i := 13) (v := ?_) rfl (by kernel_rfl) (by kernel_rfl) (by kernel_rfl) (fun _ _ _ h => h) (yieldsIf_val (by rfl) (fun w' hS => ?_)) HT5 ?_
          rotate_left
          · skip
            have q0 : (0 : Int) ≤ (k : Int) := by omega
            have q1 : (k : Int) < (n : Int) := by omega
            have q2 : (k : Int) < (m : Int) := by omega
            go_simp
            all_goals with_reducible rfl
          conv =>
            arg 8
            simp [go_sem]
          refine wpAnyH_take (i := 14) (v := ?_) rfl (by kernel_rfl) (by kernel_rfl) (by kernel_rfl) (fun _ _ _ h => h) (yieldsIf_val (by rfl) (fun w' hS => ?_)) HT5 ?_
          rotate_left
          · skip
            have e0 := (hS.cell (p := ⟨g, off + k * 3, none⟩) (cell_block_lt c0)).trans c0
            have e1 := (hS.cell (p := ⟨g, off + k * 3 + 1, none⟩) (cell_block_lt c1)).trans c1
            have e2 := (hS.cell (p := ⟨g, off + k * 3 + 2, none⟩) (cell_block_lt c2')).trans c2'
            go_simp
            all_goals with_reducible rfl
          conv =>
            arg 8
            simp [go_sem]
          refine wpAnyH_take (i := 15) (v := ?_) rfl (by kernel_rfl) (by kernel_rfl) (by kernel_rfl) (fun _ _ _ h => h) (yieldsIf_val (by rfl) (fun w' hS => ?_)) HT5 ?_
          rotate_left
          · skip
            go_simp
            all_goals with_reducible rfl
          conv =>
            arg 8
            simp [go_sem]
          refine wpAnyH_take (i := 16) (v := ?_) rfl (by kernel_rfl) (by kernel_rfl) (by kernel_rfl) (fun _ _ _ h => h) (yieldsIf_val (by rfl) (fun w' hS => ?_)) HT5 ?_
          rotate_left
          · skip
            go_simp
            all_goals with_reducible rfl
          conv =>
            arg 8
            simp [go_sem]
          refine wpAnyH_take (i := 17) (v := ?_) rfl (by kernel_rfl) (by kernel_rfl) (by kernel_rfl) (fun _ _ _ h => h) (yieldsIf_val (by rfl) (fun w' hS => ?_)) HT5 ?_
          rotate_left
          · skip
            have q0 : (0 : Int) ≤ (k : Int) := by omega
            have q1 : (k : Int) < (n : Int) := by omega
            have q2 : (k : Int) < (m : Int) := by omega
            go_simp
            all_goals with_reducible rfl
          conv =>
            arg 8
            simp [go_sem]
          refine wpAnyH_take (i := 18) (v := ?_) rfl (by kernel_rfl) (by kernel_rfl) (by kernel_rfl) (fun _ _ _ h => h) (yieldsIf_val (by rfl) (fun w' hS => ?_)) HT5 ?_
          rotate_left
          · skip
            have e0 := (hS.cell (p := ⟨g2, off2 + k * 3, none⟩) (cell_block_lt d0)).trans d0
            have e1 := (hS.cell (p := ⟨g2, off2 + k * 3 + 1, none⟩) (cell_block_lt d1)).trans d1
            have e2 := (hS.cell (p := ⟨g2, off2 + k * 3 + 2, none⟩) (cell_block_lt d2)).trans d2
            go_simp
            all_goals with_reducible rfl
          conv =>
            arg 8
            simp [go_sem]
          conv =>
            arg 8
            simp [go_sem]
          refine wpAnyH_ready (rs := [19]) (by kernel_rfl) (by simp) (AllReadyH.cons rfl (fun K' hK' => oper_call (by rfl) 53 [.tmp 29, .tmp 33] #[59, 59] rfl (vs := [.agg #[.int .i64 xk, .int .i64 xn, .string ⟨xs.toArray⟩], .agg #[.int .i64 yk, .int .i64 yn, .string ⟨ys.toArray⟩]]) rfl Try.func53 nm_vcmp bd_vcmp (HCC.out _) ?_) AllReadyH.nil)
          rintro e w5 ⟨rfl, hb5⟩
          have HT6 := HT5.trans (hb5.mono HT5.size)
          refine ⟨_, rfl, hK'.out _ _ HT6 (fun _ => ?_)⟩
          clear hK' K'
          conv =>
            arg 8
            simp [go_sem]
          refine wpAnyH_take (i := 20) (v := ?_) rfl (by kernel_rfl) (by kernel_rfl) (by kernel_rfl) (fun _ _ _ h => h) (yieldsIf_val (by rfl) (fun w' hS => ?_)) HT6 ?_
          rotate_left
          · skip
            go_simp
            all_goals with_reducible rfl
          conv =>
            arg 8
            simp [go_sem]
          refine wpAnyH_take (i := 21) (v := ?_) rfl (by kernel_rfl) (by kernel_rfl) (by kernel_rfl) (fun _ _ _ h => h) (yieldsIf_val (by rfl) (fun w' hS => ?_)) HT6 ?_
          rotate_left
          · skip
            go_simp
            all_goals with_reducible rfl
          conv =>
            arg 8
            simp [go_sem]
          refine ⟨by kernel_rfl, ?_⟩
          conv =>
            arg 5
            simp [go_sem]
          have HSE := HT6
          by_cases hz : C = 0
          · have HD := Box.mk (show difB x y k = false from by rw [HDD.out, hz]; rfl)
            have t1 : (C != 0) = false := by simp [hz]
            clear hz
            have H5 := Box.mk (And.intro (HO.out.1.below HSE) (HO.out.2.trans (HSE.mono HO.out.2.size)))
            clear HSE c0 c1 c2' d0 d1 d2
            go_wp2_with fail
            exact ⟨⟨k + 1, a2, L, c2, by omega, by go_num, rfl, ⟨by rw [diffUp_miss HD.out]; exact HLE.out, by rw [diffUp_miss HD.out]; exact H5.out.1, H5.out.2⟩⟩, by simp [intOf]; omega⟩
          · have HD := Box.mk (show difB x y k = true from by rw [HDD.out]; simp [hz])
            have t1 : (C != 0) = true := by simp [hz]
            clear hz c0 c1 c2' d0 d1 d2
            have O5 := Box.mk (And.intro (HO.out.1.below HSE) (HO.out.2.trans (HSE.mono HO.out.2.size)))
            have HO1 := Box.mk (And.intro (O5.out.1.new [.int .i64 (k : Int)] 3) (O5.out.2.alloc O5.out.2.size (.cells #[.int .i64 (k : Int)] 3)))
            have HRW := Box.mk (HO1.out.1.row 0 rfl)
            clear HSE
            go_wp2_with (at_builtin; refine wpList_append_src rfl _ _ 29 29 rfl sl_int (.inl sl_int.ht) rfl HRW.out rfl (Src.oneNew _ _ _ rfl) (by omega) (by unfold maxLen; omega) (by simp) ?_; intro a3 c3 w3 hown3 hgr3 hnew3; have HG := Box.mk (HO1.out.1.grown 0 rfl hown3 hgr3 hnew3); clear hown3 hgr3 hnew3)
            exact ⟨⟨k + 1, a3, L + 1, c3, by omega, by go_num, rfl, ⟨by rw [diffUp_hit HD.out, List.length_append, ← HLE.out]; rfl, by rw [diffUp_hit HD.out, show intVals (diffUp x y k ++ [(k : Int)]) = intVals (diffUp x y k) ++ [.int .i64 (k : Int)] from by simp [intVals]]; exact HG.out.1.drop 1, HO1.out.2.trans HG.out.2⟩⟩, by simp [intOf]; omega⟩
            done
    · obtain rfl : k = M := by omega
      have hR : diffUp x y k = diffR x y := by unfold diffR; rw [hln, hlm, HMX.out]
      rw [hR] at HB
      obtain ⟨⟨rfl, O, hb⟩⟩ := HB
      have HF := Box.mk (And.intro O hb)
      clear O hb hR
      go_wp2_with fail
      go_ret
      exact ⟨HF.out.2, a2, c2, rfl, HF.out.1.rowB 0 rfl⟩
end Go.Proofs.Ytpgdfhncigmmbaa
