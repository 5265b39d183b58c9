/-
  The walk of the reference's one. No condition.
-/
import Derived.Test.YtpgdfhncigmmbaaRWds
namespace Go.Proofs.Ytpgdfhncigmmbaa
open Go.RowKit

/-- The value of a kind at the beginning of some words, and how many words it has; 0 if there is none. -/
def RetOne (O : Option (Val × List Int)) (l : List Int) (w : World) (e : Ending) (w' : World) : Prop :=
  Below w.heap.size w w' ∧ ((∃ (x : Val) (N : Nat), O = some (x, l.drop N) ∧ 0 < N ∧ N ≤ l.length ∧ e = .returned (.tuple #[x.v, .int .i64 N])) ∨ (O = none ∧ e = .returned (.tuple #[.agg #[.int .i64 0, .int .i64 0, .string ⟨#[]⟩], .int .i64 0])))
/-- The cells of one. -/
structure OSt (w wr : World) (a : Option Addr) (n c : Nat) (l : List Int) : Prop where
  r : Rd wr a n c 1 (intVals l)
  o : Blk wr w.heap.size 59 [.int .i64 0, .int .i64 0, .string ⟨#[]⟩]
  b : Below w.heap.size w wr
theorem OSt.start {w : World} {a : Option Addr} {n c : Nat} {l : List Int} (h : Rd w a n c 1 (intVals l)) : OSt w (w.alloc (.cells #[.int .i64 0, .int .i64 0, .string ⟨#[]⟩] 59)) a n c l :=
  ⟨h.alloc _, Blk.new rfl rfl, (Below.refl _ _).alloc (Nat.le_refl _) _⟩
theorem OSt.step {w wr w' : World} {a : Option Addr} {n c : Nat} {l : List Int} (h : OSt w wr a n c l) (hb : Below wr.heap.size wr w') : OSt w w' a n c l :=
  ⟨h.r.call0 hb, h.o.below hb (Nat.le_refl _), h.b.trans (hb.mono h.b.size)⟩
theorem OSt.none {w wr : World} {a : Option Addr} {n c : Nat} {l : List Int} (h : OSt w wr a n c l) {O : Option (Val × List Int)} (hO : O = none) (ds : Array Value) : RetOne O l w (.returned (.tuple #[.agg #[.int .i64 0, .int .i64 0, .string ⟨#[]⟩], .int .i64 0])) (wr.setRow w.heap.size ds) :=
  ⟨below_setRow h.b (Nat.le_refl _) _, .inr ⟨hO, rfl⟩⟩
theorem OSt.some {w wr : World} {a : Option Addr} {n c : Nat} {l : List Int} (h : OSt w wr a n c l) {O : Option (Val × List Int)} {x : Val} {N : Nat} (hO : O = some (x, l.drop N)) (h0 : 0 < N) (h1 : N ≤ l.length) (ds : Array Value) : RetOne O l w (.returned (.tuple #[x.v, .int .i64 N])) (wr.setRow w.heap.size ds) :=
  ⟨below_setRow h.b (Nat.le_refl _) _, .inl ⟨x, N, hO, h0, h1, rfl⟩⟩
theorem rdV_text {kd : Int} (h1 : kd ≠ 1) (h3 : kd ≠ 3) (M : Nat) (t : List Int) : rdV kd ((M : Int) :: t) = if M ≤ 40 then (rdT M t).map fun p => (⟨kd, 0, p.1⟩, p.2) else none := by
  unfold rdV
  rw [if_neg h1, if_neg h3]
  by_cases h : M ≤ 40
  · rw [if_pos h, rdW_cons (by omega) (by omega)]; rfl
  · rw [if_neg h, rdW_out (.inr (by omega))]; rfl
theorem rdV_out {kd x : Int} {t : List Int} (h : x < 0 ∨ lim40 ≤ x) : rdV kd (x :: t) = none := by
  unfold rdV
  unfold lim40 at *
  split
  · rw [rdW_out h]; rfl
  · split
    · rw [rdW_out (by omega)]; rfl
    · rw [rdW_out (by omega)]; rfl
theorem nm_runp : (Try.f22.name == "runtime.NumGoroutine") = false := by kernel_rfl
theorem bd_runp : Try.f22.body.isNone = false := by kernel_rfl

set_option maxRecDepth 100000 in
set_option maxHeartbeats 4000000 in
theorem one_any {kd : Int} {l : List Int} {a : Option Addr} {n c : Nat} {w : World} (hr : Rd w a n c 1 (intVals l)) (hn : n ≤ 1000) : Calls Try.prog 43 #[.int .i64 kd, .slice a n c] w (RetOne (rdV kd l) l w) := by
  generalize hO : rdV kd l = O
  have HO := Box.mk hO
  have hln := hr.ilen
  have H0 := Box.mk (OSt.start hr)
  have HRD := Box.mk hr
  clear hr hO
  cases l with
  | nil =>
    obtain rfl : n = 0 := by rw [← hln]; rfl
    have hX : O = none := by rw [← HO.out]; unfold rdV; split; · rfl
                             · split <;> rfl
    have HBL := Box.mk H0.out.o
    go_enter Try.func43, Try.ntmps43
    go_wp2_with (with_reducible refine wpList_store_row rfl _ _ _ rfl rfl (by kernel_rfl) HBL.out rfl rfl (cs := [.int .i64 0, .int .i64 0, .string ⟨#[]⟩]) rfl rfl (val_one _ _ _) ?_)
    refine bodyPost_ret (results_cell2 rfl _ rfl (HBL.out.row [.int .i64 0, .int .i64 0, .string ⟨#[]⟩]) valTT) rfl ?_
    exact H0.out.none hX _
  | cons x t =>
    have hn1 : 1 ≤ n := by rw [← hln]; simp
    have htl : t.length = n - 1 := by rw [← hln]; simp
    obtain ⟨g, off, rfl, hc0⟩ := HRD.out.intAtD 0 (by omega)
    rw [Nat.add_zero, show (x :: t).getD 0 0 = x from rfl] at hc0
    have HC0 := Box.mk hc0
    have c0 := (H0.out.b.cell (p := ⟨g, off, none⟩) (cell_block_lt HC0.out)).trans HC0.out
    have tn : ((n : Int) == 0) = false := by simp; omega
    clear hc0
    cases hwb : wordB x with
    | false =>
      have hX : O = none := by rw [← HO.out]; exact rdV_out (wordB_false hwb)
      have HBL := Box.mk H0.out.o
      have HX := Box.mk hX
      clear hX
      go_enter Try.func43, Try.ntmps43
      go_wp2_with fail
      refine (rword_is hwb _).mono ?_
      rintro e w5 ⟨rfl, rfl⟩
      clear hwb
      go_wp2_with (with_reducible refine wpList_store_row rfl _ _ _ rfl rfl (by kernel_rfl) HBL.out rfl rfl (cs := [.int .i64 0, .int .i64 0, .string ⟨#[]⟩]) rfl rfl (val_one _ _ _) ?_)
      refine bodyPost_ret (results_cell2 rfl _ rfl (HBL.out.row [.int .i64 0, .int .i64 0, .string ⟨#[]⟩]) valTT) rfl ?_
      exact H0.out.none HX.out _
    | true =>
      obtain ⟨hx0, hx1⟩ := wordB_true hwb
      have HWB := Box.mk hwb
      unfold lim40 at hx1
      clear hwb
      go_enter Try.func43, Try.ntmps43
      go_upto_region 1 with fail
      generalize (w.alloc (.cells #[.int .i64 0, .int .i64 0, .string ⟨#[]⟩] 59)) = wa at *
      have HBL := Box.mk H0.out.o
      go_wp2_with fail
      refine (rword_is HWB.out _).mono ?_
      rintro e w5 ⟨rfl, rfl⟩
      by_cases h1 : kd = 1
      · subst h1
        have HX := Box.mk (show O = some (⟨1, x - 549755813888, []⟩, (x :: t).drop 1) from by rw [← HO.out]; unfold rdV; rw [if_pos rfl, rdW_cons hx0 (by unfold lim40; omega)]; rfl)
        go_wp2_with (with_reducible refine wpList_store_row rfl _ _ _ rfl rfl (by kernel_rfl) HBL.out rfl rfl (cs := [.int .i64 1, .int .i64 (x - 549755813888), .string ⟨#[]⟩]) rfl rfl (val_one _ _ _) ?_)
        refine bodyPost_ret (results_cell2 rfl _ rfl (HBL.out.row [.int .i64 1, .int .i64 (x - 549755813888), .string ⟨#[]⟩]) valTT) rfl ?_
        exact H0.out.some HX.out (by omega) (by simp) _
      · by_cases h3 : kd = 3
        · subst h3
          by_cases hx2 : 1 < x
          · have HX := Box.mk (show O = none from by rw [← HO.out]; unfold rdV; rw [if_neg (by decide), if_pos rfl, rdW_out (.inr (by omega))]; rfl)
            clear h1
            go_wp2_with (with_reducible refine wpList_store_row rfl _ _ _ rfl rfl (by kernel_rfl) HBL.out rfl rfl (cs := [.int .i64 0, .int .i64 0, .string ⟨#[]⟩]) rfl rfl (val_one _ _ _) ?_)
            refine bodyPost_ret (results_cell2 rfl _ rfl (HBL.out.row [.int .i64 0, .int .i64 0, .string ⟨#[]⟩]) valTT) rfl ?_
            exact H0.out.none HX.out _
          · have HX := Box.mk (show O = some (⟨3, x, []⟩, (x :: t).drop 1) from by rw [← HO.out]; unfold rdV; rw [if_neg (by decide), if_pos rfl, rdW_cons hx0 (by omega)]; rfl)
            clear h1
            go_wp2_with (with_reducible refine wpList_store_row rfl _ _ _ rfl rfl (by kernel_rfl) HBL.out rfl rfl (cs := [.int .i64 3, .int .i64 x, .string ⟨#[]⟩]) rfl rfl (val_one _ _ _) ?_)
            refine bodyPost_ret (results_cell2 rfl _ rfl (HBL.out.row [.int .i64 3, .int .i64 x, .string ⟨#[]⟩]) valTT) rfl ?_
            exact H0.out.some HX.out (by omega) (by simp) _
        · obtain ⟨M, rfl⟩ := Int.eq_ofNat_of_zero_le hx0
          have HX := Box.mk (HO.out.symm.trans (rdV_text h1 h3 M t))
          have HU := Box.mk (show unpackT t (M : Int) = (rdT M t).map (·.1) from by unfold unpackT; rw [if_neg (by omega), Int.toNat_natCast])
          have t1 : (kd == 1) = false := by simp [h1]
          have t3 : (kd == 3) = false := by simp [h3]
          clear h1 h3 HO
          have hsub := H0.out.r.sub 1 n c hn1 (Nat.le_refl _) H0.out.r.hcap (Nat.le_refl _)
          simp only [Nat.mul_one] at hsub
          obtain ⟨a', ha'⟩ : ∃ A, (if c = 1 then some (⟨g, off, none⟩ : Addr) else some (⟨g, off + 1, none⟩ : Addr)) = A := ⟨_, rfl⟩
          have ha2 : (if c = 1 then some (⟨g, off, none⟩ : Addr) else (some (⟨g, off, none⟩ : Addr)).map (·.add 1)) = a' := by rw [← ha']; rfl
          rw [ha2] at hsub
          have hxs : (List.drop 1 (intVals ((M : Int) :: t))).take (n - 1) = intVals t := by
            rw [List.take_of_length_le (by simp [intVals]; omega)]; rfl
          rw [hxs] at hsub
          clear hxs ha2
          have hcap := H0.out.r.hcap
          have HS0 : OSt w w5.drew (some ⟨g, off, none⟩) n c ((M : Int) :: t) ∧ Rd w5.drew a' (n - 1) (c - 1) 1 (intVals t) := ⟨H0.out.step (Below.refl _ _).drew, hsub.drew⟩
          clear hsub
          go_wp2_with fail
          refine wp_region_held_drew (S := fun w' => OSt w w' (some ⟨g, off, none⟩) n c ((M : Int) :: t) ∧ Rd w' a' (n - 1) (c - 1) 1 (intVals t)) (by kernel_rfl) HS0 (fun _ => ?_)
          refine wpAnyH_take (i := 0) (v := ?_) rfl (by kernel_rfl) (by kernel_rfl) (by kernel_rfl) (fun _ _ _ h => h) (yieldsIf_val (by rfl) (fun w' hS => ?_)) HS0 ?_
          rotate_left
          · skip
            go_simp
            all_goals with_reducible rfl
          conv =>
            arg 8
            simp [go_sem]
          refine wpAnyH_take (i := 1) (v := ?_) rfl (by kernel_rfl) (by kernel_rfl) (by kernel_rfl) (fun _ _ _ h => h) (yieldsIf_val (by rfl) (fun w' hS => ?_)) HS0 ?_
          rotate_left
          · skip
            have q0 : (0 : Int) ≤ 1 := by omega
            have q1 : (1 : Int) ≤ (n : Int) := by omega
            go_simp
            all_goals with_reducible rfl
          conv =>
            arg 8
            simp [go_sem]
          refine wpAnyH_take (i := 2) (v := ?_) rfl (by kernel_rfl) (by kernel_rfl) (by kernel_rfl) (fun _ _ _ h => h) (yieldsIf_val (by rfl) (fun w' hS => ?_)) HS0 ?_
          rotate_left
          · skip
            go_simp
            all_goals with_reducible rfl
          conv =>
            arg 8
            simp [go_sem]
          refine wpAnyH_take (i := 3) (v := ?_) rfl (by kernel_rfl) (by kernel_rfl) (by kernel_rfl) (fun _ _ _ h => h) (yieldsIf_val (by rfl) (fun w' hS => ?_)) HS0 ?_
          rotate_left
          · skip
            have q0 : 0 < n := by omega
            go_simp
            all_goals with_reducible rfl
          conv =>
            arg 8
            simp [go_sem]
          refine wpAnyH_take (i := 4) (v := ?_) rfl (by kernel_rfl) (by kernel_rfl) (by kernel_rfl) (fun _ _ _ h => h) (yieldsIf_val (by rfl) (fun w' hS => ?_)) HS0 ?_
          rotate_left
          · skip
            have q := (hS.1.b.cell (p := ⟨g, off, none⟩) (cell_block_lt HC0.out)).trans HC0.out
            go_simp
            all_goals with_reducible rfl
          conv =>
            arg 8
            simp [go_sem]
          conv =>
            arg 8
            simp [go_sem]
          refine wpAnyH_ready (rs := [5]) (by kernel_rfl) (by simp) (AllReadyH.cons rfl (fun K' hK' => oper_call (by rfl) 22 [.tmp 42, .tmp 45] #[29, 3] rfl (vs := [.slice a' (n - 1) (c - 1), .int .i64 (M : Int)]) rfl Try.func22 nm_runp bd_runp (runpack_any HS0.2 (by omega) (by omega)) ?_) AllReadyH.nil)
          rintro e w7 ⟨rfl, hb7⟩
          have HS5 := And.intro (HS0.1.step hb7) (HS0.2.call0 hb7)
          refine ⟨_, rfl, hK'.out _ _ HS5 (fun _ => ?_)⟩
          clear hK' K'
          conv =>
            arg 8
            simp [go_sem]
          refine wpAnyH_take (i := 6) (v := ?_) rfl (by kernel_rfl) (by kernel_rfl) (by kernel_rfl) (fun _ _ _ h => h) (yieldsIf_val (by rfl) (fun w' hS => ?_)) HS5 ?_
          rotate_left
          · skip
            go_simp
            all_goals with_reducible rfl
          conv =>
            arg 8
            simp [go_sem]
          refine wpAnyH_take (i := 7) (v := ?_) rfl (by kernel_rfl) (by kernel_rfl) (by kernel_rfl) (fun _ _ _ h => h) (yieldsIf_val (by rfl) (fun w' hS => ?_)) HS5 ?_
          rotate_left
          · skip
            go_simp
            all_goals with_reducible rfl
          conv =>
            arg 8
            simp [go_sem]
          refine wpAnyH_take (i := 8) (v := ?_) rfl (by kernel_rfl) (by kernel_rfl) (by kernel_rfl) (fun _ _ _ h => h) (yieldsIf_val (by rfl) (fun w' hS => ?_)) HS5 ?_
          rotate_left
          · skip
            go_simp
            all_goals with_reducible rfl
          conv =>
            arg 8
            simp [go_sem]
          refine wpAnyH_take (i := 9) (v := ?_) rfl (by kernel_rfl) (by kernel_rfl) (by kernel_rfl) (fun _ _ _ h => h) (yieldsIf_val (by rfl) (fun w' hS => ?_)) HS5 ?_
          rotate_left
          · skip
            go_simp
            all_goals with_reducible rfl
          conv =>
            arg 8
            simp [go_sem]
          refine wpAnyH_take (i := 10) (v := ?_) rfl (by kernel_rfl) (by kernel_rfl) (by kernel_rfl) (fun _ _ _ h => h) (yieldsIf_val (by rfl) (fun w' hS => ?_)) HS5 ?_
          rotate_left
          · skip
            go_simp
            all_goals with_reducible rfl
          conv =>
            arg 8
            simp [go_sem]
          refine ⟨by kernel_rfl, ?_⟩
          conv =>
            arg 5
            simp [go_sem]
          obtain ⟨U, hU⟩ : ∃ U, unpackT t (M : Int) = U := ⟨_, rfl⟩
          rw [hU]
          have H5 := Box.mk HS5.1
          clear HS5
          have d0 := (H5.out.b.cell (p := ⟨g, off, none⟩) (cell_block_lt HC0.out)).trans HC0.out
          have HB5 := Box.mk H5.out.o
          cases hrt : rdT M t with
          | none =>
            have hun : unpackE U = 3 ∧ unpackS U = [] := by rw [← hU, HU.out, hrt]; exact ⟨rfl, rfl⟩
            rw [hun.1, hun.2]
            have HZ := Box.mk (show O = none from by rw [HX.out, hrt]; split <;> rfl)
            clear hU hun hrt
            have hz : ((3 : Int) != 0) = true := rfl
            go_wp2_with (with_reducible refine wpList_store_row rfl _ _ _ rfl rfl (by kernel_rfl) HB5.out rfl rfl (cs := [.int .i64 0, .int .i64 0, .string ⟨#[]⟩]) rfl rfl (val_one _ _ _) ?_)
            refine bodyPost_ret (results_cell2 rfl _ rfl (HB5.out.row [.int .i64 0, .int .i64 0, .string ⟨#[]⟩]) valTT) rfl ?_
            exact H5.out.none HZ.out _
          | some q =>
            obtain ⟨s, l3⟩ := q
            have hun : unpackE U = 0 ∧ unpackS U = s := by rw [← hU, HU.out, hrt]; exact ⟨rfl, rfl⟩
            rw [hun.1, hun.2]
            have hdr := rdT_drop hrt
            have hz : ((0 : Int) != 0) = false := rfl
            by_cases h40 : M ≤ 40
            · have HZ := Box.mk (show O = some (⟨kd, 0, s⟩, ((M : Int) :: t).drop (1 + nWords M)) from by rw [HX.out, hrt, if_pos h40, hdr.2, Nat.add_comm]; rfl)
              have HZ2 := Box.mk hdr.1
              have HL := Box.mk (fun w => rlong_any M (by omega) w)
              obtain ⟨N, hN⟩ : ∃ N, nWords M = N := ⟨_, rfl⟩
              rw [hN] at HL HZ HZ2
              have hN8 : N ≤ 1000 := by have := HZ2.out; omega
              have t40 : decide ((40 : Int) < (M : Int)) = false := decide_eq_false (by omega)
              clear hU hun hrt hdr hN hx0 hx1 h40 tn t1 t3 hcap htl hln HU HX HRD HWB H0 c0
              generalize (M : Int) = y at *
              go_wp2_with fail
              refine (HL.out _).mono ?_
              rintro e w6 ⟨rfl, rfl⟩
              go_wp2_with (with_reducible refine wpList_store_row rfl _ _ _ rfl rfl (by kernel_rfl) HB5.out rfl rfl (cs := [.int .i64 kd, .int .i64 0, .string ⟨s.toArray⟩]) rfl rfl (val_one _ _ _) ?_)
              refine bodyPost_ret (results_cell2 rfl _ rfl (HB5.out.row [.int .i64 kd, .int .i64 0, .string ⟨s.toArray⟩]) valTT) rfl ?_
              exact H5.out.some (N := 1 + N) HZ.out (by omega) (by have := HZ2.out; simp; omega) _
            · have HZ := Box.mk (show O = none from by rw [HX.out, hrt, if_neg h40])
              have t40 : decide ((40 : Int) < (M : Int)) = true := decide_eq_true (by omega)
              clear hU hun hrt hdr h40 hx0 hx1 tn t1 t3 hcap htl hln HU HX HRD HWB H0 c0
              generalize (M : Int) = y at *
              go_wp2_with (with_reducible refine wpList_store_row rfl _ _ _ rfl rfl (by kernel_rfl) HB5.out rfl rfl (cs := [.int .i64 0, .int .i64 0, .string ⟨#[]⟩]) rfl rfl (val_one _ _ _) ?_)
              refine bodyPost_ret (results_cell2 rfl _ rfl (HB5.out.row [.int .i64 0, .int .i64 0, .string ⟨#[]⟩]) valTT) rfl ?_
              exact H5.out.none HZ.out _
end Go.Proofs.Ytpgdfhncigmmbaa
