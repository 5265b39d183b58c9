/-
  The walks of reader.most and reader.value. No condition.
-/
import Derived.Test.YtpgdfhncigmmbaaWRdr
namespace Go.Proofs.Ytpgdfhncigmmbaa
open Go.RowKit

theorem most_ok {B g : Nat} {a : Option Addr} {n c : Nat} {l l' : List Int} {k : Nat} {x m : Int} {w : World} (hr : Rdr B w g a n c l k) (hB : B ≤ g) (hx : x < 1099511627776) (h : rdW (x + 1) (l.drop k) = some (m, l')) : Calls Try.prog 66 #[.pointer (some ⟨g, 0, none⟩), .int .i64 x] w (RdOk B (.int .i64 m) g a n c l (k + 1) w) := by
  obtain ⟨h0, hm0, hm1⟩ := rdW_some h
  have hw : rdW lim40 (l.drop k) = some (m, l') := by rw [h0]; exact rdW_cons hm0 (by unfold lim40; omega)
  have HC := Box.mk (word_ok hr hB hw)
  have hmx : m ≤ x := by omega
  clear hr h h0 hw
  go_enter Try.func66, Try.ntmps66
  go_wp2_with fail
  refine HC.out.mono ?_
  rintro e w' ⟨rfl, hr2, hb2⟩
  have H2 := Box.mk (And.intro hr2 hb2)
  clear hr2 hb2
  go_wp2_with fail
  go_ret
  exact ⟨rfl, H2.out.1, H2.out.2⟩
theorem most_no {B g : Nat} {a : Option Addr} {n c : Nat} {l : List Int} {k : Nat} {x : Int} {w : World} (hr : Rdr B w g a n c l k) (hB : B ≤ g) (h : rdW (x + 1) (l.drop k) = none) : Calls Try.prog 66 #[.pointer (some ⟨g, 0, none⟩), .int .i64 x] w (RdNo g w) := by
  cases hw : rdW lim40 (l.drop k) with
  | none =>
    have HC := Box.mk (word_no hr hw)
    clear hr h hw
    go_enter Try.func66, Try.ntmps66
    go_wp2_with fail
    refine HC.out.mono ?_
    rintro e w' ⟨rfl, hb2⟩
    go_wp2_with fail
    exact ⟨rfl, rfl, hb2⟩
  | some q =>
    obtain ⟨m, l'⟩ := q
    obtain ⟨h0, hm0, hm1⟩ := rdW_some hw
    have hxm : x < m := by
      rcases rdW_none h with h1 | ⟨y, l2, h1, h2⟩
      · rw [h1] at h0; cases h0
      · rw [h1] at h0
        simp only [List.cons.injEq] at h0
        omega
    have HC := Box.mk (word_ok hr hB hw)
    clear hr h h0 hw
    unfold lim40 at hm1
    go_enter Try.func66, Try.ntmps66
    go_wp2_with fail
    refine HC.out.mono ?_
    rintro e w' ⟨rfl, hr2, hb2⟩
    have H2 := Box.mk hb2
    clear hr2 hb2
    go_wp2_with fail
    exact ⟨rfl, rfl, H2.out⟩

/-- What a reading returns, one way or the other. -/
def RetRd (val : Val → Value) (B g : Nat) (a : Option Addr) (n c : Nat) (l : List Int) (o : Option (Val × List Int)) (w : World) (e : Ending) (w' : World) : Prop :=
  But [g] w w' ∧ ((∃ x k', o = some (x, l.drop k') ∧ e = .returned (val x) ∧ Rdr B w' g a n c l k') ∨ (o = none ∧ e = .panicked [{ v := errV, recovered := false }]))
theorem valTT : AggT Try.prog 59 3 := ⟨by kernel_rfl, by kernel_rfl⟩
theorem val_one (k n : Int) (s : ByteArray) : ∀ u ∈ [Value.int .i64 k, .int .i64 n, .string s], u.oneCell' = true := by
  intro u hu; simp at hu; rcases hu with rfl | rfl | rfl <;> rfl
/-- The cells of reader.value. -/
structure VSt (B g s : Nat) (w wr : World) (a : Option Addr) (n c : Nat) (l : List Int) (k : Nat) : Prop where
  r : Rdr B wr g a n c l k
  o : Blk wr s 59 [.int .i64 0, .int .i64 0, .string ⟨#[]⟩]
  b : But [g] w wr
theorem VSt.call {B g s : Nat} {w wr w' : World} {a : Option Addr} {n c : Nat} {l : List Int} {k k' : Nat} (h : VSt B g s w wr a n c l k) (hg : g < s) (hr : Rdr B w' g a n c l k') (hb : But [g] wr w') : VSt B g s w w' a n c l k' :=
  ⟨hr, h.o.but hb (by simp; omega), h.b.trans hb (fun x hx => .inl hx)⟩
theorem VSt.step {B g s : Nat} {w wr w' : World} {a : Option Addr} {n c : Nat} {l : List Int} {k : Nat} (h : VSt B g s w wr a n c l k) (hg : g < s) (hB : B ≤ g) (hb : Below wr.heap.size wr w') : VSt B g s w w' a n c l k := by
  have := h.r.blk.lt
  exact h.call hg (h.r.keep (hb.block _ h.r.blk.lt) (fun j hj => hb.block _ (by omega))) (But.ofBelow hb)
theorem VSt.start {B g : Nat} {w : World} {a : Option Addr} {n c : Nat} {l : List Int} {k : Nat} (hr : Rdr B w g a n c l k) (hB : B ≤ g) : VSt B g w.heap.size w (w.alloc (.cells #[.int .i64 0, .int .i64 0, .string ⟨#[]⟩] 59)) a n c l k := by
  have hg := hr.blk.lt
  exact ⟨hr.keep (heap_alloc_old _ _ hg) (fun x hx => heap_alloc_old _ _ (by omega)), Blk.new rfl rfl, (But.refl _ _).alloc _⟩
theorem VSt.fin {B g : Nat} {w wr : World} {a : Option Addr} {n c : Nat} {l : List Int} {k : Nat} (h : VSt B g w.heap.size w wr a n c l k) (hg : g < w.heap.size) (hB : B ≤ g) (ds : Array Value) (x : Val) {O : Option (Val × List Int)} (hO : O = some (x, l.drop k)) :
    RetRd Val.v B g a n c l O w (.returned x.v) (wr.setRow w.heap.size ds) :=
  ⟨h.b.setRow (.inr (Nat.le_refl _)) ds, .inl ⟨x, k, hO, rfl, h.r.keep (setRow_other _ _ _ _ (by omega)) (fun y hy => setRow_other _ _ _ _ (by omega))⟩⟩
theorem rdT_drop {l l' : List Int} {n : Nat} {s : List UInt8} (h : rdT n l = some (s, l')) : nWords n ≤ l.length ∧ l' = l.drop (nWords n) := by
  unfold rdT at h
  obtain ⟨q, h1, h2⟩ := Option.bind_eq_some_iff.1 h
  have := rdB_drop h1
  split at h2
  · simp only [Option.some.injEq, Prod.mk.injEq] at h2
    exact ⟨this.1, by rw [← h2.2]; exact this.2⟩
  · cases h2
theorem nm_unp : (Try.f21.name == "runtime.NumGoroutine") = false := by kernel_rfl
theorem bd_unp : Try.f21.body.isNone = false := by kernel_rfl
theorem nm_long : (Try.f44.name == "runtime.NumGoroutine") = false := by kernel_rfl
theorem bd_long : Try.f44.body.isNone = false := by kernel_rfl

set_option maxRecDepth 20000 in
set_option maxHeartbeats 4000000 in
theorem value_rd {B g : Nat} {a : Option Addr} {n c : Nat} {l : List Int} {k : Nat} {kd : Int} {w : World} (hr : Rdr B w g a n c l k) (hB : B ≤ g) (hn : n ≤ 1000) : Calls Try.prog 41 #[.pointer (some ⟨g, 0, none⟩), .int .i64 kd] w (RetRd Val.v B g a n c l (rdV kd (l.drop k)) w) := by
  generalize hO : rdV kd (l.drop k) = O
  have hgs := hr.blk.lt
  have H0 := Box.mk (VSt.start hr hB)
  clear hr
  unfold rdV at hO
  by_cases h1 : kd = 1
  · subst h1
    rw [if_pos rfl] at hO
    have HO := Box.mk hO
    clear hO
    go_enter Try.func41, Try.ntmps41
    go_wp2_with fail
    generalize (w.alloc (.cells #[.int .i64 0, .int .i64 0, .string ⟨#[]⟩] 59)) = w1 at *
    cases hw : rdW lim40 (l.drop k) with
    | none =>
      refine (word_no H0.out.r hw).mono ?_
      rintro e w2 ⟨rfl, hb2⟩
      have hX := HO.out
      rw [hw] at hX
      subst hX
      go_wp2_with fail
      exact ⟨rfl, H0.out.b.trans hb2 (fun x hx => .inl hx), .inr ⟨rfl, rfl⟩⟩
    | some q =>
      obtain ⟨m, lm⟩ := q
      refine (word_ok H0.out.r hB hw).mono ?_
      rintro e w2 ⟨rfl, hr2, hb2⟩
      have H2 := Box.mk (H0.out.call hgs hr2 hb2)
      obtain ⟨hm, hm0, hm1⟩ := rdW_some hw
      have hX := HO.out
      rw [hw, (drop_cons_get hm).2.2] at hX
      subst hX
      unfold lim40 at hm1
      have HBL := Box.mk H2.out.o
      clear hr2 hb2 hw hm
      go_wp2_with (with_reducible refine wpList_store_row rfl _ _ _ rfl rfl (by kernel_rfl) HBL.out rfl rfl (cs := [.int .i64 1, .int .i64 (m - 549755813888), .string ⟨#[]⟩]) rfl rfl (val_one _ _ _) ?_)
      refine bodyPost_ret (results_cell1 rfl _ rfl (HBL.out.row [.int .i64 1, .int .i64 (m - 549755813888), .string ⟨#[]⟩]) valTT) rfl ?_
      exact H2.out.fin hgs hB _ ⟨1, m - 549755813888, []⟩ rfl
  · rw [if_neg h1] at hO
    by_cases h3 : kd = 3
    · subst h3
      rw [if_pos rfl] at hO
      have HO := Box.mk hO
      clear hO h1
      go_enter Try.func41, Try.ntmps41
      go_wp2_with fail
      generalize (w.alloc (.cells #[.int .i64 0, .int .i64 0, .string ⟨#[]⟩] 59)) = w1 at *
      cases hw : rdW 2 (l.drop k) with
      | none =>
        refine (most_no (x := 1) H0.out.r hB hw).mono ?_
        rintro e w2 ⟨rfl, hb2⟩
        have hX := HO.out
        rw [hw] at hX
        subst hX
        go_wp2_with fail
        exact ⟨rfl, H0.out.b.trans hb2 (fun x hx => .inl hx), .inr ⟨rfl, rfl⟩⟩
      | some q =>
        obtain ⟨m, lm⟩ := q
        refine (most_ok (x := 1) H0.out.r hB (by decide) hw).mono ?_
        rintro e w2 ⟨rfl, hr2, hb2⟩
        have H2 := Box.mk (H0.out.call hgs hr2 hb2)
        obtain ⟨hm, hm0, hm1⟩ := rdW_some hw
        have hX := HO.out
        rw [hw, (drop_cons_get hm).2.2] at hX
        subst hX
        have HBL := Box.mk H2.out.o
        clear hr2 hb2 hw hm
        go_wp2_with (with_reducible refine wpList_store_row rfl _ _ _ rfl rfl (by kernel_rfl) HBL.out rfl rfl (cs := [.int .i64 3, .int .i64 m, .string ⟨#[]⟩]) rfl rfl (val_one _ _ _) ?_)
        refine bodyPost_ret (results_cell1 rfl _ rfl (HBL.out.row [.int .i64 3, .int .i64 m, .string ⟨#[]⟩]) valTT) rfl ?_
        exact H2.out.fin hgs hB _ ⟨3, m, []⟩ rfl
    · rw [if_neg h3] at hO
      have HO := Box.mk hO
      have t1 : (kd == 1) = false := by simp [h1]
      have t3 : (kd == 3) = false := by simp [h3]
      clear hO h1 h3
      go_enter Try.func41, Try.ntmps41
      go_wp2_with fail
      generalize (w.alloc (.cells #[.int .i64 0, .int .i64 0, .string ⟨#[]⟩] 59)) = w1 at *
      cases hw : rdW 41 (l.drop k) with
      | none =>
        refine (most_no (x := 40) H0.out.r hB hw).mono ?_
        rintro e w2 ⟨rfl, hb2⟩
        have hX := HO.out
        rw [hw] at hX
        subst hX
        go_wp2_with fail
        exact ⟨rfl, H0.out.b.trans hb2 (fun x hx => .inl hx), .inr ⟨rfl, rfl⟩⟩
      | some q =>
        obtain ⟨m, lm⟩ := q
        refine (most_ok (x := 40) H0.out.r hB (by decide) hw).mono ?_
        rintro e w2 ⟨rfl, hr2, hb2⟩
        have H2 := Box.mk (H0.out.call hgs hr2 hb2)
        obtain ⟨hm, hm0, hm1⟩ := rdW_some hw
        have hX := HO.out
        rw [hw, (drop_cons_get hm).2.2] at hX
        simp only [Option.bind_some] at hX
        obtain ⟨M, rfl⟩ := Int.eq_ofNat_of_zero_le hm0
        rw [Int.toNat_natCast] at hX
        have HX := Box.mk hX
        have hM : M ≤ 40 := by omega
        have hNW := Box.mk (show nWords M ≤ 8 by unfold nWords; omega)
        have HU := Box.mk (show unpackT (l.drop (k + 1)) (M : Int) = (rdT M (l.drop (k + 1))).map (·.1) from by unfold unpackT; rw [if_neg (by omega), Int.toNat_natCast])
        have hrd := H2.out.r.rd
        have hle := H2.out.r.le
        have hcap := hrd.hcap
        obtain ⟨b, off, rfl, _⟩ := hrd.intAtD k (by omega)
        have hsub := hrd.sub (k + 1) n c hle (Nat.le_refl _) hcap (Nat.le_refl _)
        simp only [Nat.mul_one] at hsub
        obtain ⟨a', ha'⟩ : ∃ A, (if c = k + 1 then some (⟨b, off, none⟩ : Addr) else some (⟨b, off + (k + 1), none⟩ : Addr)) = A := ⟨_, rfl⟩
        have ha2 : (if c = k + 1 then some (⟨b, off, none⟩ : Addr) else (some (⟨b, off, none⟩ : Addr)).map (·.add (k + 1))) = a' := by rw [← ha']; rfl
        rw [ha2] at hsub
        have hln := hrd.ilen
        have hxs : (List.drop (k + 1) (intVals l)).take (n - (k + 1)) = intVals (l.drop (k + 1)) := by
          rw [List.take_of_length_le (by rw [List.length_drop, intVals_length]; omega)]
          simp [intVals, List.map_drop]
        rw [hxs] at hsub
        clear hr2 hb2 hw HO hX hm hrd hxs ha2
        have HS0 : VSt B g w.heap.size w w2.drew (some ⟨b, off, none⟩) n c l (k + 1) ∧ Rd w2.drew a' (n - (k + 1)) (c - (k + 1)) 1 (intVals (l.drop (k + 1))) := ⟨H2.out.call hgs (H2.out.r.keep rfl (fun _ _ => rfl)) (But.refl _ _).drew, hsub.drew⟩
        clear hsub
        go_wp2_with fail
        refine wp_region_held_drew (S := fun w' => VSt B g w.heap.size w w' (some ⟨b, off, none⟩) n c l (k + 1) ∧ Rd w' a' (n - (k + 1)) (c - (k + 1)) 1 (intVals (l.drop (k + 1)))) (by kernel_rfl) HS0 (fun _ => ?_)
        refine wpAnyH_take (i := 0) (v := ?_) rfl (by kernel_rfl) (by kernel_rfl) (by kernel_rfl) (fun _ _ _ h => h) (yieldsIf_val (by rfl) (fun w' hS => ?_)) HS0 ?_
        rotate_left
        · skip
          go_simp
          all_goals with_reducible rfl
        conv =>
          arg 8
          simp [go_sem]
        refine wpAnyH_take (i := 1) (v := ?_) rfl (by kernel_rfl) (by kernel_rfl) (by kernel_rfl) (fun _ _ _ h => h) (yieldsIf_val (by rfl) (fun w' hS => ?_)) HS0 ?_
        rotate_left
        · skip
          go_simp
          all_goals with_reducible rfl
        conv =>
          arg 8
          simp [go_sem]
        refine wpAnyH_take (i := 2) (v := ?_) rfl (by kernel_rfl) (by kernel_rfl) (by kernel_rfl) (fun _ _ _ h => h) (yieldsIf_val (by rfl) (fun w' hS => ?_)) HS0 ?_
        rotate_left
        · skip
          go_simp
          all_goals with_reducible rfl
        conv =>
          arg 8
          simp [go_sem]
        refine wpAnyH_take (i := 3) (v := ?_) rfl (by kernel_rfl) (by kernel_rfl) (by kernel_rfl) (fun _ _ _ h => h) (yieldsIf_val (by rfl) (fun w' hS => ?_)) HS0 ?_
        rotate_left
        · skip
          have q := hS.1.r.blk.cellOf (i := 0) rfl
          go_simp
          all_goals with_reducible rfl
        conv =>
          arg 8
          simp [go_sem]
        refine wpAnyH_take (i := 4) (v := ?_) rfl (by kernel_rfl) (by kernel_rfl) (by kernel_rfl) (fun _ _ _ h => h) (yieldsIf_val (by rfl) (fun w' hS => ?_)) HS0 ?_
        rotate_left
        · skip
          go_simp
          all_goals with_reducible rfl
        conv =>
          arg 8
          simp [go_sem]
        refine wpAnyH_take (i := 5) (v := ?_) rfl (by kernel_rfl) (by kernel_rfl) (by kernel_rfl) (fun _ _ _ h => h) (yieldsIf_val (by rfl) (fun w' hS => ?_)) HS0 ?_
        rotate_left
        · skip
          go_simp
          all_goals with_reducible rfl
        conv =>
          arg 8
          simp [go_sem]
        refine wpAnyH_take (i := 6) (v := ?_) rfl (by kernel_rfl) (by kernel_rfl) (by kernel_rfl) (fun _ _ _ h => h) (yieldsIf_val (by rfl) (fun w' hS => ?_)) HS0 ?_
        rotate_left
        · skip
          go_simp
          all_goals with_reducible rfl
        conv =>
          arg 8
          simp [go_sem]
        refine wpAnyH_take (i := 7) (v := ?_) rfl (by kernel_rfl) (by kernel_rfl) (by kernel_rfl) (fun _ _ _ h => h) (yieldsIf_val (by rfl) (fun w' hS => ?_)) HS0 ?_
        rotate_left
        · skip
          have q := hS.1.r.blk.cellOf (i := 1) rfl
          go_simp
          all_goals with_reducible rfl
        conv =>
          arg 8
          simp [go_sem]
        refine wpAnyH_take (i := 8) (v := ?_) rfl (by kernel_rfl) (by kernel_rfl) (by kernel_rfl) (fun _ _ _ h => h) (yieldsIf_val (by rfl) (fun w' hS => ?_)) HS0 ?_
        rotate_left
        · skip
          have q0 : (0 : Int) ≤ (k : Int) + 1 := by omega
          have q1 : (k : Int) + 1 ≤ (n : Int) := by omega
          go_simp
          all_goals with_reducible rfl
        conv =>
          arg 8
          simp [go_sem]
        refine wpAnyH_take (i := 9) (v := ?_) rfl (by kernel_rfl) (by kernel_rfl) (by kernel_rfl) (fun _ _ _ h => h) (yieldsIf_val (by rfl) (fun w' hS => ?_)) HS0 ?_
        rotate_left
        · skip
          go_simp
          all_goals with_reducible rfl
        conv =>
          arg 8
          simp [go_sem]
        conv =>
          arg 8
          simp [go_sem]
        refine wpAnyH_ready (rs := [10]) (by kernel_rfl) (by simp) (AllReadyH.cons rfl (fun K' hK' => oper_call (by rfl) 21 [.tmp 33, .tmp 34] #[29, 3] rfl (vs := [.slice a' (n - (k + 1)) (c - (k + 1)), .int .i64 (M : Int)]) rfl Try.func21 nm_unp bd_unp (unpack_any HS0.2 (by omega) (by omega)) ?_) AllReadyH.nil)
        rintro e w5 ⟨rfl, hb5⟩
        have HS5 := And.intro (HS0.1.step hgs hB hb5) (HS0.2.call0 hb5)
        refine ⟨_, rfl, hK'.out _ _ HS5 (fun _ => ?_)⟩
        clear hK' K'
        conv =>
          arg 8
          simp [go_sem]
        refine wpAnyH_take (i := 11) (v := ?_) rfl (by kernel_rfl) (by kernel_rfl) (by kernel_rfl) (fun _ _ _ h => h) (yieldsIf_val (by rfl) (fun w' hS => ?_)) HS5 ?_
        rotate_left
        · skip
          go_simp
          all_goals with_reducible rfl
        conv =>
          arg 8
          simp [go_sem]
        refine wpAnyH_take (i := 12) (v := ?_) rfl (by kernel_rfl) (by kernel_rfl) (by kernel_rfl) (fun _ _ _ h => h) (yieldsIf_val (by rfl) (fun w' hS => ?_)) HS5 ?_
        rotate_left
        · skip
          go_simp
          all_goals with_reducible rfl
        conv =>
          arg 8
          simp [go_sem]
        refine wpAnyH_take (i := 13) (v := ?_) rfl (by kernel_rfl) (by kernel_rfl) (by kernel_rfl) (fun _ _ _ h => h) (yieldsIf_val (by rfl) (fun w' hS => ?_)) HS5 ?_
        rotate_left
        · skip
          go_simp
          all_goals with_reducible rfl
        conv =>
          arg 8
          simp [go_sem]
        refine wpAnyH_take (i := 14) (v := ?_) rfl (by kernel_rfl) (by kernel_rfl) (by kernel_rfl) (fun _ _ _ h => h) (yieldsIf_val (by rfl) (fun w' hS => ?_)) HS5 ?_
        rotate_left
        · skip
          go_simp
          all_goals with_reducible rfl
        conv =>
          arg 8
          simp [go_sem]
        refine wpAnyH_take (i := 15) (v := ?_) rfl (by kernel_rfl) (by kernel_rfl) (by kernel_rfl) (fun _ _ _ h => h) (yieldsIf_val (by rfl) (fun w' hS => ?_)) HS5 ?_
        rotate_left
        · skip
          go_simp
          all_goals with_reducible rfl
        conv =>
          arg 8
          simp [go_sem]
        refine ⟨by kernel_rfl, ?_⟩
        conv =>
          arg 5
          simp [go_sem]
        generalize hU : unpackT (l.drop (k + 1)) (M : Int) = U at *
        cases hrt : rdT M (l.drop (k + 1)) with
        | none =>
          have hX := HX.out
          rw [hrt] at hX
          subst hX
          have hun : unpackE U = 3 ∧ unpackS U = [] := by rw [HU.out, hrt]; exact ⟨rfl, rfl⟩
          rw [hun.1, hun.2]
          clear hU hun
          have hz : ((3 : Int) != 0) = true := rfl
          go_wp2_with fail
          exact ⟨rfl, HS5.1.b, .inr ⟨rfl, rfl⟩⟩
        | some q =>
          obtain ⟨s, l3⟩ := q
          have hun : unpackE U = 0 ∧ unpackS U = s := by rw [HU.out, hrt]; exact ⟨rfl, rfl⟩
          rw [hun.1, hun.2]
          have hX := HX.out
          rw [hrt] at hX
          have hdr := rdT_drop hrt
          rw [hdr.2, List.drop_drop] at hX
          have hlen : k + 1 + nWords M ≤ n := by have := hdr.1; rw [List.length_drop] at this; omega
          subst hX
          clear hU hun hdr hrt
          have HL := Box.mk (fun w => long_any M (by omega) w)
          obtain ⟨N, hN⟩ : ∃ N, nWords M = N := ⟨_, rfl⟩
          rw [hN] at HL hlen hNW ⊢
          have HNN := Box.mk hN
          clear hN
          have hN8 := hNW.out
          have HS6 : VSt B g w.heap.size w w5.drew (some ⟨b, off, none⟩) n c l (k + 1) ∧ True := And.intro (HS5.1.call hgs (HS5.1.r.keep rfl (fun _ _ => rfl)) (But.refl _ _).drew) True.intro
          have hle' := HS5.1.r.le
          have hz : ((0 : Int) != 0) = false := rfl
          go_wp2_with fail
          refine wp_region_held_drew (S := fun _ => True) (by kernel_rfl) trivial (fun _ => ?_)
          refine wpAnyH_take (i := 0) (v := ?_) rfl (by kernel_rfl) (by kernel_rfl) (by kernel_rfl) (fun _ _ _ h => h) (yieldsIf_val (by rfl) (fun w' hS => ?_)) trivial ?_
          rotate_left
          · skip
            go_simp
            all_goals with_reducible rfl
          conv =>
            arg 8
            simp [go_sem]
          refine wpAnyH_take (i := 1) (v := ?_) rfl (by kernel_rfl) (by kernel_rfl) (by kernel_rfl) (fun _ _ _ h => h) (yieldsIf_val (by rfl) (fun w' hS => ?_)) trivial ?_
          rotate_left
          · skip
            go_simp
            all_goals with_reducible rfl
          conv =>
            arg 8
            simp [go_sem]
          refine wpAnyH_take (i := 2) (v := ?_) rfl (by kernel_rfl) (by kernel_rfl) (by kernel_rfl) (fun _ _ _ h => h) (yieldsIf_val (by rfl) (fun w' hS => ?_)) trivial ?_
          rotate_left
          · skip
            go_simp
            all_goals with_reducible rfl
          conv =>
            arg 8
            simp [go_sem]
          refine wpAnyH_take (i := 4) (v := ?_) rfl (by kernel_rfl) (by kernel_rfl) (by kernel_rfl) (fun _ _ _ h => h) (yieldsIf_val (by rfl) (fun w' hS => ?_)) trivial ?_
          rotate_left
          · skip
            go_simp
            all_goals with_reducible rfl
          conv =>
            arg 8
            simp [go_sem]
          conv =>
            arg 8
            simp [go_sem]
          refine wpAnyH_ready (rs := [3, 5]) (by kernel_rfl) (by simp) ?_
          refine AllReadyH.cons rfl (fun K' hK' => ?_) (AllReadyH.cons rfl (fun K' hK' => ?_) AllReadyH.nil)
          · refine oper_load1 (by rfl) 3 (.tmp 44) rfl (by kernel_rfl) rfl (HS6.1.r.blk.cellOf (i := 1) rfl) ?_
            refine hK'.out _ _ trivial (fun _ => ?_)
            clear hK' K'
            conv =>
              arg 8
              simp [go_sem]
            conv =>
              arg 8
              simp [go_sem]
            refine wpAnyH_ready (rs := [5]) (by kernel_rfl) (by simp) ?_
            refine AllReadyH.cons rfl (fun K' hK' => ?_) AllReadyH.nil
            refine oper_call (by rfl) 44 [.tmp 46] #[3] rfl (vs := [.int .i64 (M : Int)]) rfl Try.func44 nm_long bd_long (HL.out _) ?_
            rintro e w6 ⟨rfl, rfl⟩
            refine ⟨_, rfl, hK'.out _ _ trivial (fun _ => ?_)⟩
            clear hK' K'
            conv =>
              arg 8
              simp [go_sem]
            refine wpAnyH_take (i := 6) (v := ?_) rfl (by kernel_rfl) (by kernel_rfl) (by kernel_rfl) (fun _ _ _ h => h) (yieldsIf_val (by rfl) (fun w' hS => ?_)) trivial ?_
            rotate_left
            · skip
              have q : IntKind.i64.wrap ((k : Int) + 1 + (N : Int)) = (k : Int) + 1 + (N : Int) := by rw [IntKind.wrap_i64]; omega
              go_simp
              all_goals with_reducible rfl
            conv =>
              arg 8
              simp [go_sem]
            refine wpAnyH_take (i := 7) (v := ?_) rfl (by kernel_rfl) (by kernel_rfl) (by kernel_rfl) (fun _ _ _ h => h) (yieldsIf_val (by rfl) (fun w' hS => ?_)) trivial ?_
            rotate_left
            · skip
              go_simp
              all_goals with_reducible rfl
            conv =>
              arg 8
              simp [go_sem]
            refine wpAnyH_take (i := 8) (v := ?_) rfl (by kernel_rfl) (by kernel_rfl) (by kernel_rfl) (fun _ _ _ h => h) (yieldsIf_val (by rfl) (fun w' hS => ?_)) trivial ?_
            rotate_left
            · skip
              go_simp
              all_goals with_reducible rfl
            conv =>
              arg 8
              simp [go_sem]
            conv =>
              arg 8
              simp [go_sem]
            refine wpAnyH_ready (rs := [9]) (by kernel_rfl) (by simp) ?_
            refine AllReadyH.cons rfl (fun K' hK' => ?_) AllReadyH.nil
            refine oper_store_part (by rfl) 3 (.tmp 50) (.tmp 48) rfl rfl (size := 1) (off := 1) (by kernel_rfl) HS6.1.r.blk (by simp) rfl (cs := [.int .i64 ((k : Int) + 1 + (N : Int))]) rfl rfl (oneI _) ?_
            refine hK'.out _ _ trivial (fun _ => ?_)
            clear hK' K'
            conv =>
              arg 8
              simp [go_sem]
            refine ⟨by kernel_rfl, ?_⟩
            conv =>
              arg 5
              simp [go_sem]
            have HSP : splice [Value.slice (some ⟨b, off, none⟩) n c, .int .i64 ((k : Int) + 1)] 1 [.int .i64 ((k : Int) + 1 + (N : Int))] = [.slice (some ⟨b, off, none⟩) n c, .int .i64 ((k + 1 + N : Nat) : Int)] := by simp [splice]
            rw [HSP]
            have HB7 := HS6.1.r.blk.row [.slice (some ⟨b, off, none⟩) n c, .int .i64 ((k + 1 + N : Nat) : Int)]
            have H7 := Box.mk (HS6.1.call hgs (HS6.1.r.move (fun j hj => setRow_other _ _ _ _ (by omega)) (k + 1 + N) hlen HB7) ((But.refl _ _).setRow (.inl (by simp)) _))
            generalize (w5.drew.setRow g [Value.slice (some ⟨b, off, none⟩) n c, .int .i64 ((k + 1 + N : Nat) : Int)].toArray) = w8 at *
            have HBL := Box.mk H7.out.o
            go_wp2_with (with_reducible refine wpList_store_row rfl _ _ _ rfl rfl (by kernel_rfl) HBL.out rfl rfl (cs := [.int .i64 kd, .int .i64 0, .string ⟨s.toArray⟩]) rfl rfl (val_one _ _ _) ?_)
            refine bodyPost_ret (results_cell1 rfl _ rfl (HBL.out.row [.int .i64 kd, .int .i64 0, .string ⟨s.toArray⟩]) valTT) rfl ?_
            exact H7.out.fin hgs hB _ ⟨kd, 0, s⟩ (by rw [HNN.out]; rfl)
          · refine oper_call (by rfl) 44 [.tmp 46] #[3] rfl (vs := [.int .i64 (M : Int)]) rfl Try.func44 nm_long bd_long (HL.out _) ?_
            rintro e w6 ⟨rfl, rfl⟩
            refine ⟨_, rfl, hK'.out _ _ trivial (fun _ => ?_)⟩
            clear hK' K'
            conv =>
              arg 8
              simp [go_sem]
            conv =>
              arg 8
              simp [go_sem]
            refine wpAnyH_ready (rs := [3]) (by kernel_rfl) (by simp) ?_
            refine AllReadyH.cons rfl (fun K' hK' => ?_) AllReadyH.nil
            refine oper_load1 (by rfl) 3 (.tmp 44) rfl (by kernel_rfl) rfl (HS6.1.r.blk.cellOf (i := 1) rfl) ?_
            refine hK'.out _ _ trivial (fun _ => ?_)
            clear hK' K'
            conv =>
              arg 8
              simp [go_sem]
            refine wpAnyH_take (i := 6) (v := ?_) rfl (by kernel_rfl) (by kernel_rfl) (by kernel_rfl) (fun _ _ _ h => h) (yieldsIf_val (by rfl) (fun w' hS => ?_)) trivial ?_
            rotate_left
            · skip
              have q : IntKind.i64.wrap ((k : Int) + 1 + (N : Int)) = (k : Int) + 1 + (N : Int) := by rw [IntKind.wrap_i64]; omega
              go_simp
              all_goals with_reducible rfl
            conv =>
              arg 8
              simp [go_sem]
            refine wpAnyH_take (i := 7) (v := ?_) rfl (by kernel_rfl) (by kernel_rfl) (by kernel_rfl) (fun _ _ _ h => h) (yieldsIf_val (by rfl) (fun w' hS => ?_)) trivial ?_
            rotate_left
            · skip
              go_simp
              all_goals with_reducible rfl
            conv =>
              arg 8
              simp [go_sem]
            refine wpAnyH_take (i := 8) (v := ?_) rfl (by kernel_rfl) (by kernel_rfl) (by kernel_rfl) (fun _ _ _ h => h) (yieldsIf_val (by rfl) (fun w' hS => ?_)) trivial ?_
            rotate_left
            · skip
              go_simp
              all_goals with_reducible rfl
            conv =>
              arg 8
              simp [go_sem]
            conv =>
              arg 8
              simp [go_sem]
            refine wpAnyH_ready (rs := [9]) (by kernel_rfl) (by simp) ?_
            refine AllReadyH.cons rfl (fun K' hK' => ?_) AllReadyH.nil
            refine oper_store_part (by rfl) 3 (.tmp 50) (.tmp 48) rfl rfl (size := 1) (off := 1) (by kernel_rfl) HS6.1.r.blk (by simp) rfl (cs := [.int .i64 ((k : Int) + 1 + (N : Int))]) rfl rfl (oneI _) ?_
            refine hK'.out _ _ trivial (fun _ => ?_)
            clear hK' K'
            conv =>
              arg 8
              simp [go_sem]
            refine ⟨by kernel_rfl, ?_⟩
            conv =>
              arg 5
              simp [go_sem]
            have HSP : splice [Value.slice (some ⟨b, off, none⟩) n c, .int .i64 ((k : Int) + 1)] 1 [.int .i64 ((k : Int) + 1 + (N : Int))] = [.slice (some ⟨b, off, none⟩) n c, .int .i64 ((k + 1 + N : Nat) : Int)] := by simp [splice]
            rw [HSP]
            have HB7 := HS6.1.r.blk.row [.slice (some ⟨b, off, none⟩) n c, .int .i64 ((k + 1 + N : Nat) : Int)]
            have H7 := Box.mk (HS6.1.call hgs (HS6.1.r.move (fun j hj => setRow_other _ _ _ _ (by omega)) (k + 1 + N) hlen HB7) ((But.refl _ _).setRow (.inl (by simp)) _))
            generalize (w5.drew.setRow g [Value.slice (some ⟨b, off, none⟩) n c, .int .i64 ((k + 1 + N : Nat) : Int)].toArray) = w8 at *
            have HBL := Box.mk H7.out.o
            go_wp2_with (with_reducible refine wpList_store_row rfl _ _ _ rfl rfl (by kernel_rfl) HBL.out rfl rfl (cs := [.int .i64 kd, .int .i64 0, .string ⟨s.toArray⟩]) rfl rfl (val_one _ _ _) ?_)
            refine bodyPost_ret (results_cell1 rfl _ rfl (HBL.out.row [.int .i64 kd, .int .i64 0, .string ⟨s.toArray⟩]) valTT) rfl ?_
            exact H7.out.fin hgs hB _ ⟨kd, 0, s⟩ (by rw [HNN.out]; rfl)
          done
end Go.Proofs.Ytpgdfhncigmmbaa
