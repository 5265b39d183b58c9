/-
  The walks of the reference's Same, Right and Valid, and of the law's table. No condition.
-/
import Derived.Test.YtpgdfhncigmmbaaRDif
namespace Go.Proofs.Ytpgdfhncigmmbaa
open Go.RowKit

theorem diffUp_nil {x y : List Val} {k : Nat} : diffUp x y k = [] ↔ ∀ j, j < k → difB x y j = false := by
  induction k with
  | zero => simp [diffUp]
  | succ k ih =>
    cases h : difB x y k with
    | true =>
      rw [diffUp_hit h]
      constructor
      · intro h2; simp at h2
      · intro h2; have := h2 k (by omega); rw [h] at this; cases this
    | false =>
      rw [diffUp_miss h, ih]
      constructor
      · intro h2 j hj
        by_cases e : j = k
        · subst e; exact h
        · exact h2 j (by omega)
      · intro h2 j hj; exact h2 j (by omega)
theorem diffR_nil {x y : List Val} (hl : x.length = y.length) : diffR x y = [] ↔ x = y := by
  unfold diffR
  rw [diffUp_nil]
  constructor
  · intro h
    refine list_eq_of (k := x.length) (fun j hj => ?_) hl rfl
    have := h j (by omega)
    unfold difB at this
    simp only [Bool.or_eq_false_iff, decide_eq_false_iff_not] at this
    exact Decidable.not_not.1 this.2
  · intro h j hj
    subst h
    unfold difB
    simp; omega
theorem rdiff_is {x y : List Val} {L : List Int} (h : diffR x y = L) {a b : Option Addr} {n c m d : Nat} {w : World} (ha : Rd w a n c 3 (recC Val.enc x)) (hb : Rd w b m d 3 (recC Val.enc y)) (hn : n ≤ 1000) (hm : m ≤ 1000) : Calls Try.prog 29 #[.slice a n c, .slice b m d] w (RetL L w) := by
  subst h; exact rdiff_any ha hb hn hm
set_option maxRecDepth 20000 in
set_option maxHeartbeats 2000000 in
theorem rsame_any {x y : List Val} {a b : Option Addr} {n c m d : Nat} {w : World} (ha : Rd w a n c 3 (recC Val.enc x)) (hb : Rd w b m d 3 (recC Val.enc y)) (hn : n ≤ 1000) (hm : m ≤ 1000) : Calls Try.prog 19 #[.slice a n c, .slice b m d] w (RetV (.bool (decide (x = y))) w) := by
  have hln := ha.rlen Val.enc_len (by omega)
  have hlm := hb.rlen Val.enc_len (by omega)
  generalize hD : decide (x = y) = D
  by_cases hnm : n = m
  · have t1 : ((n : Int) == (m : Int)) = true := by simp [hnm]
    generalize hL : diffR x y = L
    have HC := Box.mk (rdiff_is hL ha hb hn hm)
    have hz : decide ((L.length : Int) = 0) = D := by
      rw [← hD, ← hL, Bool.eq_iff_iff]
      have := diffR_nil (x := x) (y := y) (by omega)
      simp only [decide_eq_true_eq]
      rw [← this]
      constructor
      · intro h; exact List.eq_nil_of_length_eq_zero (by omega)
      · intro h; rw [h]; rfl
    have HZ := Box.mk (show ((L.length : Int) == 0) = D from by rw [← hz, Bool.eq_iff_iff]; simp)
    clear ha hb hL hz hnm hD
    go_enter Try.func19, Try.ntmps19
    go_wp2_with fail
    refine HC.out.mono ?_
    rintro e w1 ⟨hb1, a1, c1, rfl, _⟩
    have hzz := HZ.out
    generalize L.length = l at *
    go_wp2_with fail
    go_ret
    exact ⟨by first | rfl | (rw [← hzz]; rfl) | simp [hzz], hb1⟩
  · have t1 : ((n : Int) == (m : Int)) = false := by simp; omega
    have hD2 : D = false := by rw [← hD]; exact decide_eq_false (fun h => hnm (by rw [← hln, ← hlm, h]))
    subst hD2
    clear ha hb hD hnm
    go_enter Try.func19, Try.ntmps19
    go_wp2_with fail
    go_ret
    exact ⟨rfl, Below.refl _ _⟩

/-- At most twenty values, all of them right. -/
def rightB (r : List Val) : Bool := r.all (fun v => validB v || nullB v) && decide (r.length ≤ 20)
theorem rightB_true {r : List Val} (h : rightB r = true) : OkR r ∧ r.length ≤ 20 := by
  unfold rightB at h
  rw [Bool.and_eq_true, List.all_eq_true] at h
  exact ⟨fun v hv => h.1 v hv, of_decide_eq_true h.2⟩
set_option maxRecDepth 20000 in
set_option maxHeartbeats 2000000 in
theorem right_any {r : List Val} {a : Option Addr} {n c : Nat} {w : World} (ha : Rd w a n c 3 (recC Val.enc r)) : Calls Try.prog 34 #[.slice a n c] w (RetV (.bool (rightB r)) w) := by
  have hln := ha.rlen Val.enc_len (by omega)
  have hmx := ha.lenMax
  have HA := Box.mk ha
  clear ha
  generalize hD : rightB r = D
  have HD := Box.mk hD
  clear hD
  go_enter Try.func34, Try.ntmps34
  go_wp2_with fail
  go_loopw [3] (fun i wr => ∃ k : Nat, k ≤ n ∧ i = .int .i64 k ∧ Box ((∀ j, j < k → (validB (r.getD j default) || nullB (r.getD j default)) = true) ∧ Below w.heap.size w wr)) (fun i _ => n - (intOf i).toNat)
  case atStart => exact ⟨0, Nat.zero_le _, rfl, ⟨fun j hj => by omega, Below.refl _ _⟩⟩
  case round =>
    obtain ⟨k, hk, rfl, HB⟩ := hrel
    by_cases hlt : k < n
    · obtain ⟨g, off, rfl, _, hc⟩ := (HA.out.below HB.out.2 (Nat.le_refl _)).recAt Val.enc_len (by omega) k hlt
      generalize hy : r.getD k default = y at *
      cases hv : (validB y || nullB y) with
      | true =>
        have HN := Box.mk (show ∀ j, j < k + 1 → (validB (r.getD j default) || nullB (r.getD j default)) = true from fun j hj => by
          by_cases e : j = k
          · subst e; rw [hy]; exact hv
          · exact HB.out.1 j (by omega))
        have HV := Box.mk (fun w => rval_is hv w)
        obtain ⟨yk, yn, ys⟩ := y
        have c0 := hc 0 _ rfl
        have c1 := hc 1 _ rfl
        have c2' := hc 2 _ rfl
        simp only [Nat.add_zero] at c0 c1 c2'
        clear hc hy hv
        go_wp2_with fail
        refine (HV.out _).mono ?_
        rintro e w1 ⟨rfl, hb1⟩
        have H1 := Box.mk (HB.out.2.trans (hb1.mono HB.out.2.size))
        clear hb1 c0 c1 c2'
        go_wp2_with fail
        exact ⟨⟨k + 1, by omega, by go_num, ⟨HN.out, H1.out⟩⟩, by simp [intOf]; omega⟩
      | false =>
        have hX : D = false := by
          rw [← HD.out]; unfold rightB
          have : r.all (fun v => validB v || nullB v) = false := by
            rw [List.all_eq_false]
            refine ⟨r.getD k default, getD_mem (by omega), ?_⟩
            rw [hy, hv]; simp
          rw [this, Bool.false_and]
        subst hX
        have HV := Box.mk (fun w => rval_is hv w)
        obtain ⟨yk, yn, ys⟩ := y
        have c0 := hc 0 _ rfl
        have c1 := hc 1 _ rfl
        have c2' := hc 2 _ rfl
        simp only [Nat.add_zero] at c0 c1 c2'
        clear hc hy hv
        go_wp2_with fail
        refine (HV.out _).mono ?_
        rintro e w1 ⟨rfl, hb1⟩
        have H1 := Box.mk (HB.out.2.trans (hb1.mono HB.out.2.size))
        clear hb1 c0 c1 c2'
        go_wp2_with fail
        go_ret
        exact ⟨rfl, H1.out⟩
    · obtain rfl : k = n := by omega
      have hX : D = decide (k ≤ 20) := by
        rw [← HD.out]; unfold rightB
        have : r.all (fun v => validB v || nullB v) = true := by
          rw [List.all_eq_true]
          intro v hv
          obtain ⟨j, hj, rfl⟩ := List.mem_iff_getElem.1 hv
          have := HB.out.1 j (by omega)
          rwa [getD_eq hj] at this
        rw [this, Bool.true_and, hln]
      subst hX
      go_wp2_with fail
      go_ret
      exact ⟨by simp; omega, HB.out.2⟩
theorem right_is {r : List Val} {b : Bool} (h : rightB r = b) {a : Option Addr} {n c : Nat} {w : World} (ha : Rd w a n c 3 (recC Val.enc r)) : Calls Try.prog 34 #[.slice a n c] w (RetV (.bool b) w) := by
  subst h; exact right_any ha

/-- A row and where it lies. -/
structure RwP where
  a : Option Addr
  c : Nat
  r : List Val
  deriving Inhabited
def RwP.v (p : RwP) : Value := .slice p.a p.r.length p.c
def RwP.ok (w : World) (p : RwP) : Prop := Rd w p.a p.r.length p.c 3 (recC Val.enc p.r)
/-- A valid table, small, and right rows. -/
def validT (T : Tab) (l : List RwP) : Bool := fewB T && decide (checkT T = 0) && l.all fun p => rightB p.r
theorem validT_true {T : Tab} {l : List RwP} (h : validT T l = true) : fewB T = true ∧ checkT T = 0 ∧ ∀ p ∈ l, rightB p.r = true := by
  unfold validT at h
  rw [Bool.and_eq_true, Bool.and_eq_true, List.all_eq_true] at h
  exact ⟨h.1.1, of_decide_eq_true h.1.2, h.2⟩
set_option maxRecDepth 20000 in
set_option maxHeartbeats 4000000 in
theorem valid_rows (X : TabP) {l : List RwP} {a : Option Addr} {n c : Nat} {w : World} (hX : TabRd w X) (ha : Rd w a n c 1 (l.map RwP.v)) (hl : ∀ p ∈ l, p.ok w) : Calls Try.prog 10 #[X.v, .slice a n c] w (RetV (.bool (validT X.t l)) w) := by
  have hmx := ha.lenMax
  have hln : l.length = n := by have := ha.hlen; simpa using this
  have HA := Box.mk ha
  have HLL := Box.mk hl
  have T1 := Box.mk (TabIn.start hX)
  generalize hD : validT X.t l = D
  have HD := Box.mk hD
  clear hX ha hD hl
  unfold TabP.cs at T1
  unfold TabP.v
  have u0 := T1.out.c0
  have u1 := T1.out.c1
  have u2 := T1.out.c2
  have u3 := T1.out.c3
  go_enter Try.func10, Try.ntmps10
  go_wp2_with fail
  generalize (w.alloc (.cells #[.string ⟨X.name.toArray⟩, .slice X.ca X.cols.length X.cc, .slice X.ia X.ixs.length X.ic, .slice X.ha X.chks.length X.hc] 26)) = W at *
  cases hf : fewB X.t with
  | false =>
    obtain rfl : D = false := by rw [← HD.out]; unfold validT; rw [hf]; rfl
    refine (few_is hf T1.out.rd).mono ?_
    rintro e w2 ⟨rfl, hb⟩
    have T2 := Box.mk (T1.out.step hb)
    clear hb T1 u0 u1 u2 u3
    go_wp2_with fail
    go_ret
    exact ⟨rfl, T2.out.below⟩
  | true =>
    refine (few_is hf T1.out.rd).mono ?_
    rintro e w2 ⟨rfl, hb⟩
    have T2 := Box.mk (T1.out.step hb)
    clear hb T1 u0 u1 u2 u3
    have u0 := T2.out.c0
    have u1 := T2.out.c1
    have u2 := T2.out.c2
    have u3 := T2.out.c3
    go_wp2_with fail
    clear u0 u1 u2 u3
    generalize hv : checkT X.t = v
    refine (rchk_is hv T2.out.rd).mono ?_
    rintro e w3 ⟨rfl, hb⟩
    have T3 := Box.mk (T2.out.step hb)
    clear hb T2
    by_cases h0 : v = 0
    · subst h0
      have HR := Box.mk (show l.all (fun p => rightB p.r) = D from by rw [← HD.out]; unfold validT; rw [hf, hv]; simp)
      clear hv hf
      go_wp2_with fail
      go_loopw [6] (fun i wr => ∃ k : Nat, k ≤ n ∧ i = .int .i64 k ∧ Box ((∀ j, j < k → rightB (l.getD j default).r = true) ∧ Below w.heap.size w wr)) (fun i _ => n - (intOf i).toNat)
      case atStart => exact ⟨0, Nat.zero_le _, rfl, ⟨fun j hj => by omega, T3.out.below⟩⟩
      case round =>
        obtain ⟨k, hk, rfl, HB⟩ := hrel
        by_cases hlt : k < n
        · have hkl : k < l.length := by omega
          obtain ⟨g, off, rfl, hc⟩ := HA.out.at k hlt
          have hc' := hc 0 (by simp; omega)
          have hpk := HLL.out _ (getD_mem (l := l) hkl)
          have hcell : wr.cell? ⟨g, off + k, none⟩ = some (RwP.v (l.getD k default)) := by
            have h1 := HA.out.hcell _ rfl k (RwP.v (l.getD k default)) (by rw [List.getElem?_map, List.getElem?_eq_getElem hkl, getD_eq hkl]; rfl)
            have h2 : w.cell? ⟨g, off + k, none⟩ = some (RwP.v (l.getD k default)) := by
              rw [← h1]; unfold Addr.add
              by_cases e : k = 0
              · rw [if_pos e, e]; rfl
              · rw [if_neg e]
            exact ((HB.out.2.cell (p := ⟨g, off + k, none⟩) (cell_block_lt h2)).trans h2)
          generalize hy : l.getD k default = y at *
          have HP := Box.mk (hpk.below HB.out.2 (Nat.le_refl _))
          unfold RwP.v at hcell
          cases hr : rightB y.r with
          | true =>
            have HN := Box.mk (show ∀ j, j < k + 1 → rightB (l.getD j default).r = true from fun j hj => by
              by_cases e : j = k
              · subst e; rw [hy]; exact hr
              · exact HB.out.1 j (by omega))
            clear hc hc' hpk hy
            go_wp2_with fail
            refine (right_is hr HP.out).mono ?_
            rintro e w4 ⟨rfl, hb4⟩
            have H4 := Box.mk (HB.out.2.trans (hb4.mono HB.out.2.size))
            clear hb4 hcell
            go_wp2_with fail
            exact ⟨⟨k + 1, by omega, by go_num, ⟨HN.out, H4.out⟩⟩, by simp [intOf]; omega⟩
          | false =>
            obtain rfl : D = false := by
              rw [← HR.out, List.all_eq_false]
              exact ⟨_, getD_mem hkl, by rw [hy, hr]; simp⟩
            clear hc hc' hpk hy
            go_wp2_with fail
            refine (right_is hr HP.out).mono ?_
            rintro e w4 ⟨rfl, hb4⟩
            have H4 := Box.mk (HB.out.2.trans (hb4.mono HB.out.2.size))
            clear hb4 hcell
            go_wp2_with fail
            go_ret
            exact ⟨rfl, H4.out⟩
        · obtain rfl : k = n := by omega
          obtain rfl : D = true := by
            rw [← HR.out, List.all_eq_true]
            intro p hp
            obtain ⟨j, hj, rfl⟩ := List.mem_iff_getElem.1 hp
            have := HB.out.1 j (by omega)
            rwa [getD_eq hj] at this
          go_wp2_with fail
          go_ret
          exact ⟨rfl, HB.out.2⟩
    · obtain rfl : D = false := by rw [← HD.out]; unfold validT; rw [hf, hv, decide_eq_false h0]; rfl
      have hvb : (v != 0) = true := by simp [h0]
      clear hv hf h0
      go_wp2_with fail
      go_ret
      exact ⟨rfl, T3.out.below⟩

/-- The law's table. -/
def XS (g : Nat) : TabP := ⟨[116], some ⟨g, 0, none⟩, 3, [⟨[97], 1, false⟩, ⟨[98], 2, true⟩, ⟨[99], 3, true⟩], none, 0, [], none, 0, []⟩
def colsC : List Value := [.string ⟨#[97]⟩, .int .i64 1, .bool false, .string ⟨#[98]⟩, .int .i64 2, .bool true, .string ⟨#[99]⟩, .int .i64 3, .bool true]
theorem tabS {w : World} {g : Nat} (h : Blk w g 55 colsC) : TabRd w (XS g) :=
  ⟨rd_rec (enc := Col.enc) (k := 3) (l := [⟨[97], 1, false⟩, ⟨[98], 2, true⟩, ⟨[99], 3, true⟩]) Col.enc_len h (by simp [maxLen]), rd_nil _ _, by simp [XS], rd_nil _ _⟩
set_option maxRecDepth 20000 in
set_option maxHeartbeats 4000000 in
theorem some_any (w : World) : Calls Try.prog 35 #[] w fun e w' => ∃ g, e = .returned (XS g).v ∧ Blk w' g 55 colsC ∧ w.heap.size ≤ g ∧ Below w.heap.size w w' := by
  go_enter Try.func35, Try.ntmps35
  go_wp2_with fail
  have hb : Blk _ w.heap.size 26 [.string ⟨#[116]⟩, .slice (some ⟨w.heap.size + 1, 0, none⟩) 3 3, .slice none 0 0, .slice none 0 0] := (Blk.new (w := w) rfl rfl).alloc (.cells colsC.toArray 55)
  refine bodyPost_ret (results_cell1 rfl _ rfl hb tabT) rfl ?_
  exact ⟨w.heap.size + 1, rfl, Blk.new (by simp) rfl, by omega, ((Below.refl _ _).alloc (Nat.le_refl _) _).alloc (by simp) _⟩
end Go.Proofs.Ytpgdfhncigmmbaa
