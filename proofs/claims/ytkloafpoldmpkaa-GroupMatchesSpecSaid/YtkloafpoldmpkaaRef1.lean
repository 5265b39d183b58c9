/-
  The reference's group in memory; the walks of its Right, New, at, front, Due. No condition.
-/
import Derived.Test.YtkloafpoldmpkaaSane
namespace Go.Proofs.Ytkloafpoldmpkaa
open Go.RowKit

/-- Waiting transactions as cells. -/
def ndC (q : List Nd) : List Value := (q.map fun n => [Value.int .i64 n.tx, Value.int .i64 n.words, Value.int .i64 n.tick]).flatten
theorem ndC_length (q : List Nd) : (ndC q).length = q.length * 3 := by
  induction q with
  | nil => rfl
  | cons r q ih => unfold ndC at ih ⊢; rw [List.map_cons, List.flatten_cons, List.length_append, ih, List.length_cons]; simp; omega
theorem ndC_append (p q : List Nd) : ndC (p ++ q) = ndC p ++ ndC q := by unfold ndC; rw [List.map_append, List.flatten_append]
theorem ndC_one (q : List Nd) : ∀ u ∈ ndC q, u.oneCell' = true := by
  intro u hu
  unfold ndC at hu
  obtain ⟨l, hl, hu⟩ := List.mem_flatten.1 hu
  obtain ⟨r, _, rfl⟩ := List.mem_map.1 hl
  simp at hu
  rcases hu with rfl | rfl | rfl <;> rfl
theorem ndC_at (q : List Nd) (k : Nat) (hk : k < q.length) : (ndC q)[k * 3]? = some (.int .i64 (q.getD k default).tx) ∧ (ndC q)[k * 3 + 1]? = some (.int .i64 (q.getD k default).words) ∧ (ndC q)[k * 3 + 2]? = some (.int .i64 (q.getD k default).tick) := by
  induction q generalizing k with
  | nil => simp at hk
  | cons r q ih =>
    cases k with
    | zero => exact ⟨rfl, rfl, rfl⟩
    | succ k =>
      have := ih k (by simpa using hk)
      rw [show (k + 1) * 3 = k * 3 + 1 + 1 + 1 from by omega]
      exact this
theorem ndC_take (q : List Nd) (k : Nat) : (ndC q).take (k * 3) = ndC (q.take k) := by
  induction q generalizing k with
  | nil => simp [ndC]
  | cons r q ih =>
    cases k with
    | zero => simp [ndC]
    | succ k =>
      have := ih k
      rw [show (k + 1) * 3 = k * 3 + 1 + 1 + 1 from by omega]
      unfold ndC at this ⊢
      simp only [List.map_cons, List.flatten_cons, List.cons_append, List.nil_append, List.take_succ_cons, this]
theorem ndC_drop (q : List Nd) (k : Nat) : (ndC q).drop (k * 3) = ndC (q.drop k) := by
  induction q generalizing k with
  | nil => simp [ndC]
  | cons r q ih =>
    cases k with
    | zero => simp [ndC]
    | succ k =>
      have := ih k
      rw [show (k + 1) * 3 = k * 3 + 1 + 1 + 1 from by omega]
      unfold ndC at this ⊢
      simp only [List.map_cons, List.flatten_cons, List.cons_append, List.nil_append, List.drop_succ_cons, this]

theorem Rd.ndAt {w : World} {a : Option Addr} {n cap : Nat} {q : List Nd} (h : Rd w a n cap 3 (ndC q)) (k : Nat) (hk : k < n) :
    ∃ g off, a = some ⟨g, off, none⟩ ∧ w.cell? ⟨g, off + k * 3, none⟩ = some (.int .i64 (q.getD k default).tx) ∧ w.cell? ⟨g, off + k * 3 + 1, none⟩ = some (.int .i64 (q.getD k default).words) ∧ w.cell? ⟨g, off + k * 3 + 2, none⟩ = some (.int .i64 (q.getD k default).tick) := by
  have hl : q.length = n := by have := h.hlen; rw [ndC_length] at this; omega
  obtain ⟨r1, r2, r3⟩ := ndC_at q k (by omega)
  cases a with
  | none => have := h.hnil rfl; rw [this] at r1; simp at r1
  | some ad =>
    have c1 := h.hcell ad rfl _ _ r1
    have c2 := h.hcell ad rfl _ _ r2
    have c3 := h.hcell ad rfl _ _ r3
    have c0 := h.hcell ad rfl 0 _ (ndC_at q 0 (by omega)).1
    have hs : ad.spot = none := by
      have := spot_none c0
      simpa [Addr.add] using this
    obtain ⟨b, off, sp⟩ := ad
    simp only at hs
    subst hs
    have ha : ∀ j, (⟨b, off, none⟩ : Addr).add j = ⟨b, off + j, none⟩ := fun j => by unfold Addr.add; split <;> simp_all
    rw [ha] at c1 c2 c3
    exact ⟨b, off, rfl, c1, c2, c3⟩

def refVals (S : GS) (la : Option Addr) (lc : Nat) (ta : Option Addr) (tc : Nat) : List Value :=
  [.int .i64 S.most, .int .i64 S.room, .int .i64 S.delay, .int .i64 S.stamp, .slice la S.q.length lc, .bool S.opn, .int .i64 S.first, .slice ta S.txs.length tc]
/-- The reference's group at block r. -/
def RefL (r : Nat) (la : Option Addr) (lc : Nat) (ta : Option Addr) (tc : Nat) (S : GS) : List HP :=
  [BlkP r 52 (refVals S la lc ta tc), RowP 73 3 la S.q.length lc (ndC S.q), RdP 1 ta S.txs.length tc (intVals S.txs)]

set_option maxRecDepth 20000 in
set_option maxHeartbeats 2000000 in
theorem ref_right (most room delay next : Int) (w : World) : Calls Try.prog 17 #[.int .i64 most, .int .i64 room, .int .i64 delay, .int .i64 next] w fun e w' => e = .returned (.bool (right most room delay next)) ∧ w' = w := by
  cases hr : right most room delay next with
  | true =>
    have h' := of_decide_eq_true hr
    obtain ⟨h1, h2, h3, h4, h5, h6, h7, h8⟩ := h'
    clear hr
    go_enter Try.func17, Try.ntmps17
    go_wp2_with fail
    go_ret
    exact ⟨rfl, rfl⟩
  | false =>
    have h' : ¬ (1 ≤ most ∧ most ≤ 64 ∧ 1 ≤ room ∧ room ≤ 1048576 ∧ 0 ≤ delay ∧ delay ≤ 1048576 ∧ 1 ≤ next ∧ next ≤ 1073741824) := of_decide_eq_false hr
    have hc : most < 1 ∨ (1 ≤ most ∧ 64 < most) ∨ (1 ≤ most ∧ most ≤ 64 ∧ room < 1) ∨ (1 ≤ most ∧ most ≤ 64 ∧ 1 ≤ room ∧ 1048576 < room) ∨ (1 ≤ most ∧ most ≤ 64 ∧ 1 ≤ room ∧ room ≤ 1048576 ∧ delay < 0) ∨ (1 ≤ most ∧ most ≤ 64 ∧ 1 ≤ room ∧ room ≤ 1048576 ∧ 0 ≤ delay ∧ 1048576 < delay) ∨ (1 ≤ most ∧ most ≤ 64 ∧ 1 ≤ room ∧ room ≤ 1048576 ∧ 0 ≤ delay ∧ delay ≤ 1048576 ∧ next < 1) ∨ (1 ≤ most ∧ most ≤ 64 ∧ 1 ≤ room ∧ room ≤ 1048576 ∧ 0 ≤ delay ∧ delay ≤ 1048576 ∧ 1 ≤ next ∧ 1073741824 < next) := by omega
    clear h' hr
    rcases hc with h | ⟨h1, h⟩ | ⟨h1, h2, h⟩ | ⟨h1, h2, h3, h⟩ | ⟨h1, h2, h3, h4, h⟩ | ⟨h1, h2, h3, h4, h5, h⟩ | ⟨h1, h2, h3, h4, h5, h6, h⟩ | ⟨h1, h2, h3, h4, h5, h6, h7, h⟩
    all_goals
      go_enter Try.func17, Try.ntmps17
      go_wp2_with fail
      go_ret
      refine ⟨?_, rfl⟩
      first
        | rfl
        | (show Ending.returned (Value.bool (decide _)) = _; rw [decide_eq_false (by omega)])

def RetRef (S : GS) (l : List HP) (B : Nat) (w : World) (e : Ending) (w' : World) : Prop :=
  ∃ r la lc ta tc, e = .returned (.pointer (some ⟨r, 0, none⟩)) ∧ Own B w' (RefL r la lc ta tc S ++ l) ∧ Below B w w'
set_option maxRecDepth 20000 in
theorem ref_new {B : Nat} {w : World} {l : List HP} (O : Own B w l) (most room delay next : Int) : Calls Try.prog 18 #[.int .i64 most, .int .i64 room, .int .i64 delay, .int .i64 next] w (RetRef (GS.new most room delay next) l B w) := by
  go_enter Try.func18, Try.ntmps18
  go_wp2_with fail
  go_ret
  refine ⟨w.heap.size, none, 0, none, 0, rfl, ?_, ((Below.refl _ _).alloc (Nat.le_refl _) _).mono O.base⟩
  have O1 := ((O.new (refVals (GS.new most room delay next) none 0 none 0) 52).nilRow 73 3).newRd (Below.refl _ _) (Rd.nilSlice _ 1) (fun ad h => by cases h)
  rw [List.append_assoc, List.append_assoc] at O1
  exact O1.perm List.perm_append_comm

set_option maxRecDepth 20000 in
set_option maxHeartbeats 1000000 in
theorem ref_at {B : Nat} {w : World} {l : List HP} {r : Nat} {la ta : Option Addr} {lc tc : Nat} {S : GS} (O : Own B w (RefL r la lc ta tc S ++ l)) (hq : S.q.length ≤ 1073741825) (tx : Int) :
    Calls Try.prog 34 #[.pointer (some ⟨r, 0, none⟩), .int .i64 tx] w fun e w' => e = .returned (.int .i64 (idx (S.q.map Nd.tx) tx)) ∧ w' = w := by
  have c4 := (O.blk 0 rfl).1.cellOf (i := 4) rfl
  have HR := Box.mk (Rd.ofOwn (O.row 1 rfl))
  clear O
  go_enter Try.func34, Try.ntmps34
  go_wp2_with fail
  go_loopw [5] (fun i wr => ∃ k : Nat, k ≤ S.q.length ∧ i = .int .i64 k ∧ (∀ j, j < k → (S.q.getD j default).tx ≠ tx) ∧ wr = w) (fun i _ => S.q.length - (intOf i).toNat)
  case atStart => exact ⟨0, Nat.zero_le _, rfl, fun j h => by omega, rfl⟩
  case round =>
    obtain ⟨k, hk, rfl, hne, rfl⟩ := hrel
    have HNE := Box.mk hne; clear hne
    have hgt : ∀ j (h : j < S.q.length), (S.q.map Nd.tx)[j]'(by rw [List.length_map]; exact h) = (S.q.getD j default).tx := fun j h => by
      rw [List.getElem_map, List.getD_eq_getElem?_getD, List.getElem?_eq_getElem h]; rfl
    by_cases hl : k < S.q.length
    · obtain ⟨g, off, rfl, h0, h1, h2⟩ := HR.out.ndAt k hl
      by_cases hx : (S.q.getD k default).tx = tx
      · have hi : idx (S.q.map Nd.tx) tx = (k : Int) := by
          have hm : tx ∈ S.q.map Nd.tx := by rw [← hx, ← hgt k hl]; exact List.getElem_mem _
          unfold idx
          rw [if_pos hm]
          have h3 : (S.q.map Nd.tx).idxOf tx < (S.q.map Nd.tx).length := List.idxOf_lt_length_iff.2 hm
          have h4 := List.getElem_idxOf h3
          rw [hgt _ (by rw [List.length_map] at h3; exact h3)] at h4
          rcases Nat.lt_trichotomy ((S.q.map Nd.tx).idxOf tx) k with h5 | h5 | h5
          · exact absurd h4 (HNE.out _ h5)
          · rw [h5]
          · have h6 := List.not_of_lt_findIdx (p := (· == tx)) (xs := S.q.map Nd.tx) (i := k) h5
            simp only [beq_eq_false_iff_ne] at h6
            rw [hgt k hl] at h6
            exact absurd hx h6
        have HI := Box.mk hi; clear hi hgt
        have hxx : ((S.q.getD k default).tx == tx) = true := by simp only [beq_iff_eq]; exact hx
        clear hx
        generalize S.q.getD k default = nd at *
        go_wp2_with fail
        go_ret
        exact ⟨by rw [HI.out]; rfl, rfl⟩
      · have hxx : ((S.q.getD k default).tx == tx) = false := by simp only [beq_eq_false_iff_ne]; exact hx
        have HX := Box.mk hx; clear hx hgt
        generalize hnd : S.q.getD k default = nd at *
        have HND := Box.mk hnd; clear hnd
        go_wp2_with fail
        go_roundw
        case rel => exact ⟨k + 1, hl, by go_num, fun j hj => by
          by_cases e : j = k
          · subst e; rw [HND.out]; exact HX.out
          · exact HNE.out j (by omega), trivial⟩
        case measure => simp [intOf]; omega
    · have hi : idx (S.q.map Nd.tx) tx = -1 := by
        unfold idx
        rw [if_neg]
        intro hm
        obtain ⟨j, hj, he⟩ := List.getElem_of_mem hm
        rw [hgt j (by rw [List.length_map] at hj; exact hj)] at he
        exact HNE.out j (by rw [List.length_map] at hj; omega) he
      have HI := Box.mk hi; clear hi hgt
      go_wp2_with fail
      go_ret
      exact ⟨by rw [HI.out]; rfl, rfl⟩

set_option maxRecDepth 20000 in
set_option maxHeartbeats 2000000 in
theorem ref_front {B : Nat} {w : World} {l : List HP} {r : Nat} {la ta : Option Addr} {lc tc : Nat} {S : GS} (O : Own B w (RefL r la lc ta tc S ++ l)) (hok : S.OK) :
    Calls Try.prog 33 #[.pointer (some ⟨r, 0, none⟩)] w (RetQ (.int .i64 S.front) w) := by
  have hst := hok.stamp
  have hq30 : S.q.length ≤ 1073741825 := by omega
  clear hst
  have hro := hok.room
  have hmo := hok.most
  have HOK := Box.mk hok; clear hok
  have c0 := (O.blk 0 rfl).1.cellOf (i := 0) rfl
  have c1 := (O.blk 0 rfl).1.cellOf (i := 1) rfl
  have c4 := (O.blk 0 rfl).1.cellOf (i := 4) rfl
  have HR := Box.mk (Rd.ofOwn (O.row 1 rfl))
  clear O
  go_enter Try.func33, Try.ntmps33
  go_wp2_with fail
  go_loopw [3, 4] (fun i x wr => ∃ k : Nat, k ≤ S.q.length ∧ (∀ j, j < k → S.goes j = true) ∧ i = .int .i64 k ∧ x = .int .i64 (S.sumW k) ∧ 0 ≤ S.sumW k ∧ S.sumW k ≤ 1048576 ∧ ∃ n, wr = w.drewN n) (fun i _ _ => S.q.length - (intOf i).toNat)
  case atStart => exact ⟨0, Nat.zero_le _, fun j h => by omega, rfl, by rw [S.sumW_zero], by rw [S.sumW_zero]; omega, by rw [S.sumW_zero]; omega, 0, rfl⟩
  case round =>
    obtain ⟨k, hk, hgo, rfl, rfl, hs0, hs1, n, rfl⟩ := hrel
    have HGO := Box.mk hgo; clear hgo
    by_cases hl : k < S.q.length
    · obtain ⟨g, off, rfl, h0, h1, h2⟩ := HR.out.ndAt k hl
      have hq := HOK.out.q (S.q.getD k default) (by rw [List.getD_eq_getElem?_getD, List.getElem?_eq_getElem hl]; exact List.getElem_mem hl)
      have hs := Box.mk (S.sumW_succ k hl)
      have hge := Box.mk (show S.goes k = (decide ((k : Int) < S.most) && decide (S.sumW k + (S.q.getD k default).words ≤ S.room)) from by unfold GS.goes; simp [hl])
      generalize (S.q.getD k default) = nd at *
      generalize S.sumW k = sk at *
      obtain ⟨⟨hw1, hw2⟩, _, _⟩ := hq
      by_cases hm : (k : Int) < S.most
      · by_cases hw : sk + nd.words ≤ S.room
        · have hgk : S.goes k = true := by rw [hge.out]; simp [hm, hw]
          go_wp2_with fail
          go_quiet (fail)
          go_wp2_with fail
          go_roundw
          case rel => exact ⟨k + 1, by omega, fun j hj => by
            by_cases e : j = k
            · subst e; exact hgk
            · exact HGO.out j (by omega), by go_num, by rw [hs.out], by rw [hs.out]; omega, by rw [hs.out]; omega, _, rfl⟩
          case measure => simp [intOf]; omega
        · have hgk : S.goes k = false := by rw [hge.out]; simp [hw]
          have hw' : decide (sk + nd.words ≤ S.room) = false := decide_eq_false hw
          have hf := Box.mk (S.front_is HGO.out hgk)
          go_wp2_with fail
          go_quiet (fail)
          go_wp2_with fail
          go_ret
          exact ⟨by rw [hf.out]; rfl, _, World.drewN_drewN _ _ _⟩
      · have hgk : S.goes k = false := by rw [hge.out]; simp [hm]
        have hm' : decide ((k : Int) < S.most) = false := decide_eq_false hm
        have hf := Box.mk (S.front_is HGO.out hgk)
        go_wp2_with fail
        go_quiet (fail)
        go_wp2_with fail
        go_ret
        exact ⟨by rw [hf.out]; rfl, _, World.drewN_drewN _ _ _⟩
    · have hgk : S.goes k = false := by unfold GS.goes; simp [hl]
      have hf := Box.mk (S.front_is HGO.out hgk)
      have hl' : decide ((k : Int) < (S.q.length : Int)) = false := decide_eq_false (by omega)
      go_wp2_with fail
      go_quiet (fail)
      go_wp2_with fail
      go_ret
      exact ⟨by rw [hf.out]; rfl, _, World.drewN_drewN _ _ _⟩

set_option maxRecDepth 20000 in
set_option maxHeartbeats 2000000 in
theorem ref_due {B : Nat} {w : World} {l : List HP} {r : Nat} {la ta : Option Addr} {lc tc : Nat} {S : GS} (O : Own B w (RefL r la lc ta tc S ++ l)) (hok : S.OK) (tick : Int) :
    Calls Try.prog 29 #[.pointer (some ⟨r, 0, none⟩), .int .i64 tick] w (RetQ (.bool (S.due tick)) w) := by
  have hst := hok.stamp
  have hq30 : S.q.length ≤ 1073741825 := by omega
  clear hst
  have c0 := (O.blk 0 rfl).1.cellOf (i := 0) rfl
  have c2 := (O.blk 0 rfl).1.cellOf (i := 2) rfl
  have c4 := (O.blk 0 rfl).1.cellOf (i := 4) rfl
  have c5 := (O.blk 0 rfl).1.cellOf (i := 5) rfl
  have HR := Box.mk (Rd.ofOwn (O.row 1 rfl))
  have HF := Box.mk (ref_front O hok)
  have hfm := GS.front_most hok
  have hfl := S.front_le
  have hmo := hok.most
  have HOK := Box.mk hok; clear hok
  clear O
  have hdue := Box.mk (show S.due tick = (!S.opn && decide (0 < S.q.length) && (decide ((S.front : Int) = S.most) || decide (S.front < S.q.length) || decide ((S.q.getD 0 default).tick + S.delay ≤ tick))) from rfl)
  generalize S.due tick = du at *
  cases ho : S.opn
  · rw [ho] at c5
    by_cases hl : 0 < S.q.length
    · obtain ⟨g, off, rfl, _, _, h2⟩ := HR.out.ndAt 0 hl
      rw [Nat.zero_mul, Nat.add_zero] at h2
      have hq := HOK.out.q (S.q.getD 0 default) (by rw [List.getD_eq_getElem?_getD, List.getElem?_eq_getElem hl]; exact List.getElem_mem hl)
      have hdl := HOK.out.delay
      generalize (S.q.getD 0 default) = nd at *
      obtain ⟨_, ⟨ht1, ht2⟩, _⟩ := hq
      have hl0 : ((S.q.length : Int) == 0) = false := by simp only [beq_eq_false_iff_ne]; omega
      go_enter Try.func29, Try.ntmps29
      go_wp2_with fail
      refine HF.out.mono ?_
      rintro e w1 ⟨rfl, n1, rfl⟩
      clear HF
      generalize S.front = fr at *
      by_cases h1 : (fr : Int) = S.most
      · have h1' : ((fr : Int) == S.most) = true := by simp [h1]
        go_wp2_with fail
        go_quiet (fail)
        go_wp2_with fail
        go_ret
        exact ⟨by rw [hdue.out, ho]; simp [hl, h1], _, World.drewN_drewN _ _ _⟩
      · have h1' : ((fr : Int) == S.most) = false := by simp [h1]
        by_cases h2 : fr < S.q.length
        · go_wp2_with fail
          go_quiet (fail)
          go_wp2_with fail
          go_ret
          exact ⟨by rw [hdue.out, ho]; simp [hl, h2], _, World.drewN_drewN _ _ _⟩
        · have h2' : decide ((fr : Int) < (S.q.length : Int)) = false := decide_eq_false (by omega)
          go_wp2_with fail
          go_quiet (fail)
          go_wp2_with fail
          go_ret
          exact ⟨by rw [hdue.out, ho]; simp [hl, h1, h2], _, World.drewN_drewN _ _ _⟩
    · have hl0 : ((S.q.length : Int) == 0) = true := by simp only [beq_iff_eq]; omega
      go_enter Try.func29, Try.ntmps29
      go_wp2_with fail
      go_ret
      exact ⟨by rw [hdue.out]; simp [hl], 0, rfl⟩
  · rw [ho] at c5
    go_enter Try.func29, Try.ntmps29
    go_wp2_with fail
    go_ret
    exact ⟨by rw [hdue.out, ho]; simp, 0, rfl⟩
end Go.Proofs.Ytkloafpoldmpkaa
