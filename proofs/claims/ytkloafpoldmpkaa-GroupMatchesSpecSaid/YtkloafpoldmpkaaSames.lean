/-
  The walks of begun, SameBatch, SameReports. No condition.
-/
import Derived.Test.YtkloafpoldmpkaaObj
import Derived.Test.YtkloafpoldmpkaaMask
namespace Go.Proofs.Ytkloafpoldmpkaa
open Go.RowKit

def RetBegun (mm rr dd : Int) (B : Nat) (l : List HP) (w : World) (e : Ending) (w' : World) : Prop :=
  ∃ g, e = .returned (.tuple #[.pointer (some ⟨g, 0, none⟩), .int .i64 (1 + mm), .int .i64 (1 + rr), .int .i64 dd]) ∧ Own B w' (l ++ [GrpP g (GS.new (1 + mm) (1 + rr) dd 1)]) ∧ Below B w w'
set_option maxRecDepth 20000 in
theorem begun_own {B : Nat} {w : World} {l : List HP} (O : Own B w l) (most room delay : Int) : Calls Try.prog 7 #[.int .i64 most, .int .i64 room, .int .i64 delay] w (RetBegun (most % 16) (room % 256) (delay % 32) B l w) := by
  have m1 := i64_and15 most
  have m2 := i64_and255 room
  have m3 := i64_and31 delay
  have h1 : 0 ≤ most % 16 := by omega
  have h2 : most % 16 ≤ 15 := by omega
  have h3 : 0 ≤ room % 256 := by omega
  have h4 : room % 256 ≤ 255 := by omega
  have h5 : 0 ≤ delay % 32 := by omega
  have h6 : delay % 32 ≤ 31 := by omega
  have hc := Box.mk (new_own O (1 + most % 16) (1 + room % 256) (delay % 32) 1 (by unfold right; simp; omega))
  generalize most % 16 = mm at *
  generalize room % 256 = rr at *
  generalize delay % 32 = dd at *
  go_enter Try.func7, Try.ntmps7
  go_wp2_with fail
  refine hc.out.mono ?_
  rintro e w1 ⟨g, rfl, O1, B1⟩
  go_wp2_with fail
  exact bodyPost_ret (v := .tuple #[.pointer (some ⟨g, 0, none⟩), .int .i64 (1 + mm), .int .i64 (1 + rr), .int .i64 dd]) (by simp [results, Try.results7, go_sem]) rfl ⟨g, rfl, O1, B1⟩

/-- Reports as cells. -/
def repC (rs : List (Int × Int)) : List Value := (rs.map fun r => [Value.int .i64 r.1, Value.int .i64 r.2]).flatten
theorem repC_length (rs : List (Int × Int)) : (repC rs).length = rs.length * 2 := by
  induction rs with
  | nil => rfl
  | cons r rs ih => unfold repC at ih ⊢; rw [List.map_cons, List.flatten_cons, List.length_append, ih, List.length_cons]; simp; omega
theorem repC_one (rs : List (Int × Int)) : ∀ u ∈ repC rs, u.oneCell' = true := by
  intro u hu
  unfold repC at hu
  obtain ⟨l, hl, hu⟩ := List.mem_flatten.1 hu
  obtain ⟨r, _, rfl⟩ := List.mem_map.1 hl
  simp at hu
  rcases hu with rfl | rfl <;> rfl
theorem repC_append (rs qs : List (Int × Int)) : repC (rs ++ qs) = repC rs ++ repC qs := by unfold repC; rw [List.map_append, List.flatten_append]
theorem repC_at (rs : List (Int × Int)) (k : Nat) (hk : k < rs.length) : (repC rs)[k * 2]? = some (.int .i64 (rs.getD k default).1) ∧ (repC rs)[k * 2 + 1]? = some (.int .i64 (rs.getD k default).2) := by
  induction rs generalizing k with
  | nil => simp at hk
  | cons r rs ih =>
    cases k with
    | zero => exact ⟨rfl, rfl⟩
    | succ k =>
      have := ih k (by simpa using hk)
      rw [show (k + 1) * 2 = k * 2 + 1 + 1 from by omega]
      exact this
theorem repVals_eq (first : Int) (l : List Int) (k : Nat) : repVals first l k = repC ((List.range k).map fun i => (l.getD i 0, first + (i : Int))) := by
  unfold repVals repC; rw [List.map_map]; rfl

theorem Rd.repAt {w : World} {a : Option Addr} {n cap : Nat} {l : List (Int × Int)} (h : Rd w a n cap 2 (repC l)) (k : Nat) (hk : k < n) :
    ∃ g off, a = some ⟨g, off, none⟩ ∧ w.cell? ⟨g, off + k * 2, none⟩ = some (.int .i64 (l.getD k default).1) ∧ w.cell? ⟨g, off + k * 2 + 1, none⟩ = some (.int .i64 (l.getD k default).2) := by
  have hl : l.length = n := by have := h.hlen; rw [repC_length] at this; omega
  obtain ⟨r1, r2⟩ := repC_at l k (by omega)
  cases a with
  | none => have := h.hnil rfl; rw [this] at r1; simp at r1
  | some ad =>
    have c1 := h.hcell ad rfl _ _ r1
    have c2 := h.hcell ad rfl _ _ r2
    have c0 := h.hcell ad rfl 0 _ (repC_at l 0 (by omega)).1
    have hs : ad.spot = none := by
      have := spot_none c0
      simpa [Addr.add] using this
    obtain ⟨b, off, sp⟩ := ad
    simp only at hs
    subst hs
    have ha : ∀ j, (⟨b, off, none⟩ : Addr).add j = ⟨b, off + j, none⟩ := fun j => by unfold Addr.add; split <;> simp_all
    rw [ha] at c1 c2
    exact ⟨b, off, rfl, c1, c2⟩

theorem pairs_of {l m : List (Int × Int)} {k : Nat} (h : ∀ j, j < k → l.getD j default = m.getD j default) (h1 : l.length = m.length) (h2 : k = l.length) : l = m := by
  subst h2
  refine List.ext_getElem h1 (fun i hi hj => ?_)
  have := h i hi
  simpa [List.getD_eq_getElem?_getD, List.getElem?_eq_getElem hi, List.getElem?_eq_getElem hj] using this

set_option maxRecDepth 20000 in
set_option maxHeartbeats 1000000 in
theorem sameReports_any (l m : List (Int × Int)) (a b : Option Addr) (n n2 cap cap2 : Nat) (w : World) (h1 : Rd w a n cap 2 (repC l)) (h2 : Rd w b n2 cap2 2 (repC m)) :
    Calls Try.prog 14 #[.slice a n cap, .slice b n2 cap2] w (RetQ (.bool (decide (l = m))) w) := by
  have l1 : l.length = n := by have := h1.hlen; rw [repC_length] at this; omega
  have l2 : m.length = n2 := by have := h2.hlen; rw [repC_length] at this; omega
  have mx := h1.lenMax
  have R1 := Box.mk h1; have R2 := Box.mk h2
  clear h1 h2
  by_cases hn : n = n2
  · subst hn
    go_enter Try.func14, Try.ntmps14
    go_wp2_with fail
    go_loopw [5] (fun i wr => ∃ k : Nat, k ≤ n ∧ i = .int .i64 k ∧ (∀ j, j < k → l.getD j default = m.getD j default) ∧ ∃ q, wr = w.drewN q) (fun i _ => n - (intOf i).toNat)
    case atStart => exact ⟨0, Nat.zero_le _, rfl, fun j h => by omega, 0, rfl⟩
    case round =>
      obtain ⟨k, hk, rfl, hsame, q, rfl⟩ := hrel
      have HS := Box.mk hsame; clear hsame
      by_cases hl : k < n
      · obtain ⟨g, off, rfl, hc, hd⟩ := R1.out.repAt k hl
        obtain ⟨g2, off2, rfl, hc2, hd2⟩ := R2.out.repAt k hl
        by_cases hx : l.getD k default = m.getD k default
        · rw [← hx] at hc2 hd2
          have HX := Box.mk (show ∀ j, j < k + 1 → l.getD j default = m.getD j default from fun j hj => by
            by_cases e : j = k
            · subst e; exact hx
            · exact HS.out j (by omega))
          clear hx
          generalize l.getD k default = x at *
          obtain ⟨x1, x2⟩ := x
          simp only at hc hd hc2 hd2
          go_wp2_with fail
          go_quiet (fail)
          go_wp2_with fail
          go_roundw
          case rel => exact ⟨k + 1, by omega, by go_num, HX.out, _, rfl⟩
          case measure => simp [intOf]; omega
        · have HX := Box.mk (show decide (l = m) = false from decide_eq_false (fun e => hx (by rw [e])))
          have hxy : (l.getD k default).1 ≠ (m.getD k default).1 ∨ ((l.getD k default).1 = (m.getD k default).1 ∧ (l.getD k default).2 ≠ (m.getD k default).2) := by
            by_cases h1 : (l.getD k default).1 = (m.getD k default).1
            · exact .inr ⟨h1, fun h2 => hx (Prod.ext h1 h2)⟩
            · exact .inl h1
          clear hx
          generalize l.getD k default = x at *
          generalize m.getD k default = y at *
          obtain ⟨x1, x2⟩ := x
          obtain ⟨y1, y2⟩ := y
          simp only at hc hd hc2 hd2 hxy
          rcases hxy with hxy | ⟨rfl, hxy⟩
          · have hxx : (x1 == y1) = false := by simp only [beq_eq_false_iff_ne]; exact hxy
            clear hxy
            go_wp2_with fail
            go_quiet (fail)
            go_wp2_with fail
            go_ret
            exact ⟨by rw [HX.out]; rfl, _, World.drewN_drewN _ _ _⟩
          · have hxx : (x2 == y2) = false := by simp only [beq_eq_false_iff_ne]; exact hxy
            clear hxy
            go_wp2_with fail
            go_quiet (fail)
            go_wp2_with fail
            go_ret
            exact ⟨by rw [HX.out]; rfl, _, World.drewN_drewN _ _ _⟩
      · have HX := Box.mk (show decide (l = m) = true from decide_eq_true (pairs_of (k := k) HS.out (by omega) (by omega)))
        go_wp2_with fail
        go_ret
        exact ⟨by rw [HX.out]; rfl, _, rfl⟩
  · have HX := Box.mk (show decide (l = m) = false from decide_eq_false (fun e => hn (by rw [← l1, ← l2, e])))
    have hnn : ((n : Int) != (n2 : Int)) = true := by simp only [bne_iff_ne]; omega
    go_enter Try.func14, Try.ntmps14
    go_wp2_with fail
    go_ret
    exact ⟨by rw [HX.out]; rfl, 0, rfl⟩

/-- Two batches are the same. -/
def sameBt (f f2 : Int) (l m : List Int) : Bool := decide (f = f2 ∧ l = m)

set_option maxRecDepth 20000 in
set_option maxHeartbeats 1000000 in
theorem sameBatch_any (f f2 : Int) (l m : List Int) (a b : Option Addr) (n n2 cap cap2 : Nat) (w : World) (h1 : Rd w a n cap 1 (intVals l)) (h2 : Rd w b n2 cap2 1 (intVals m)) :
    Calls Try.prog 20 #[.agg #[.int .i64 f, .slice a n cap], .agg #[.int .i64 f2, .slice b n2 cap2]] w (RetBool (sameBt f f2 l m) w) := by
  have l1 := h1.ilen
  have l2 := h2.ilen
  have mx := h1.lenMax
  have BW := ((Below.refl w.heap.size w).alloc (Nat.le_refl _) (.cells #[.int .i64 f, .slice a n cap] 32)).alloc (by simp) (.cells #[.int .i64 f2, .slice b n2 cap2] 32)
  have R1 := Box.mk (h1.call0 BW); have R2 := Box.mk (h2.call0 BW)
  clear h1 h2
  by_cases hf : f = f2
  · subst hf
    have hff : (f != f) = false := by simp
    by_cases hn : n = n2
    · subst hn
      have hnn : ((n : Int) != (n : Int)) = false := by simp
      go_enter Try.func20, Try.ntmps20
      go_wp2_with fail
      have c1 : ((w.alloc (.cells #[.int .i64 f, .slice a n cap] 32)).alloc (.cells #[.int .i64 f, .slice b n cap2] 32)).cell? ⟨w.heap.size, 1, none⟩ = some (.slice a n cap) := ((Blk.new (w := w) (ty := 32) (cs := [.int .i64 f, .slice a n cap]) rfl rfl).alloc _).cellOf (i := 1) rfl
      have c2 : ((w.alloc (.cells #[.int .i64 f, .slice a n cap] 32)).alloc (.cells #[.int .i64 f, .slice b n cap2] 32)).cell? ⟨w.heap.size + 1, 1, none⟩ = some (.slice b n cap2) := (Blk.new (w := w.alloc (.cells #[.int .i64 f, .slice a n cap] 32)) (ty := 32) (cs := [.int .i64 f, .slice b n cap2]) (by simp) rfl).cellOf (i := 1) rfl
      generalize (w.alloc (.cells #[.int .i64 f, .slice a n cap] 32)).alloc (.cells #[.int .i64 f, .slice b n cap2] 32) = w2 at *
      go_loopw [5] (fun i wr => ∃ k : Nat, k ≤ n ∧ i = .int .i64 k ∧ (∀ j, j < k → l.getD j 0 = m.getD j 0) ∧ ∃ q, wr = w2.drewN q) (fun i _ => n - (intOf i).toNat)
      case atStart => exact ⟨0, Nat.zero_le _, rfl, fun j h => by omega, 0, rfl⟩
      case round =>
        obtain ⟨k, hk, rfl, hsame, q, rfl⟩ := hrel
        have HS := Box.mk hsame; clear hsame
        by_cases hl : k < n
        · obtain ⟨g, off, rfl, hc⟩ := R1.out.intAtD k hl
          obtain ⟨g2, off2, rfl, hc2⟩ := R2.out.intAtD k hl
          by_cases hx : l.getD k 0 = m.getD k 0
          · have hxx : (l.getD k 0 != m.getD k 0) = false := by simp only [bne_eq_false_iff_eq]; exact hx
            have HX := Box.mk (show ∀ j, j < k + 1 → l.getD j 0 = m.getD j 0 from fun j hj => by
              by_cases e : j = k
              · subst e; exact hx
              · exact HS.out j (by omega))
            clear hx
            generalize l.getD k 0 = x at *
            generalize m.getD k 0 = y at *
            go_wp2_with fail
            go_quiet (fail)
            go_wp2_with fail
            go_roundw
            case rel => exact ⟨k + 1, by omega, by go_num, HX.out, _, rfl⟩
            case measure => simp [intOf]; omega
          · have hxx : (l.getD k 0 != m.getD k 0) = true := by simp only [bne_iff_ne]; exact hx
            have HX := Box.mk (show sameBt f f l m = false from decide_eq_false (fun e => hx (by rw [e.2]))); clear hx
            generalize l.getD k 0 = x at *
            generalize m.getD k 0 = y at *
            go_wp2_with fail
            go_quiet (fail)
            go_wp2_with fail
            go_ret
            exact ⟨by rw [HX.out]; rfl, below_drewN (below_drewN BW _) _⟩
        · have HX := Box.mk (show sameBt f f l m = true from decide_eq_true ⟨rfl, take_eq_of (k := k) HS.out (by omega) (by omega)⟩)
          go_wp2_with fail
          go_ret
          exact ⟨by rw [HX.out]; rfl, below_drewN BW _⟩
    · have HX := Box.mk (show sameBt f f l m = false from decide_eq_false (fun e => hn (by rw [← l1, ← l2, e.2])))
      have hnn : ((n : Int) != (n2 : Int)) = true := by simp only [bne_iff_ne]; omega
      go_enter Try.func20, Try.ntmps20
      go_wp2_with fail
      go_ret
      exact ⟨by rw [HX.out]; rfl, BW⟩
  · have HX := Box.mk (show sameBt f f2 l m = false from decide_eq_false (fun e => hf e.1))
    have hff : (f != f2) = true := by simp only [bne_iff_ne]; exact hf
    go_enter Try.func20, Try.ntmps20
    go_wp2_with fail
    go_ret
    exact ⟨by rw [HX.out]; rfl, BW⟩
end Go.Proofs.Ytkloafpoldmpkaa
