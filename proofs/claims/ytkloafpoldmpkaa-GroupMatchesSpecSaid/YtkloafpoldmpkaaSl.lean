/-
  The walks of slices.Index, Contains, Clone at lists of integers. No condition.
-/
import Derived.Test.YtkloafpoldmpkaaGrp
import Derived.Lib.SliceRun
namespace Go.Proofs.Ytkloafpoldmpkaa
open Go.RowKit

theorem sl22 : SlT Try.prog 22 3 (.int .i64 0) 1 8 := ⟨by kernel_rfl, by kernel_rfl, rfl⟩
theorem intVals_one (l : List Int) : ∀ u ∈ intVals l, u.oneCell' = true := by
  intro u hu; obtain ⟨_, _, rfl⟩ := List.mem_map.1 hu; rfl
theorem Rd.ilen {w : World} {a : Option Addr} {n cap : Nat} {l : List Int} (h : Rd w a n cap 1 (intVals l)) : l.length = n := by
  have := h.hlen; rw [intVals_length] at this; omega
theorem Rd.intAtD {w : World} {a : Option Addr} {n cap : Nat} {l : List Int} (h : Rd w a n cap 1 (intVals l)) (k : Nat) (hk : k < n) :
    ∃ g off, a = some ⟨g, off, none⟩ ∧ w.cell? ⟨g, off + k, none⟩ = some (.int .i64 (l.getD k 0)) := by
  have hl := h.ilen
  obtain ⟨b, off, ha, hc⟩ := h.at k hk
  refine ⟨b, off, ha, ?_⟩
  rw [hc k (by rw [intVals_length]; omega)]
  simp [intVals, List.getD_eq_getElem?_getD, List.getElem?_eq_getElem (show k < l.length by omega)]

theorem own_new {w : World} {g base e size n : Nat} {cs : List Value} (hb : Blk w g e cs) (hbase : base ≤ g) (hl : cs.length = n * size) (hn : n ≤ maxLen) : w.ownsRow base e size (.slice (some ⟨g, 0, none⟩) n n) n cs :=
  ⟨hl, .inr ⟨g, n, cs.toArray, rfl, hbase, hb, Nat.le_refl _, hn, by simp [hl], by rw [← hl]; simp⟩⟩

/-- The place of a number, or -1. -/
def idx (l : List Int) (x : Int) : Int := if x ∈ l then (l.idxOf x : Int) else -1

set_option maxRecDepth 20000 in
set_option maxHeartbeats 1000000 in
theorem index_any (l : List Int) (x : Int) (a : Option Addr) (n cap : Nat) (w : World) (hrd : Rd w a n cap 1 (intVals l)) :
    Calls Try.prog 36 #[.slice a n cap, .int .i64 x] w fun e w' => e = .returned (.int .i64 (idx l x)) ∧ w' = w := by
  have hln := hrd.ilen
  have hmax := hrd.lenMax
  have R := Box.mk hrd; clear hrd
  go_enter Try.func36, Try.ntmps36
  go_wp2_with fail
  go_loopw [8] (fun i wr => ∃ k : Nat, k ≤ n ∧ i = .int .i64 k ∧ (∀ j, j < k → l.getD j 0 ≠ x) ∧ wr = w) (fun i _ => n - (intOf i).toNat)
  case atStart => exact ⟨0, Nat.zero_le _, rfl, fun j h => by omega, rfl⟩
  case round =>
    obtain ⟨k, hk, rfl, hne, rfl⟩ := hrel
    have HNE := Box.mk hne; clear hne
    by_cases hl : k < n
    · obtain ⟨g, off, rfl, hc⟩ := R.out.intAtD k hl
      by_cases hx : x = l.getD k 0
      · have hxx : (x == l.getD k 0) = true := by simp only [beq_iff_eq]; exact hx
        have hidx : idx l x = (k : Int) := by
          have hkl : k < l.length := by omega
          have e : l.getD k 0 = l[k] := by rw [List.getD_eq_getElem?_getD, List.getElem?_eq_getElem hkl]; rfl
          have hm : x ∈ l := by rw [hx, e]; exact List.getElem_mem hkl
          unfold idx
          rw [if_pos hm]
          have h2 : l.idxOf x = k := by
            have h3 : l.idxOf x < l.length := List.idxOf_lt_length_iff.2 hm
            have h4 : l[l.idxOf x] = x := List.getElem_idxOf h3
            rcases Nat.lt_trichotomy (l.idxOf x) k with h5 | h5 | h5
            · exact absurd (by rw [List.getD_eq_getElem?_getD, List.getElem?_eq_getElem h3]; exact h4) (HNE.out _ h5)
            · exact h5
            · have h6 := List.not_of_lt_findIdx (p := (· == x)) (xs := l) (i := k) h5
              simp only [beq_eq_false_iff_ne] at h6
              exact absurd (hx.trans e).symm h6
          rw [h2]
        have HI := Box.mk hidx; clear hidx
        generalize l.getD k 0 = y at *
        subst hx
        go_wp2_with fail
        go_ret
        exact ⟨by rw [HI.out]; rfl, rfl⟩
      · have hxx : (x == l.getD k 0) = false := by simp only [beq_eq_false_iff_ne]; exact hx
        have hnx := Box.mk hx; clear hx
        generalize hy : l.getD k 0 = y at *
        have HY := Box.mk hy; clear hy
        go_wp2_with fail
        go_roundw
        case rel => exact ⟨k + 1, by omega, by go_num, fun j hj => by
          by_cases e : j = k
          · subst e; rw [HY.out]; exact fun h => hnx.out h.symm
          · exact HNE.out j (by omega), trivial⟩
        case measure => simp [intOf]; omega
    · have hidx : idx l x = -1 := by
        unfold idx
        rw [if_neg]
        intro hm
        obtain ⟨j, hj, he⟩ := List.getElem_of_mem hm
        exact HNE.out j (by omega) (by rw [List.getD_eq_getElem?_getD, List.getElem?_eq_getElem hj]; exact he)
      have HI := Box.mk hidx; clear hidx
      go_wp2_with fail
      go_ret
      exact ⟨by rw [HI.out]; rfl, rfl⟩

set_option maxRecDepth 20000 in
theorem contains_any (l : List Int) (x : Int) (a : Option Addr) (n cap : Nat) (w : World) (hrd : Rd w a n cap 1 (intVals l)) :
    Calls Try.prog 31 #[.slice a n cap, .int .i64 x] w fun e w' => e = .returned (.bool (decide (x ∈ l))) ∧ w' = w := by
  have HC := Box.mk (index_any l x a n cap w hrd)
  have hd : decide ((0 : Int) ≤ idx l x) = decide (x ∈ l) := by
    unfold idx
    by_cases hm : x ∈ l
    · rw [if_pos hm]; simp [hm]
    · rw [if_neg hm]; simp [hm]
  generalize idx l x = i at *
  generalize decide (x ∈ l) = d at *
  go_enter Try.func31, Try.ntmps31
  go_wp2_with fail
  refine HC.out.mono ?_
  rintro e w1 ⟨rfl, rfl⟩
  go_wp2_with fail
  go_ret
  exact ⟨by first | rfl | rw [hd], rfl⟩

/-- What a function that returns a list of numbers of its own returns. -/
def RetI (l : List Int) (w : World) (e : Ending) (w' : World) : Prop :=
  ∃ a cap, e = .returned (.slice a l.length cap) ∧ w'.ownsRow w.heap.size 3 1 (.slice a l.length cap) l.length (intVals l) ∧ Below w.heap.size w w'

set_option maxRecDepth 20000 in
set_option maxHeartbeats 1000000 in
theorem clone_any (l : List Int) (a : Option Addr) (n cap : Nat) (w : World) (hrd : Rd w a n cap 1 (intVals l)) (hn : n ≤ 1000000000) :
    Calls Try.prog 35 #[.slice a n cap] w (RetI l w) := by
  have hln := hrd.ilen
  have R := Box.mk (hrd.alloc (.cells #[] 3))
  have qn : ∀ (w : World) (a : Option Addr) (n c n' c' : Nat), (binOp .eql 22 (.slice a n c) (.slice none n' c')).run Try.prog w = .ok (.bool a.isNone) w := fun w a n c n' c' => Lib.run_eql_slice_nil w 22 3 a n c n' c' sl22.ht
  cases a with
  | none =>
    have hnil := hrd.hnil rfl
    have hl : l = [] := by cases l with | nil => rfl | cons x y => simp [intVals] at hnil
    subst hl
    go_enter Try.func35, Try.ntmps35
    go_wp2_with fail
    go_ret
    exact ⟨none, 0, rfl, World.ownsRow_nil _ _ _ _, Below.refl _ _⟩
  | some ad =>
    have hown0 := own_new (w := w.alloc (.cells #[] 3)) (g := w.heap.size) (base := w.heap.size) (e := 3) (size := 1) (n := 0) (cs := []) (Blk.new rfl rfl) (Nat.le_refl _) rfl (by unfold maxLen; omega)
    go_enter Try.func35, Try.ntmps35
    go_wp2_with (first
      | ((with_reducible show wpList _ _ _ _ _ _); refine wpList_append_src (o := ⟨some 7, _, _, _, _, _⟩) rfl (.tmp 5) (.tmp 6) 22 22 rfl sl22 (.inl sl22.ht) rfl hown0 rfl (Src.ofRd R.out (intVals_one _)) (by omega) (by unfold maxLen; omega) (by simp) ?_; intro a2 c2 w2 hown2 hgr2 _; have B2 := below_grown ((Below.refl w.heap.size w).alloc (Nat.le_refl _) (.cells #[] 3)) hgr2 hown0 (Nat.le_refl _) (by simp); rw [Nat.zero_add, List.nil_append] at hown2; rw [Nat.zero_add]; clear hgr2))
    go_ret
    exact ⟨a2, c2, by rw [hln]; rfl, by rw [hln]; exact hown2, B2⟩
end Go.Proofs.Ytkloafpoldmpkaa
