/-
  The walks of ref's Reserved and Name. No condition.
-/
import Derived.Test.YtgimkipekoabbaaWName
namespace Go.Proofs.Ytgimkipekoabbaa
open Go.RowKit

def strV (s : List UInt8) : Value := .string ⟨s.toArray⟩

set_option maxRecDepth 20000 in
set_option maxHeartbeats 2000000 in
theorem rresv_any (w : World) : Calls Try.prog 43 #[] w fun e w' => e = .returned (.slice (some ⟨w.heap.size, 0, none⟩) 51 51) ∧ Blk w' w.heap.size 9 (reservedWords.map strV) ∧ Below w.heap.size w w' := by
  go_enter Try.func43, Try.ntmps43
  go_wp2_with fail
  go_ret
  exact ⟨rfl, heap_alloc_new w _, (Below.refl _ _).alloc (Nat.le_refl _) _⟩

theorem own_new {w : World} {g base e size n : Nat} {cs : List Value} (hb : Blk w g e cs) (hbase : base ≤ g) (hl : cs.length = n * size) (hn : n ≤ maxLen) : w.ownsRow base e size (.slice (some ⟨g, 0, none⟩) n n) n cs :=
  ⟨hl, .inr ⟨g, n, cs.toArray, rfl, hbase, hb, Nat.le_refl _, hn, by simp [hl], by rw [← hl]; simp⟩⟩

theorem strV_cell {w : World} {g e : Nat} {l : List (List UInt8)} (hb : Blk w g e (l.map strV)) {k : Nat} (hk : k < l.length) : w.cell? ⟨g, k, none⟩ = some (.string ⟨(l.getD k []).toArray⟩) := by
  rw [hb.cell k (by simpa using hk)]
  simp [strV, List.getD_eq_getElem?_getD, List.getElem?_eq_getElem hk]

theorem nameB_bad {s : List UInt8} {k : Nat} (hk : k < s.length) (h : charB (s.getD k 0) = false) : nameB s = false := by
  have : s.all charB = false := by
    rw [List.all_eq_false]
    refine ⟨s.getD k 0, ?_, by rw [h]; decide⟩
    rw [List.getD_eq_getElem?_getD, List.getElem?_eq_getElem hk]; exact List.getElem_mem hk
  unfold nameB; rw [this]; simp
theorem nameB_bad0 {s : List UInt8} (hk : 0 < s.length) (h : letterB (s.getD 0 0) = false) : nameB s = false := by
  cases hc : charB (s.getD 0 0) with
  | false => exact nameB_bad hk hc
  | true =>
    have : ¬ 97 ≤ (s.getD 0 0).toNat := by
      unfold charB at hc; rw [h] at hc
      unfold letterB at h
      simp only [decide_eq_false_iff_not, Bool.or_eq_true, decide_eq_true_eq, Bool.false_or] at *
      omega
    unfold nameB; rw [decide_eq_false this]; simp
theorem letterB_true (c : UInt8) : letterB c = true ↔ 97 ≤ (c.toNat : Int) ∧ (c.toNat : Int) ≤ 122 := by
  unfold letterB; simp only [decide_eq_true_eq]; omega
theorem letterB_false (c : UInt8) : letterB c = false ↔ (c.toNat : Int) < 97 ∨ 122 < (c.toNat : Int) := by
  unfold letterB; simp only [decide_eq_false_iff_not]; omega
theorem nameB_ok {s : List UInt8} (h0 : 0 < s.length) (h16 : s.length ≤ 16) (hc : ∀ j, j < s.length → charB (s.getD j 0) = true) (hl : letterB (s.getD 0 0) = true) : nameB s = !reservedB s := by
  have ha : s.all charB = true := by
    rw [List.all_eq_true]
    intro x hx
    obtain ⟨j, hj, he⟩ := List.getElem_of_mem hx
    have := hc j hj
    rwa [List.getD_eq_getElem?_getD, List.getElem?_eq_getElem hj, he] at this
  have h97 : 97 ≤ (s.getD 0 0).toNat := by have := (letterB_true _).1 hl; omega
  unfold nameB
  rw [decide_eq_true h0, decide_eq_true h16, ha, decide_eq_true h97]; simp

theorem strV_one (s : List UInt8) : (strV s).oneCell' = true := rfl

set_option maxRecDepth 20000 in
set_option maxHeartbeats 4000000 in
theorem rname_any (s : List UInt8) (w : World) : Calls Try.prog 17 #[.string ⟨s.toArray⟩] w fun e w' => e = .returned (.bool (nameB s)) ∧ Below w.heap.size w w' := by
  have hz : (⟨s.toArray⟩ : ByteArray).size = s.length := str_size s
  have HR := Box.mk (rresv_any w)
  generalize hB : nameB s = B
  have HB := Box.mk hB
  clear hB
  go_enter Try.func17, Try.ntmps17
  by_cases h0 : s.length < 1
  · have : B = false := by rw [← HB.out]; unfold nameB; rw [decide_eq_false (p := 0 < s.length) (by omega)]; simp
    subst this
    go_wp2_with fail
    all_goals first
      | (exfalso; omega)
      | (go_ret; exact ⟨rfl, Below.refl _ _⟩)
  by_cases h16 : 16 < s.length
  · have : B = false := by rw [← HB.out]; unfold nameB; rw [decide_eq_false (p := s.length ≤ 16) (by omega)]; simp
    subst this
    go_wp2_with fail
    all_goals first
      | (exfalso; omega)
      | (go_ret; exact ⟨rfl, Below.refl _ _⟩)
  have d1 : decide ((s.length : Int) < 1) = false := decide_eq_false (by omega)
  have d16 : decide ((16 : Int) < (s.length : Int)) = false := decide_eq_false (by omega)
  go_wp2_with fail
  go_loopw [3] (fun i wr => ∃ k : Nat, k ≤ s.length ∧ i = .int .i64 k ∧ (∀ j, j < k → charB (s.getD j 0) = true) ∧ (0 < k → letterB (s.getD 0 0) = true) ∧ wr = w) (fun i _ => s.length - (intOf i).toNat)
  case atStart => exact ⟨0, Nat.zero_le _, rfl, fun j h => by omega, fun h => by omega, rfl⟩
  case round =>
    obtain ⟨k, hk, rfl, hne, hle, rfl⟩ := hrel
    have HNE := Box.mk hne; clear hne
    have HLE := Box.mk hle; clear hle
    by_cases hlt : k < s.length
    · have i1 := run_index_str (P := Try.prog) (t := 9) (by kernel_rfl) s .i64 k hlt
      have HBAD := Box.mk (nameB_bad hlt)
      obtain ⟨x, hx⟩ : ∃ x, s.getD k 0 = x := ⟨_, rfl⟩
      rw [hx] at i1 HBAD
      have HX := Box.mk hx
      clear hx
      cases hl : letterB x with
      | true =>
        have hp := (letterB_true x).1 hl
        have HL := Box.mk hl
        clear hl
        go_wp2_with fail
        all_goals first
          | (exfalso; clear i1 HR HBAD; (try simp at *) <;> omega)
          | (refine ⟨⟨k + 1, by omega, by go_num, fun j hj => ?_, fun _ => ?_, trivial⟩, by simp [intOf]; omega⟩
             · by_cases e : j = k
               · subst e; rw [HX.out]; unfold charB; rw [HL.out]; rfl
               · exact HNE.out j (by omega)
             · by_cases e : k = 0
               · subst e; rw [HX.out]; exact HL.out
               · exact HLE.out (by omega))
      | false =>
        cases hc : charB x with
        | false =>
          have hp := (charB_false x).1 hc
          have : B = false := by rw [← HB.out]; exact HBAD.out hc
          subst this
          clear hl hc
          go_wp2_with fail
          all_goals first
            | (exfalso; clear i1 HR HBAD; (try simp at *) <;> omega)
            | (go_ret; exact ⟨rfl, Below.refl _ _⟩)
        | true =>
          have hp := (charB_true x).1 hc
          have hp2 := (letterB_false x).1 hl
          have HL := Box.mk hl
          have HC := Box.mk hc
          clear hl hc
          by_cases e0 : k = 0
          · have hx0 := HX.out
            rw [e0] at hx0
            have : B = false := by rw [← HB.out]; exact nameB_bad0 (by omega) (by rw [hx0]; exact HL.out)
            subst this
            have k0 : ((k : Int) == 0) = true := by rw [e0]; rfl
            have E0 := Box.mk e0
            clear hx0 e0
            go_wp2_with fail
            all_goals first
              | (exfalso; clear i1 HR HBAD; (try simp at *) <;> omega)
              | (exfalso; have e0 := E0.out; clear i1 HR HBAD k0; (try simp at *) <;> omega)
              | (exfalso; clear i1 HR HBAD k0; (try simp at *) <;> omega)
              | (go_ret; exact ⟨rfl, Below.refl _ _⟩)
          · have k0 : ((k : Int) == 0) = false := by simp; omega
            go_wp2_with fail
            all_goals first
              | (exfalso; clear i1 HR HBAD; (try simp at *) <;> omega)
              | (refine ⟨⟨k + 1, by omega, by go_num, fun j hj => ?_, fun _ => HLE.out (by omega), trivial⟩, by simp [intOf]; omega⟩
                 by_cases e : j = k
                 · subst e; rw [HX.out]; exact HC.out
                 · exact HNE.out j (by omega))
    · have hB2 : B = !reservedB s := by
        rw [← HB.out]
        exact nameB_ok (by omega) (by omega) (fun j hj => HNE.out j (by omega)) (HLE.out (by omega))
      have HB2 := Box.mk hB2
      clear hB2 HB
      go_wp2_with fail
      refine HR.out.mono ?_
      rintro e w1 ⟨rfl, hbl, hbe⟩
      go_wp2_with fail
      have HC := Box.mk (fun k (hk : k < 51) => strV_cell hbl (k := k) hk)
      have HLEN : reservedWords.length = 51 := by decide
      clear hbl
      go_loopw [7] (fun i wr => ∃ k : Nat, k ≤ 51 ∧ i = .int .i64 k ∧ (∀ j, j < k → s ≠ reservedWords.getD j []) ∧ wr = w1) (fun i _ => 51 - (intOf i).toNat)
      case atStart => exact ⟨0, Nat.zero_le _, rfl, fun j h => by omega, rfl⟩
      case round =>
        obtain ⟨k, hk, rfl, hne, rfl⟩ := hrel
        have HNS := Box.mk hne; clear hne
        by_cases hlt2 : k < 51
        · have hc := HC.out k hlt2
          rcases beq_or s (reservedWords.getD k []) with h | h
          · have hin : reservedB s = true := by
              unfold reservedB
              rw [decide_eq_true_eq, h.out.2, List.getD_eq_getElem?_getD, List.getElem?_eq_getElem (by rw [HLEN]; exact hlt2)]
              exact List.getElem_mem _
            have hF : B = false := by rw [HB2.out, hin]; rfl
            subst hF
            have h1 := h.out.1
            have hy := h.out.2
            rw [← hy] at hc h1
            have h2 : (s == s) = true := h1
            clear h hin HC HB2 hy
            go_wp2_with fail
            all_goals first
              | (go_ret; exact ⟨rfl, hbe⟩)
              | (trace_state; sorry)
          · have h1 := h.out.1
            have HNE2 := Box.mk h.out.2
            have h2 : (reservedWords.getD k [] == s) = false := by rw [Bool.beq_comm]; exact h1
            clear h
            generalize hy : reservedWords.getD k [] = y at *
            have HY := Box.mk hy
            clear hy
            go_wp2_with fail
            all_goals first
              | (refine ⟨⟨k + 1, by omega, by go_num, fun j hj => ?_, trivial⟩, by simp [intOf]; omega⟩
                 by_cases e : j = k
                 · subst e; rw [HY.out]; exact HNE2.out
                 · exact HNS.out j (by omega))
              | (trace_state; sorry)
        · have hin : reservedB s = false := by
            unfold reservedB
            rw [decide_eq_false_iff_not]
            intro hm
            obtain ⟨j, hj, he⟩ := List.getElem_of_mem hm
            exact HNS.out j (by omega) (by rw [List.getD_eq_getElem?_getD, List.getElem?_eq_getElem hj]; exact he.symm)
          have hT : B = true := by rw [HB2.out, hin]; rfl
          subst hT
          go_wp2_with fail
          all_goals first
            | (exfalso; omega)
            | (go_ret; exact ⟨rfl, hbe⟩)
            | (trace_state; sorry)
end Go.Proofs.Ytgimkipekoabbaa
