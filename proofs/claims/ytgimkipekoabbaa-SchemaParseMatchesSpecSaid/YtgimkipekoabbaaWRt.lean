/-
  The walk of reader.text. No condition.
-/
import Derived.Test.YtgimkipekoabbaaWRd
namespace Go.Proofs.Ytgimkipekoabbaa
open Go.RowKit

/-- What a reading returns, one way or the other. -/
def RetRd {α : Type} (val : α → Value) (B g : Nat) (o : Option (α × List Int)) (w : World) (e : Ending) (w' : World) : Prop :=
  But [g] w w' ∧ ((∃ x l', o = some (x, l') ∧ e = .returned (val x) ∧ RdrP B w' g l') ∨ (o = none ∧ e = .panicked [{ v := malV, recovered := false }]))
theorem sl_u8 : SlT Try.prog 63 5 (.int .u8 0) 1 1 := ⟨by kernel_rfl, by kernel_rfl, rfl⟩
theorem rdB_lt {l : List Int} {k m : Nat} (h : rdB l k = none) (hk : k ≤ m) : rdB l m = none := by
  induction m with
  | zero => obtain rfl : k = 0 := by omega
            exact h
  | succ m ih =>
    by_cases e : k = m + 1
    · subst e; exact h
    · unfold rdB; rw [ih (by omega)]; rfl
theorem rdB_stop {l lk : List Int} {b : List UInt8} {k : Nat} (h : rdB l k = some (b, lk)) (hw : rdW lim40 lk = none) : rdB l (k + 1) = none := by
  unfold rdB; rw [h]; simp [hw]
theorem rdB_next {l lk l' : List Int} {b : List UInt8} {k : Nat} {m : Int} (h : rdB l k = some (b, lk)) (hw : rdW lim40 lk = some (m, l')) : rdB l (k + 1) = some (b ++ bytesTo m 5, l') := by
  unfold rdB; rw [h]; simp [hw]
theorem rdT_none {l : List Int} {n k : Nat} (h : rdB l k = none) (hk : k ≤ nWords n) : rdT n l = none := by
  unfold rdT; rw [rdB_lt h hk]; rfl
theorem rdT_zero {l lk : List Int} {b : List UInt8} {n : Nat} (h : rdB l (nWords n) = some (b, lk)) (j : Nat) (hj : n + j < b.length) (hb : (b.getD (n + j) 0).toNat ≠ 0) : rdT n l = none := by
  unfold rdT; rw [h]
  simp only [Option.bind_some]
  rw [if_neg]
  intro hall
  have := List.all_eq_true.1 hall (b[n + j]) (by rw [List.mem_iff_getElem]; exact ⟨j, by rw [List.length_drop]; omega, by rw [List.getElem_drop]⟩)
  rw [List.getD_eq_getElem?_getD, List.getElem?_eq_getElem hj] at hb
  exact hb (by simpa using this)
theorem rdT_some {l lk : List Int} {b : List UInt8} {n : Nat} (h : rdB l (nWords n) = some (b, lk)) (hz : ∀ j, n + j < b.length → (b.getD (n + j) 0).toNat = 0) : rdT n l = some (b.take n, lk) := by
  unfold rdT; rw [h]
  simp only [Option.bind_some]
  rw [if_pos]
  rw [List.all_eq_true]
  intro x hx
  obtain ⟨i, hi, rfl⟩ := List.mem_iff_getElem.1 hx
  rw [List.length_drop] at hi
  have := hz i (by omega)
  rw [List.getD_eq_getElem?_getD, List.getElem?_eq_getElem (by omega)] at this
  rw [List.getElem_drop]
  simpa using this

theorem byteAt_int (m : Int) (j : Nat) (h : 0 ≤ m) : m / 2 ^ (8 * (4 - j)) % 256 = ((byteAt m j).toNat : Int) := by
  obtain ⟨M, rfl⟩ := Int.eq_ofNat_of_zero_le h
  unfold byteAt
  rw [Int.toNat_natCast, UInt8.toNat_ofNat', show (256 : Nat) ^ (4 - j) = 2 ^ (8 * (4 - j)) from by rw [Nat.pow_mul]]
  rw [show (2 : Nat) ^ 8 = 256 from rfl, Int.natCast_emod, Int.natCast_ediv, Int.natCast_pow]
  rfl
set_option maxRecDepth 20000 in
set_option maxHeartbeats 4000000 in
theorem text_rd {B g : Nat} {l : List Int} {n : Nat} {w : World} (hr : RdrP B w g l) (hB : B ≤ w.heap.size) (hn : n ≤ 100000) : Calls Try.prog 74 #[.pointer (some ⟨g, 0, none⟩), .int .i64 n] w (RetRd (fun s => .string ⟨s.toArray⟩) B g (rdT n l) w) := by
  generalize hO : rdT n l = O
  have HO := Box.mk hO
  clear hO
  go_enter Try.func74, Try.ntmps74
  go_wp2_with fail
  have hglt : g < w.heap.size := by obtain ⟨a, m, c, hb, _⟩ := hr; exact hb.lt
  go_loopw [5] (fun v wr => ∃ (k : Nat) (a : Option Addr) (c : Nat) (b : List UInt8) (lk : List Int), k ≤ nWords n ∧ v = .slice a (5 * k) c ∧ Box (rdB l k = some (b, lk) ∧ wr.ownsRow w.heap.size 5 1 (.slice a (5 * k) c) (5 * k) (byteVals b) ∧ RdrP B wr g lk ∧ But [g] w wr)) (fun v _ => n + 5 - lenOfV v)
  case atStart => exact ⟨0, none, 0, [], l, Nat.zero_le _, rfl, ⟨rfl, World.ownsRow_nil _ _ _ _, hr, But.refl _ _⟩⟩
  case round =>
    clear hr
    obtain ⟨k, a, c, b, lk, hk, rfl, HB⟩ := hrel
    by_cases hlt : 5 * k < n
    · have hkn := lt_nWords hlt
      obtain ⟨p, hp⟩ : ∃ p, p = 5 * k := ⟨_, rfl⟩
      rw [← hp] at hlt HB ⊢
      have HP := Box.mk hp
      clear hp
      go_wp2_with fail
      cases hw : rdW lim40 lk with
      | none =>
        refine (word_no HB.out.2.2.1 hw).mono ?_
        rintro e w1 ⟨rfl, hb1⟩
        have hX := HO.out.symm.trans (rdT_none (rdB_stop HB.out.1 hw) hkn)
        subst hX
        go_wp2_with fail
        exact ⟨rfl, HB.out.2.2.2.trans hb1 (fun x hx => .inl hx), .inr ⟨rfl, rfl⟩⟩
      | some q =>
        obtain ⟨m, lm⟩ := q
        refine (word_ok HB.out.2.2.1 hw).mono ?_
        rintro e w1 ⟨rfl, hr1, hb1⟩
        obtain ⟨hm0, hm1⟩ := (rdW_some hw).2
        unfold lim40 at hm1
        have H1 := Box.mk (And.intro (rdB_next HB.out.1 hw) (And.intro (own_eq HB.out.2.1 (fun j hj => hb1.block j (HB.out.2.1.lt j hj).2 (fun hm => by have := (HB.out.2.1.lt j hj).1; simp at hm; omega))) (And.intro hr1 (HB.out.2.2.2.trans hb1 (fun x hx => .inl hx)))))
        clear hw hr1 hb1 HB
        go_wp2_with fail
        go_loopw [5, 7] (fun v i wr => ∃ (j : Nat) (a : Option Addr) (c : Nat), j ≤ 5 ∧ i = .int .i64 (4 - (j : Int)) ∧ v = .slice a (p + j) c ∧ Box (wr.ownsRow w.heap.size 5 1 (.slice a (p + j) c) (p + j) (byteVals (b ++ bytesTo m j)) ∧ RdrP B wr g lm ∧ But [g] w wr)) (fun _ i _ => (intOf i + 1).toNat)
        case atStart => exact ⟨0, a, c, by omega, by go_num, rfl, ⟨by simpa [bytesTo] using H1.out.2.1, H1.out.2.2.1, H1.out.2.2.2⟩⟩
        case round =>
          obtain ⟨j, a, c, hj, rfl, rfl, H2⟩ := hrel
          by_cases hj5 : j < 5
          · have hq1 : 0 ≤ 4 - (j : Int) := by omega
            obtain ⟨ho, hr2, hb2⟩ := H2.out
            have hpn : p + j ≤ 100010 := by omega
            have hsz := hb2.size
            go_wp2_with (at_builtin; refine wpList_append_src rfl _ _ 63 63 rfl sl_u8 (.inl sl_u8.ht) rfl (ho.alloc _) rfl (Src.oneNew _ _ _ rfl) (by omega) (by unfold maxLen; omega) (by simp; omega) ?_; intro a3 cap3 w3 hown3 hgr3 _)
            refine ⟨⟨j + 1, a3, cap3, by omega, by go_num, rfl, ⟨?_, ?_, ?_⟩⟩, ?_⟩
            · have hb : Value.int IntKind.u8 (m / 2 ^ (8 * (4 - j)) % 256) = .int .u8 ((byteAt m j).toNat : Nat) := by rw [byteAt_int m j hm0]
              rw [bytesTo_succ, ← List.append_assoc, byteVals_snoc, ← hb]
              exact hown3
            · have hkp : ∀ kk, kk < w.heap.size → w3.heap[kk]? = wr.heap[kk]? := fun kk hkk => (hgr3.block kk (by simp; omega) (fun e => by have := (ho.lt kk e.symm).1; omega)).trans (heap_alloc_old _ _ (by omega))
              exact hr2.keep (hkp g hglt) (fun kk hkk => hkp kk (by omega))
            · exact (hb2.alloc _).grown hgr3 (fun kk hkk => .inr ((ho.lt kk hkk).1))
            · simp [intOf]; omega
          · obtain rfl : j = 5 := by omega
            go_wp2_with fail
            have hp := HP.out
            have e5 : p + 5 = 5 * (k + 1) := by omega
            obtain ⟨ho, hr2, hb2⟩ := H2.out
            rw [e5] at ho ⊢
            refine ⟨⟨k + 1, a, c, _, lm, hkn, rfl, ⟨H1.out.1, ho, hr2, hb2⟩⟩, ?_⟩
            simp [lenOfV]; omega
    · have hkn := nWords_le (n := n) (by omega) hk
      subst hkn
      obtain ⟨q, hq⟩ : ∃ q, q = 5 * nWords n := ⟨_, rfl⟩
      rw [← hq] at hlt HB ⊢
      have hq2 : q ≤ 100010 := by unfold nWords at hq; omega
      have HQ := Box.mk hq
      clear hq hk
      have hnq : n ≤ q := by omega
      have hrd := Rd.ofOwn HB.out.2.1
      have hcap := hrd.hcap
      have hcm := hrd.hmax
      unfold maxLen at hcm
      have hbl := hrd.blen
      have hn0 : 0 ≤ (n : Int) := by omega
      have hnq' : (n : Int) ≤ (q : Int) := by omega
      obtain ⟨a', ha', hsub⟩ := hrd.subAt n q hnq (Nat.le_refl _)
      have hl2 : (List.drop n (byteVals b)).take (q - n) = byteVals (b.drop n) := by
        rw [List.take_of_length_le (by rw [List.length_drop, byteVals_length]; omega)]
        simp [byteVals, List.map_drop]
      rw [hl2] at hsub
      have HS := Box.mk hsub
      clear hsub hl2 hrd
      go_wp2_with fail
      go_loopw [9, 32] (fun _ i wr2 => ∃ j : Nat, n + j ≤ q ∧ i = .int .i64 j ∧ Box (∀ i, i < j → (b.getD (n + i) 0).toNat = 0) ∧ wr2 = wr) (fun _ i _ => q - (intOf i).toNat)
      case atStart => exact ⟨0, by omega, rfl, ⟨fun i hi => absurd hi (by omega)⟩, rfl⟩
      case round =>
        obtain ⟨j, hj, rfl, HZ, rfl⟩ := hrel
        by_cases hjq : j < q - n
        · obtain ⟨g2, off, rfl, hc⟩ := HS.out.byteN j hjq
          have hx : (b.drop n).getD j 0 = b.getD (n + j) 0 := by simp [List.getD_eq_getElem?_getD, List.getElem?_drop]
          rw [hx] at hc
          have HX := Box.mk (fun h => rdT_zero (n := n) HB.out.1 j (by omega) h)
          have HE : Box (b.getD (n + j) 0 = b.getD (n + j) 0) := ⟨rfl⟩
          have hy := (b.getD (n + j) 0).toNat_lt
          clear hx
          by_cases hy0 : (b.getD (n + j) 0).toNat = 0
          · rw [hy0] at hc
            go_wp2_with fail
            refine ⟨⟨j + 1, by omega, by go_num, ⟨fun i hi => ?_⟩, trivial⟩, by simp [intOf]; omega⟩
            by_cases e : i = j
            · subst e; exact hy0
            · exact HZ.out i (by omega)
          · have hXX := HO.out.symm.trans (HX.out hy0)
            subst hXX
            generalize (b.getD (n + j) 0).toNat = y at *
            have hyn : ((y : Int) == 0) = false := by simp only [beq_eq_false_iff_ne]; omega
            go_wp2_with fail
            refine (fail_any _).mono ?_
            rintro e w' ⟨rfl, rfl⟩
            go_wp2_with fail
            exact ⟨rfl, HB.out.2.2.2, .inr ⟨rfl, rfl⟩⟩
        · have hjj : j = q - n := by omega
          have hX := HO.out.symm.trans (rdT_some (n := n) HB.out.1 (fun i hi => HZ.out i (by omega)))
          subst hX
          have hrd := Rd.ofOwn HB.out.2.1
          have hpre : Rd wr a n c 1 (byteVals (b.take n)) := by
            have h := hrd.sub 0 n c (Nat.zero_le _) hnq (by omega) (Nat.le_refl _)
            simp only [List.drop_zero, Nat.sub_zero, Nat.mul_one] at h
            rw [show byteVals (b.take n) = (byteVals b).take n from by simp [byteVals, List.map_take]]
            by_cases h0 : c = 0
            · rw [if_pos h0] at h; exact h
            · rw [if_neg h0] at h
              cases a with
              | none => exact h
              | some ad => exact h
          have hcv := run_string_rd (P := Try.prog) (src := 63) (dst := 9) (e := 5) (by kernel_rfl) (by kernel_rfl) (by kernel_rfl) hpre
          clear hrd hpre
          go_wp2_with fail
          go_ret
          exact ⟨HB.out.2.2.2, .inl ⟨_, _, rfl, rfl, HB.out.2.2.1⟩⟩
end Go.Proofs.Ytgimkipekoabbaa
