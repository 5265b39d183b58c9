/-
  Plain mathematics of chapter 21: what is written is read; what is read was written. No condition.
-/
import Derived.Test.YtpgdfhncigmmbaaSane
namespace Go.Proofs.Ytpgdfhncigmmbaa
open Go.RowKit

theorem nullsN_bit (r : List Val) : ∀ (m k : Nat), k < m → nullsN r m / 2 ^ k % 2 = if (r.getD k default).kind = 0 then 1 else 0
  | 0, k, h => absurd h (by omega)
  | m + 1, k, h => by
    rw [nullsN_succ]
    have hlt := nullsN_lt r m
    by_cases e : k = m
    · subst e
      split
      · rw [Nat.add_div_right _ (Nat.pow_pos (by omega)), Nat.div_eq_of_lt hlt]
      · rw [Nat.add_zero, Nat.div_eq_of_lt hlt]
    · have ih := nullsN_bit r m k (by omega)
      split
      · rw [show 2 ^ m = 2 ^ k * (2 * 2 ^ (m - k - 1)) from by rw [← Nat.pow_succ', ← Nat.pow_add]; congr 1; omega, Nat.add_mul_div_left _ _ (Nat.pow_pos (by omega)), Nat.add_mul_mod_self_left]
        exact ih
      · rw [Nat.add_zero]; exact ih
theorem nullsN_mod {r : List Val} {U : Nat} : ∀ (k : Nat), (∀ j, j < k → U / 2 ^ j % 2 = if (r.getD j default).kind = 0 then 1 else 0) → nullsN r k = U % 2 ^ k
  | 0, _ => by simp [nullsN, Nat.mod_one]
  | k + 1, h => by
    rw [nullsN_succ, nullsN_mod k (fun j hj => h j (by omega)), Nat.mod_pow_succ, h k (by omega)]
    split <;> simp
theorem okV_valid {v : Val} (h : OkV v) (hk : v.kind ≠ 0) : validB v = true := by
  unfold OkV at h
  rw [Bool.or_eq_true] at h
  rcases h with h | h
  · exact h
  · rw [nullB_eq] at h
    have := of_decide_eq_true h
    rw [this] at hk; exact absurd rfl hk
theorem okV_null {v : Val} (h : OkV v) (hk : v.kind = 0) : v = zval := by
  rcases okV_cases h with rfl | ⟨x, rfl, _⟩ | ⟨s, rfl, _⟩ | ⟨x, rfl, _⟩
  · rfl
  · cases hk
  · cases hk
  · cases hk
theorem valR_valid {v : Val} (hk : v.kind ≠ 0) : valR v = valW v := if_neg hk
/-- The columns that a row fits, and perhaps more. -/
theorem decTo_up {T : Tab} {r : List Val} (h : fitsT T r = 0) (C : List Col) (hC : ∀ k, k < r.length → C.getD k default = T.cols.getD k default) (more : List Int) : ∀ k, k ≤ r.length → decTo C r.length (nullsN r r.length) (flatW valR r ++ more) k = some (r.take k, flatW valR (r.drop k) ++ more)
  | 0, _ => by simp [decTo]
  | k + 1, hk => by
    have ih := decTo_up h C hC more k (by omega)
    have hv := valErr_zero ((fitsT_inv h).2.2.1 k (by omega))
    have hbit := nullsN_bit r r.length k (by omega)
    have hdr : r.drop k = r.getD k default :: r.drop (k + 1) := by rw [getD_eq (by omega)]; exact List.drop_eq_getElem_cons (by omega)
    rw [take_succ_getD r k (by omega)]
    rw [hdr, show flatW valR (r.getD k default :: r.drop (k + 1)) = valR (r.getD k default) ++ flatW valR (r.drop (k + 1)) from by simp [flatW], List.append_assoc] at ih
    by_cases h0 : (r.getD k default).kind = 0
    · rw [if_pos h0] at hbit
      have hz := okV_null hv.1 h0
      rw [show valR (r.getD k default) = [] from if_pos h0, List.nil_append] at ih
      have := decTo_null (cols := C) ih (.inr hbit) (by rw [hC k (by omega)]; exact hv.2.1 (by rw [hz]; rfl))
      rw [this, hz]
    · rw [if_neg h0] at hbit
      have hva := okV_valid hv.1 h0
      have hnl : nullB (r.getD k default) = false := by
        rw [nullB_eq, decide_eq_false_iff_not]
        intro e; rw [e] at h0; exact h0 rfl
      refine decTo_val (cols := C) ih (by rw [hbit]; simp; omega) ?_
      rw [hC k (by omega), ← hv.2.2 hnl, valR_valid h0]
      exact rdV_up hva _
theorem head_bounds (r : List Val) (h8 : r.length ≤ 8) : (256 * r.length + nullsN r r.length) / 256 = r.length ∧ (256 * r.length + nullsN r r.length) % 256 = nullsN r r.length ∧ nullsN r r.length / 2 ^ r.length = 0 := by
  have h1 := nullsN_lt r r.length
  have h2 : 2 ^ r.length ≤ 2 ^ 8 := Nat.pow_le_pow_right (by omega) h8
  have h3 : (2 : Nat) ^ 8 = 256 := by decide
  exact ⟨by omega, by omega, Nat.div_eq_of_lt h1⟩
/-- What is written is read, also by a table that has got a column. -/
theorem decT_up {T T' : Tab} {r : List Val} (h : fitsT T r = 0) (hl : r.length ≤ T'.cols.length) (more : List Int) : decT T' (wordsR r ++ more) = (decTo T'.cols r.length (nullsN r r.length) (flatW valR r ++ more) T'.cols.length).map fun p => (p.1, (wordsR r ++ more).length - p.2.length) := by
  obtain ⟨h1, h2, h3⟩ := fits_len h
  obtain ⟨b1, b2, b3⟩ := head_bounds r (by omega)
  have hw : wordsR r ++ more = ((256 * r.length + nullsN r r.length : Nat) : Int) :: (flatW valR r ++ more) := by unfold wordsR wordsUp; simp
  have hlt := nullsN_lt r r.length
  have h4 : 2 ^ r.length ≤ 2 ^ 8 := Nat.pow_le_pow_right (by omega) (by omega)
  have h5 : (2 : Nat) ^ 8 = 256 := by decide
  have hrd : rdW lim40 (wordsR r ++ more) = some (((256 * r.length + nullsN r r.length : Nat) : Int), flatW valR r ++ more) := by
    rw [hw]; exact rdW_cons (by omega) (by unfold lim40; omega)
  have := decT_go (T := T') hrd (by
    rw [b1, b2, b3]
    rintro (hh | hh | hh)
    · omega
    · omega
    · exact hh rfl)
  rw [b1, b2] at this
  exact this
theorem decT_back {T : Tab} {r : List Val} (h : fitsT T r = 0) (more : List Int) : decT T (wordsR r ++ more) = some (r, (wordsR r).length) := by
  have h1 := (fits_len h).1
  rw [decT_up (T' := T) h (by omega) more]
  have := decTo_up h T.cols (fun _ _ => rfl) more r.length (Nat.le_refl _)
  rw [← h1, this]
  simp only [Option.map_some, List.take_length, List.drop_length, Option.some.injEq, Prod.mk.injEq, true_and]
  rw [show flatW valR ([] : List Val) = [] from rfl]
  simp
theorem decT_grown {T : Tab} {c : Col} {r : List Val} (h : fitsT T r = 0) (hc : c.null = true) : decT (T.addCol c) (wordsR r) = some (r ++ [zval], (wordsR r).length) := by
  have h1 := (fits_len h).1
  have hC : ∀ k, k < r.length → (T.addCol c).cols.getD k default = T.cols.getD k default := fun k hk => by
    show (T.cols ++ [c]).getD k default = _
    rw [List.getD_eq_getElem?_getD, List.getElem?_append_left (by omega), ← List.getD_eq_getElem?_getD]
  have e := decT_up (T' := T.addCol c) h (by show r.length ≤ (T.cols ++ [c]).length; simp; omega) []
  rw [List.append_nil] at e
  rw [e]
  have := decTo_up h (T.addCol c).cols hC [] r.length (Nat.le_refl _)
  have hl : (T.addCol c).cols.length = r.length + 1 := by show (T.cols ++ [c]).length = _; simp; omega
  rw [List.take_length, List.drop_length, show flatW valR ([] : List Val) ++ [] = [] from rfl, List.append_nil] at this
  rw [hl, List.append_nil, decTo_null this (.inl (Nat.le_refl _)) (by
    show ((T.cols ++ [c]).getD r.length default).null = true
    rw [h1, List.getD_eq_getElem?_getD]; simp [hc])]
  simp

theorem rdW_ext {lim n : Int} {l l' : List Int} (h : rdW lim l = some (n, l')) (e : List Int) : rdW lim (l ++ e) = some (n, l' ++ e) := by
  obtain ⟨rfl, h0, h1⟩ := rdW_some h
  exact rdW_cons h0 h1
theorem rdB_ext {l : List Int} (e : List Int) : ∀ {k : Nat} {b : List UInt8} {l' : List Int}, rdB l k = some (b, l') → rdB (l ++ e) k = some (b, l' ++ e)
  | 0, b, l', h => by simp only [rdB, Option.some.injEq, Prod.mk.injEq] at h; obtain ⟨rfl, rfl⟩ := h; rfl
  | k + 1, b, l', h => by
    unfold rdB at h
    obtain ⟨q, h1, h2⟩ := Option.bind_eq_some_iff.1 h
    obtain ⟨b0, lq⟩ := q
    obtain ⟨m, h3, h4⟩ := Option.map_eq_some_iff.1 h2
    simp only [Prod.mk.injEq] at h4
    obtain ⟨rfl, rfl⟩ := h4
    exact rdB_next (rdB_ext e h1) (rdW_ext h3 e)
theorem rdT_ext {n : Nat} {l l' : List Int} {s : List UInt8} (h : rdT n l = some (s, l')) (e : List Int) : rdT n (l ++ e) = some (s, l' ++ e) := by
  unfold rdT at h ⊢
  obtain ⟨q, h1, h2⟩ := Option.bind_eq_some_iff.1 h
  obtain ⟨b0, lq⟩ := q
  rw [rdB_ext e h1]
  simp only [Option.bind_some]
  split at h2
  · rename_i hz
    simp only [Option.some.injEq, Prod.mk.injEq] at h2
    obtain ⟨rfl, rfl⟩ := h2
    rw [if_pos hz]
  · cases h2
theorem rdV_ext {kd : Int} {l l' : List Int} {v : Val} (h : rdV kd l = some (v, l')) (e : List Int) : rdV kd (l ++ e) = some (v, l' ++ e) := by
  unfold rdV at h ⊢
  by_cases h1 : kd = 1
  · rw [if_pos h1] at h ⊢
    obtain ⟨q, h2, h3⟩ := Option.map_eq_some_iff.1 h
    simp only [Prod.mk.injEq] at h3
    obtain ⟨rfl, rfl⟩ := h3
    rw [rdW_ext h2 e]; rfl
  · rw [if_neg h1] at h ⊢
    by_cases h3 : kd = 3
    · rw [if_pos h3] at h ⊢
      obtain ⟨q, h2, h4⟩ := Option.map_eq_some_iff.1 h
      simp only [Prod.mk.injEq] at h4
      obtain ⟨rfl, rfl⟩ := h4
      rw [rdW_ext h2 e]; rfl
    · rw [if_neg h3] at h ⊢
      obtain ⟨q, h2, h4⟩ := Option.bind_eq_some_iff.1 h
      obtain ⟨p, h5, h6⟩ := Option.map_eq_some_iff.1 h4
      simp only [Prod.mk.injEq] at h6
      obtain ⟨rfl, rfl⟩ := h6
      rw [rdW_ext h2 e]
      simp only [Option.bind_some]
      rw [rdT_ext h5 e]; rfl
theorem decTo_ext {C : List Col} {n u : Nat} {l : List Int} (e : List Int) : ∀ {k : Nat} {vs : List Val} {l' : List Int}, decTo C n u l k = some (vs, l') → decTo C n u (l ++ e) k = some (vs, l' ++ e)
  | 0, vs, l', h => by simp only [decTo, Option.some.injEq, Prod.mk.injEq] at h; obtain ⟨rfl, rfl⟩ := h; rfl
  | k + 1, vs, l', h => by
    unfold decTo at h
    obtain ⟨q, h1, h2⟩ := Option.bind_eq_some_iff.1 h
    obtain ⟨v0, lq⟩ := q
    have ih := decTo_ext e h1
    by_cases hc : n ≤ k ∨ u / 2 ^ k % 2 = 1
    · rw [if_pos hc] at h2
      cases hn : (C.getD k default).null with
      | true =>
        rw [hn, if_pos rfl] at h2
        simp only [Option.some.injEq, Prod.mk.injEq] at h2
        obtain ⟨rfl, rfl⟩ := h2
        exact decTo_null ih hc hn
      | false => rw [hn] at h2; simp at h2
    · rw [if_neg hc] at h2
      obtain ⟨q, h3, h4⟩ := Option.map_eq_some_iff.1 h2
      simp only [Prod.mk.injEq] at h4
      obtain ⟨rfl, rfl⟩ := h4
      exact decTo_val ih hc (rdV_ext h3 e)
theorem decT_some {T : Tab} {l : List Int} {x : List Val} {m : Nat} (h : decT T l = some (x, m)) : ∃ (H : Nat) (lh rest : List Int), rdW lim40 l = some ((H : Int), lh) ∧ 1 ≤ H / 256 ∧ H / 256 ≤ T.cols.length ∧ H % 256 / 2 ^ (H / 256) = 0 ∧ decTo T.cols (H / 256) (H % 256) lh T.cols.length = some (x, rest) ∧ m = l.length - rest.length := by
  unfold decT at h
  obtain ⟨q, h1, h2⟩ := Option.bind_eq_some_iff.1 h
  obtain ⟨h0, lh⟩ := q
  obtain ⟨_, hp, _⟩ := rdW_some h1
  obtain ⟨H, rfl⟩ := Int.eq_ofNat_of_zero_le hp
  simp only at h2
  rw [show ((H : Int) / 256).toNat = H / 256 from by omega, show ((H : Int) % 256).toNat = H % 256 from by omega] at h2
  split at h2
  · cases h2
  · rename_i hb
    obtain ⟨p, h3, h4⟩ := Option.map_eq_some_iff.1 h2
    simp only [Prod.mk.injEq] at h4
    obtain ⟨rfl, rfl⟩ := h4
    refine ⟨H, lh, p.2, h1, by omega, by omega, ?_, h3, rfl⟩
    exact Decidable.not_not.1 (fun hh => hb (.inr (.inr hh)))
theorem decTo_rest {C : List Col} {n u : Nat} {l : List Int} : ∀ {k : Nat} {vs : List Val} {l' : List Int}, decTo C n u l k = some (vs, l') → l'.length ≤ l.length
  | 0, vs, l', h => by simp only [decTo, Option.some.injEq, Prod.mk.injEq] at h; obtain ⟨rfl, rfl⟩ := h; exact Nat.le_refl _
  | k + 1, vs, l', h => by
    unfold decTo at h
    obtain ⟨q, h1, h2⟩ := Option.bind_eq_some_iff.1 h
    obtain ⟨v0, lq⟩ := q
    have ih := decTo_rest h1
    split at h2
    · split at h2
      · simp only [Option.some.injEq, Prod.mk.injEq] at h2
        obtain ⟨rfl, rfl⟩ := h2; exact ih
      · cases h2
    · obtain ⟨q, h3, h4⟩ := Option.map_eq_some_iff.1 h2
      simp only [Prod.mk.injEq] at h4
      obtain ⟨rfl, rfl⟩ := h4
      have := (rdV_inv h3).1
      have h5 := congrArg List.length this
      rw [List.length_append] at h5
      simp only at h5 ih
      omega
theorem decT_ext {T : Tab} {l : List Int} {x : List Val} {m : Nat} (h : decT T l = some (x, m)) (e : List Int) : decT T (l ++ e) = some (x, m) := by
  obtain ⟨H, lh, rest, h1, h2, h3, h4, h5, rfl⟩ := decT_some h
  rw [decT_go (rdW_ext h1 e) (by rw [h4]; rintro (hh | hh | hh); omega; omega; exact hh rfl), decTo_ext e h5]
  simp; omega
/-- How many words were read. -/
theorem decT_num {T : Tab} {l : List Int} {x : List Val} {m : Nat} (h : decT T l = some (x, m)) : 1 ≤ m ∧ m ≤ l.length := by
  obtain ⟨H, lh, rest, h1, h2, h3, h4, h5, rfl⟩ := decT_some h
  have := decTo_rest h5
  have h6 := (rdW_some h1).1
  have h7 := congrArg List.length h6
  simp at h7
  omega
/-- Fewer words are not read. -/
theorem decT_cut {T : Tab} {r : List Val} (h : fitsT T r = 0) {c : Nat} (hc : c < (wordsR r).length) : decT T ((wordsR r).take c) = none := by
  cases hd : decT T ((wordsR r).take c) with
  | none => rfl
  | some p =>
    obtain ⟨x, m⟩ := p
    have h1 := decT_ext hd ((wordsR r).drop c)
    rw [List.take_append_drop] at h1
    have h2 := decT_back h []
    rw [List.append_nil, h1] at h2
    simp only [Option.some.injEq, Prod.mk.injEq] at h2
    have h3 := (decT_num hd).2
    rw [List.length_take] at h3
    omega
/-- If the words of one row begin with those of another one, the rows are equal. -/
theorem words_prefix {T : Tab} {r s : List Val} (h : fitsT T r = 0) (h2 : fitsT T s = 0) (hp : wordsR r = (wordsR s).take (wordsR r).length) : r = s := by
  have h3 := decT_back h ((wordsR s).drop (wordsR r).length)
  have h4 : wordsR r ++ (wordsR s).drop (wordsR r).length = wordsR s := by
    rw [show wordsR r ++ (wordsR s).drop (wordsR r).length = (wordsR s).take (wordsR r).length ++ (wordsR s).drop (wordsR r).length from by rw [← hp]]
    exact List.take_append_drop _ _
  rw [h4] at h3
  have h5 := decT_back h2 []
  rw [List.append_nil, h3] at h5
  simp only [Option.some.injEq, Prod.mk.injEq] at h5
  exact h5.1
theorem rdV_ok {kd : Int} {l l' : List Int} {v : Val} (hk : 1 ≤ kd ∧ kd ≤ 3) (h : rdV kd l = some (v, l')) : validB v = true ∧ v.kind = kd := by
  unfold rdV at h
  by_cases h1 : kd = 1
  · rw [if_pos h1] at h
    obtain ⟨⟨m, l1⟩, h2, h3⟩ := Option.map_eq_some_iff.1 h
    simp only [Prod.mk.injEq] at h3
    obtain ⟨rfl, rfl⟩ := h3
    obtain ⟨_, h4, h5⟩ := rdW_some h2
    unfold lim40 at h5
    exact ⟨by unfold validB; simp; omega, h1.symm⟩
  · rw [if_neg h1] at h
    by_cases h3 : kd = 3
    · rw [if_pos h3] at h
      obtain ⟨⟨m, l1⟩, h2, h4⟩ := Option.map_eq_some_iff.1 h
      simp only [Prod.mk.injEq] at h4
      obtain ⟨rfl, rfl⟩ := h4
      obtain ⟨_, h4, h5⟩ := rdW_some h2
      exact ⟨by unfold validB; simp; omega, h3.symm⟩
    · rw [if_neg h3] at h
      obtain rfl : kd = 2 := by omega
      obtain ⟨⟨m, l1⟩, h2, h4⟩ := Option.bind_eq_some_iff.1 h
      obtain ⟨⟨s, l2⟩, h5, h6⟩ := Option.map_eq_some_iff.1 h4
      simp only [Prod.mk.injEq] at h6
      obtain ⟨rfl, rfl⟩ := h6
      obtain ⟨_, h7, h8⟩ := rdW_some h2
      have hl : s.length = m.toNat := rdT_len h5
      exact ⟨by unfold validB; simp; omega, rfl⟩
/-- What was read: its words; which values are null; and that they suit their columns. -/
theorem decTo_inv {C : List Col} (hC : ∀ i, i < C.length → 1 ≤ (C.getD i default).kind ∧ (C.getD i default).kind ≤ 3) {n u : Nat} {l : List Int} : ∀ {k : Nat} {vs : List Val} {l' : List Int}, k ≤ C.length → decTo C n u l k = some (vs, l') →
    l = flatW valR vs ++ l' ∧ (∀ j, j < k → valErr C vs j = 0) ∧ ∀ j, j < k → j < n → u / 2 ^ j % 2 = if (vs.getD j default).kind = 0 then 1 else 0
  | 0, vs, l', _, h => by simp only [decTo, Option.some.injEq, Prod.mk.injEq] at h; obtain ⟨rfl, rfl⟩ := h; exact ⟨rfl, fun j hj => by omega, fun j hj => by omega⟩
  | k + 1, vs, l', hk, h => by
    have hlen := decTo_len h
    unfold decTo at h
    obtain ⟨q, h1, h2⟩ := Option.bind_eq_some_iff.1 h
    obtain ⟨v0, lq⟩ := q
    obtain ⟨i1, i2, i3⟩ := decTo_inv hC (by omega) h1
    have hl0 : v0.length = k := decTo_len h1
    have hold : ∀ (v : Val) j, j < k → (v0 ++ [v]).getD j default = v0.getD j default := fun v j hj => by
      rw [List.getD_eq_getElem?_getD, List.getElem?_append_left (by omega), ← List.getD_eq_getElem?_getD]
    have hnew : ∀ (v : Val), (v0 ++ [v]).getD k default = v := fun v => by rw [List.getD_eq_getElem?_getD, ← hl0]; simp
    have herr : ∀ (v : Val) j, j < k → valErr C (v0 ++ [v]) j = 0 := fun v j hj => by
      have := i2 j hj
      unfold valErr at this ⊢
      rw [hold v j hj]; exact this
    by_cases hc : n ≤ k ∨ u / 2 ^ k % 2 = 1
    · rw [if_pos hc] at h2
      cases hn : (C.getD k default).null with
      | false => rw [hn] at h2; simp at h2
      | true =>
        rw [hn, if_pos rfl] at h2
        simp only [Option.some.injEq, Prod.mk.injEq] at h2
        obtain ⟨rfl, rfl⟩ := h2
        refine ⟨by rw [i1, flatW_snoc, show valR zval = [] from rfl, List.append_nil], fun j hj => ?_, fun j hj hjn => ?_⟩
        · by_cases e : j = k
          · subst e
            exact valErr_nullOk (hnew zval) rfl rfl hn
          · exact herr zval j (by omega)
        · by_cases e : j = k
          · subst e
            rw [hnew, if_pos (show zval.kind = 0 from rfl)]
            rcases hc with hc | hc
            · omega
            · exact hc
          · rw [hold zval j (by omega)]; exact i3 j (by omega) hjn
    · rw [if_neg hc] at h2
      obtain ⟨⟨v, l1⟩, h3, h4⟩ := Option.map_eq_some_iff.1 h2
      simp only [Prod.mk.injEq] at h4
      obtain ⟨rfl, rfl⟩ := h4
      obtain ⟨k1, k2⟩ := rdV_ok (hC k (by omega)) h3
      have hkz : v.kind ≠ 0 := by rw [k2]; have := (hC k (by omega)).1; omega
      refine ⟨by rw [i1, flatW_snoc, valR_valid hkz, List.append_assoc]; congr 1; exact (rdV_inv h3).1, fun j hj => ?_, fun j hj hjn => ?_⟩
      · by_cases e : j = k
        · subst e
          refine valErr_ok (hnew v) rfl ?_ (by rw [k1, k2]; simp)
          rw [nullB_eq, decide_eq_false_iff_not]
          intro e; rw [e] at hkz; exact hkz rfl
        · exact herr v j (by omega)
      · by_cases e : j = k
        · subst e
          rw [hnew, if_neg hkz]
          have : ¬ u / 2 ^ j % 2 = 1 := fun hh => hc (.inr hh)
          omega
        · rw [hold v j (by omega)]; exact i3 j (by omega) hjn
theorem firstE_bin {f : Nat → Int} {c : Int} (hf : ∀ i, f i = 0 ∨ f i = c) : ∀ n, firstE f n = 0 ∨ firstE f n = c := by
  intro n
  by_cases h : firstE f n = 0
  · exact .inl h
  · obtain ⟨k, _, h2, h3, _⟩ := firstE_ne h
    rw [h2]; exact hf k
theorem holdErr_bin (chks : List Chk) (r : List Val) (i : Nat) : holdErr chks r i = 0 ∨ holdErr chks r i = 201 := by
  unfold holdErr; split
  · exact .inr rfl
  · exact .inl rfl
/-- What is read fits, unless a check does not hold. -/
theorem decT_fits {T : Tab} (hT : checkT T = 0) {l : List Int} {x : List Val} {m : Nat} (h : decT T l = some (x, m)) : fitsT T x = 0 ∨ fitsT T x = 201 := by
  obtain ⟨H, lh, rest, h1, h2, h3, h4, h5, rfl⟩ := decT_some h
  have hok := checkT_ok hT
  obtain ⟨i1, i2, i3⟩ := decTo_inv (fun i hi => ⟨(hok.col hi).2.2.1, (hok.col hi).2.2.2⟩) (Nat.le_refl _) h5
  have hlx : x.length = T.cols.length := decTo_len h5
  unfold fitsT
  rw [hT, if_neg (by decide), if_neg (by simp [hlx]), firstE_zero (fun j hj => i2 j (by omega)), if_neg (by decide)]
  exact firstE_bin (holdErr_bin _ _) _
/-- A row of all columns: the words begin with its words. -/
theorem decT_words {T : Tab} (hT : checkT T = 0) {l : List Int} {x : List Val} {m : Nat} (h : decT T l = some (x, m)) (hn : (T.cols.length : Int) ≤ l.getD 0 0 / 256) : wordsR x = l.take m := by
  obtain ⟨H, lh, rest, h1, h2, h3, h4, h5, rfl⟩ := decT_some h
  have hok := checkT_ok hT
  obtain ⟨i1, i2, i3⟩ := decTo_inv (fun i hi => ⟨(hok.col hi).2.2.1, (hok.col hi).2.2.2⟩) (Nat.le_refl _) h5
  have hlx : x.length = T.cols.length := decTo_len h5
  have hll := (rdW_some h1).1
  have hH : l.getD 0 0 = (H : Int) := by rw [hll]; rfl
  rw [hH] at hn
  have hHn : H / 256 = T.cols.length := by omega
  have hnu : nullsN x x.length = H % 256 := by
    rw [nullsN_mod (U := H % 256) x.length (fun j hj => i3 j (by omega) (by omega)), hlx, ← hHn]
    exact Nat.mod_eq_of_lt (by
      have hp : 0 < 2 ^ (H / 256) := Nat.pow_pos (by omega)
      by_cases hlt : H % 256 < 2 ^ (H / 256)
      · exact hlt
      · have := Nat.div_pos (Nat.le_of_not_lt hlt) hp; omega)
  have hw : wordsR x ++ rest = l := by
    unfold wordsR wordsUp
    rw [List.take_length, hnu, hll, List.append_assoc, ← i1]
    simp only [List.cons_append, List.nil_append, List.cons.injEq, and_true]
    omega
  rw [show l.length - rest.length = (wordsR x).length from by rw [← hw, List.length_append]; omega]
  conv => rhs; rw [← hw]
  rw [List.take_left]
theorem fits_words {T : Tab} {r : List Val} (h : fitsT T r = 0) : 1 ≤ (wordsR r).length ∧ (wordsR r).length ≤ 73 := by
  obtain ⟨h1, h2, _⟩ := fits_len h
  have := wordsUp_len (fits_okR h) r.length (Nat.le_refl _)
  have h3 := wordsUp_pos r r.length
  exact ⟨h3, by show (wordsUp r r.length).length ≤ 73; omega⟩
end Go.Proofs.Ytpgdfhncigmmbaa
