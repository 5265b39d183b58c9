/-
  Plain mathematics of chapter 20: what is written is read so. No condition.
-/
import Derived.Test.YtpgdfhncigmmbaaPrs2
namespace Go.Proofs.Ytpgdfhncigmmbaa
open Go.RowKit

/-- The first 5 * k bytes of a text, with zeros behind it. -/
def padTo (s : List UInt8) (k : Nat) : List UInt8 := (List.range (5 * k)).map fun i => s.getD i 0
theorem padTo_succ (s : List UInt8) (k : Nat) : padTo s (k + 1) = padTo s k ++ [s.getD (5 * k) 0, s.getD (5 * k + 1) 0, s.getD (5 * k + 2) 0, s.getD (5 * k + 3) 0, s.getD (5 * k + 4) 0] := by
  unfold padTo
  rw [show 5 * (k + 1) = 5 * k + 1 + 1 + 1 + 1 + 1 from by omega]
  simp [List.range_succ]
theorem wordAt_ge (s : List UInt8) (k : Nat) : 0 ≤ wordAt s k := Int.natCast_nonneg _
theorem wordAt_lt (s : List UInt8) (k : Nat) : wordAt s k < lim40 := by
  have h := wordTo_lt s k 5
  unfold wordAt lim40
  have : (256 : Nat) ^ 5 = 1099511627776 := by decide
  omega
theorem bytes_word (s : List UInt8) (k : Nat) : bytesTo (wordAt s k) 5 = [s.getD (5 * k) 0, s.getD (5 * k + 1) 0, s.getD (5 * k + 2) 0, s.getD (5 * k + 3) 0, s.getD (5 * k + 4) 0] := by
  have h0 := (s.getD (5 * k) 0).toNat_lt
  have h1 := (s.getD (5 * k + 1) 0).toNat_lt
  have h2 := (s.getD (5 * k + 2) 0).toNat_lt
  have h3 := (s.getD (5 * k + 3) 0).toNat_lt
  have h4 := (s.getD (5 * k + 4) 0).toNat_lt
  have hw : wordTo s k 5 = (((((s.getD (5 * k) 0).toNat * 256 + (s.getD (5 * k + 1) 0).toNat) * 256 + (s.getD (5 * k + 2) 0).toNat) * 256 + (s.getD (5 * k + 3) 0).toNat) * 256 + (s.getD (5 * k + 4) 0).toNat) := by
    simp [wordTo]
  have hb : ∀ i, byteAt (wordAt s k) i = UInt8.ofNat (wordTo s k 5 / 256 ^ (4 - i)) := fun i => by unfold byteAt wordAt; rw [Int.toNat_natCast]
  unfold bytesTo
  rw [show List.range 5 = [0, 1, 2, 3, 4] from rfl]
  simp only [List.map_cons, List.map_nil, hb, hw]
  generalize s.getD (5 * k) 0 = b0 at *
  generalize s.getD (5 * k + 1) 0 = b1 at *
  generalize s.getD (5 * k + 2) 0 = b2 at *
  generalize s.getD (5 * k + 3) 0 = b3 at *
  generalize s.getD (5 * k + 4) 0 = b4 at *
  simp only [List.cons.injEq, and_true]
  refine ⟨?_, ?_, ?_, ?_, ?_⟩ <;> (apply UInt8.toNat_inj.1; rw [UInt8.toNat_ofNat']; omega)
theorem rdB_up (s : List UInt8) : ∀ (k : Nat) (l' : List Int), rdB (textUp s k ++ l') k = some (padTo s k, l')
  | 0, l' => by simp [rdB, textUp, padTo]
  | k + 1, l' => by
    unfold rdB
    rw [textUp_succ, List.append_assoc, rdB_up s k]
    simp only [Option.bind_some, List.cons_append, List.nil_append, rdW_cons (wordAt_ge s k) (wordAt_lt s k), Option.map_some]
    rw [bytes_word, padTo_succ]
theorem rdT_up (s : List UInt8) (l' : List Int) : rdT s.length (textW s ++ l') = some (s, l') := by
  unfold rdT textW
  rw [rdB_up]
  have hn : s.length ≤ 5 * nWords s.length := by unfold nWords; omega
  simp only [Option.bind_some]
  rw [if_pos]
  · congr 2
    refine List.ext_getElem? fun i => ?_
    by_cases hi : i < s.length
    · rw [List.getElem?_take_of_lt hi]
      unfold padTo
      rw [List.getElem?_map, List.getElem?_range (by omega), List.getElem?_eq_getElem hi]
      simp [List.getD_eq_getElem?_getD, List.getElem?_eq_getElem hi]
    · rw [List.getElem?_eq_none (by rw [List.length_take]; omega), List.getElem?_eq_none (by omega)]
  · rw [List.all_eq_true]
    intro x hx
    obtain ⟨i, hi, rfl⟩ := List.mem_iff_getElem.1 hx
    rw [List.getElem_drop]
    unfold padTo
    rw [List.getElem_map, List.getElem_range, List.getD_eq_getElem?_getD, List.getElem?_eq_none (by omega)]
    rfl
theorem rdV_up {v : Val} (h : validB v = true) (l' : List Int) : rdV v.kind (valW v ++ l') = some (v, l') := by
  obtain ⟨k, n, s⟩ := v
  unfold validB at h
  unfold rdV valW
  by_cases h1 : k = 1
  · subst h1
    simp only [if_true, Bool.and_eq_true, decide_eq_true_eq, List.isEmpty_iff] at h ⊢
    obtain ⟨⟨rfl, h2⟩, h3⟩ := h
    rw [List.cons_append, List.nil_append, rdW_cons (by omega) (by unfold lim40; omega)]
    simp
  · by_cases h3 : k = 3
    · subst h3
      simp only [h1, if_true, if_false, Bool.and_eq_true, decide_eq_true_eq, List.isEmpty_iff] at h ⊢
      obtain ⟨rfl, h2⟩ := h
      rw [List.cons_append, List.nil_append, rdW_cons (by omega) (by omega)]
      simp
    · simp only [h1, h3, if_false] at h ⊢
      by_cases h2 : k = 2
      · subst h2
        simp only [if_true, Bool.and_eq_true, decide_eq_true_eq] at h
        obtain ⟨rfl, hs⟩ := h
        rw [List.append_assoc, List.cons_append, List.nil_append, rdW_cons (by omega) (by omega)]
        simp only [Option.bind_some, Int.toNat_natCast, rdT_up, Option.map_some]
      · rw [if_neg h2] at h; cases h
theorem rdC_up {c : Col} (hk : 1 ≤ c.kind ∧ c.kind ≤ 3) (hn : c.name.length ≤ 16) (l' : List Int) : rdC (colW c ++ l') = some (c, l') := by
  obtain ⟨nm, k, u⟩ := c
  simp only at hk hn
  have hb := b2i_le u
  unfold rdC colW colH
  simp only [List.cons_append, List.nil_append]
  rw [rdW_cons (by omega) (by omega)]
  simp only [Option.bind_some]
  rw [show ((k + 4 * b2i u + 8 * (nm.length : Int)) / 8).toNat = nm.length from by omega, rdT_up]
  simp only [Option.map_some]
  congr 2
  congr 1
  · omega
  · cases u with
    | true => rw [show b2i true = 1 from rfl]; exact decide_eq_true (by omega)
    | false => rw [show b2i false = 0 from rfl]; exact decide_eq_false (by omega)
theorem digits_pack : ∀ (l : List Int), (∀ x ∈ l, 0 ≤ x ∧ x < 16) → digits (packI l) l.length = l ∧ packI l / ((16 ^ l.length : Nat) : Int) = 0 ∧ 0 ≤ packI l
  | [], _ => ⟨rfl, rfl, Int.le_refl _⟩
  | c :: l, h => by
    obtain ⟨h1, h2, h3⟩ := digits_pack l (fun x hx => h x (List.mem_cons_of_mem _ hx))
    obtain ⟨hc0, hc1⟩ := h c (List.mem_cons_self ..)
    have hd : (c + 16 * packI l) / 16 = packI l := by omega
    have hm : (c + 16 * packI l) % 16 = c := by omega
    refine ⟨?_, ?_, by unfold packI; omega⟩
    · show digits (c + 16 * packI l) (l.length + 1) = c :: l
      unfold digits
      rw [List.range_succ_eq_map, List.map_cons, List.map_map]
      congr 1
      · simpa using hm
      · refine Eq.trans (List.map_congr_left fun i _ => ?_) h1
        show (c + 16 * packI l) / ((16 ^ (i + 1) : Nat) : Int) % 16 = _
        rw [Nat.pow_succ, Nat.mul_comm, Int.natCast_mul, ← Int.ediv_ediv_of_nonneg (by decide)]
        show (c + 16 * packI l) / 16 / _ % 16 = _
        rw [hd]
    · show (c + 16 * packI l) / ((16 ^ (l.length + 1) : Nat) : Int) = 0
      rw [Nat.pow_succ, Nat.mul_comm, Int.natCast_mul, ← Int.ediv_ediv_of_nonneg (by decide)]
      show (c + 16 * packI l) / 16 / _ = 0
      rw [hd]; exact h2
theorem rdI_up {x : Ix} (hn : x.name.length ≤ 16) (hc : x.cols.length ≤ 8) (hx : ∀ c ∈ x.cols, 0 ≤ c ∧ c < 16) (l' : List Int) : rdI (ixW x ++ l') = some (x, l') := by
  obtain ⟨nm, cs, u⟩ := x
  simp only at hn hc hx
  have hb := b2i_le u
  obtain ⟨h1, h2, h3⟩ := digits_pack cs hx
  have h4 : packI cs < lim40 := by
    have hp : (16 : Nat) ^ cs.length ≤ 16 ^ 8 := Nat.pow_le_pow_right (by omega) hc
    have hp2 : (0 : Int) < ((16 ^ cs.length : Nat) : Int) := by have := Nat.pow_pos (n := cs.length) (show 0 < 16 by omega); omega
    have h5 := (Int.ediv_lt_iff_lt_mul hp2).1 (show packI cs / ((16 ^ cs.length : Nat) : Int) < 1 by rw [h2]; decide)
    unfold lim40
    have : (16 : Nat) ^ 8 = 4294967296 := by decide
    omega
  unfold rdI ixW ixH
  simp only [List.cons_append, List.nil_append]
  rw [rdW_cons (by omega) (by omega)]
  simp only [Option.bind_some]
  rw [rdW_cons h3 h4]
  simp only [Option.bind_some]
  rw [show ((b2i u + 2 * (cs.length : Int) + 32 * (nm.length : Int)) / 32).toNat = nm.length from by omega, rdT_up]
  simp only [Option.bind_some]
  rw [show ((b2i u + 2 * (cs.length : Int) + 32 * (nm.length : Int)) / 2 % 16).toNat = cs.length from by omega, if_pos h2, h1]
  congr 2
  congr 1
  cases u with
  | true => rw [show b2i true = 1 from rfl]; exact decide_eq_true (by omega)
  | false => rw [show b2i false = 0 from rfl]; exact decide_eq_false (by omega)
theorem rdK_up {cols : List Col} {x : Chk} (hc : cols.length ≤ 8) (h0 : 0 ≤ x.col) (h1 : x.col < cols.length) (h2 : 6 ≤ x.op) (h3 : x.op ≤ 11) (hv : validB x.val = true) (hk : x.val.kind = (cols.getD x.col.toNat default).kind) (l' : List Int) : rdK cols (chkW x ++ l') = some (x, l') := by
  obtain ⟨c, o, v⟩ := x
  simp only at h0 h1 h2 h3 hv hk
  have e1 : (c + 16 * o) % 16 = c := by omega
  have e2 : (c + 16 * o) / 16 = o := by omega
  unfold rdK chkW chkH
  simp only [List.cons_append, List.nil_append]
  rw [rdW_cons (by omega) (by omega)]
  simp only [Option.bind_some, e1, e2]
  rw [if_neg (by omega), ← hk, rdV_up hv]
  rfl
theorem rdMany_up {α : Type} {f : List Int → Option (α × List Int)} {g : α → List Int} : ∀ (k : Nat) (xs : List α) (l' : List Int), (∀ x ∈ xs, ∀ l', f (g x ++ l') = some (x, l')) → k ≤ xs.length → rdMany f (flatW g xs ++ l') k = some (xs.take k, flatW g (xs.drop k) ++ l')
  | 0, xs, l', _, _ => by simp [rdMany]
  | k + 1, xs, l', hf, hk => by
    unfold rdMany
    rw [rdMany_up k xs l' hf (by omega)]
    simp only [Option.bind_some]
    rw [List.drop_eq_getElem_cons (show k < xs.length by omega)]
    simp only [flatW, List.map_cons, List.flatten_cons, List.append_assoc]
    rw [hf _ (List.getElem_mem _)]
    simp only [Option.map_some]
    rw [List.take_succ_eq_append_getElem (by omega)]
theorem rdMany_all {α : Type} {f : List Int → Option (α × List Int)} {g : α → List Int} (xs : List α) (l' : List Int) (hf : ∀ x ∈ xs, ∀ l', f (g x ++ l') = some (x, l')) : rdMany f (flatW g xs ++ l') xs.length = some (xs, l') := by
  rw [rdMany_up _ xs l' hf (Nat.le_refl _), List.take_length, List.drop_length]; rfl
/-- The words of a valid table say the table. -/
theorem parseT_up {T : Tab} (h : checkT T = 0) : parseT (wordsT T) = some T := by
  have H := checkT_ok h
  have h1 := H.name16
  have h2 := H.cols8; have h3 := H.ixs4; have h4 := H.chks4
  have hC : ∀ c ∈ T.cols, ∀ l', rdC (colW c ++ l') = some (c, l') := by
    intro c hc l'
    obtain ⟨i, hi, rfl⟩ := List.mem_iff_getElem.1 hc
    have := H.col hi
    rw [getD_eq hi] at this
    exact rdC_up ⟨this.2.2.1, this.2.2.2⟩ this.2.1 l'
  have hI : ∀ x ∈ T.ixs, ∀ l', rdI (ixW x ++ l') = some (x, l') := by
    intro x hx l'
    obtain ⟨i, hi, rfl⟩ := List.mem_iff_getElem.1 hx
    have := H.ix hi
    rw [getD_eq hi] at this
    refine rdI_up this.2.1 this.2.2.2.1 (fun c hc => ?_) l'
    obtain ⟨k, hk, rfl⟩ := List.mem_iff_getElem.1 hc
    have := this.2.2.2.2 k hk
    rw [List.getD_eq_getElem?_getD, List.getElem?_eq_getElem hk, Option.getD_some] at this
    omega
  have hK : ∀ x ∈ T.chks, ∀ l', rdK T.cols (chkW x ++ l') = some (x, l') := by
    intro x hx l'
    obtain ⟨i, hi, rfl⟩ := List.mem_iff_getElem.1 hx
    have := H.chk hi
    rw [getD_eq hi] at this
    exact rdK_up h2 this.1 this.2.1 this.2.2.1 this.2.2.2.1 this.2.2.2.2.1 this.2.2.2.2.2 l'
  obtain ⟨nm, cs, xs, ks⟩ := T
  simp only at h1 h2 h3 h4 hC hI hK
  unfold parseT wordsT headW
  simp only [List.append_assoc, List.cons_append, List.nil_append]
  rw [rdW_cons (by omega) (by omega)]
  simp only [Option.bind_some]
  rw [show (((cs.length : Int) + 16 * (xs.length : Int) + 256 * (ks.length : Int) + 4096 * (nm.length : Int)) / 4096).toNat = nm.length from by omega,
    show (((cs.length : Int) + 16 * (xs.length : Int) + 256 * (ks.length : Int) + 4096 * (nm.length : Int)) % 16).toNat = cs.length from by omega,
    show (((cs.length : Int) + 16 * (xs.length : Int) + 256 * (ks.length : Int) + 4096 * (nm.length : Int)) / 16 % 16).toNat = xs.length from by omega,
    show (((cs.length : Int) + 16 * (xs.length : Int) + 256 * (ks.length : Int) + 4096 * (nm.length : Int)) / 256 % 16).toNat = ks.length from by omega]
  rw [rdT_up]
  simp only [Option.bind_some]
  rw [rdMany_all cs _ hC]
  simp only [Option.bind_some]
  rw [rdMany_all xs _ hI]
  simp only [Option.bind_some]
  have hL := rdMany_all ks [] hK
  rw [List.append_nil] at hL
  rw [hL]
  simp only [Option.bind_some]
  rw [if_pos ⟨trivial, h⟩]
end Go.Proofs.Ytpgdfhncigmmbaa
