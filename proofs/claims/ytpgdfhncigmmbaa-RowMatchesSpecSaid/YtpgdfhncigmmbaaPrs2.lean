/-
  Plain mathematics of chapter 20: what is read was written so. No condition.
-/
import Derived.Test.YtpgdfhncigmmbaaPrs
namespace Go.Proofs.Ytpgdfhncigmmbaa
open Go.RowKit

theorem textUp_append (a b : List UInt8) (k : Nat) (h : 5 * k ≤ a.length) : textUp (a ++ b) k = textUp a k := by
  unfold textUp
  refine List.map_congr_left fun j hj => ?_
  have hj' := List.mem_range.1 hj
  have key : ∀ i, i ≤ 5 → wordTo (a ++ b) j i = wordTo a j i := by
    intro i hi
    induction i with
    | zero => rfl
    | succ i ih =>
      unfold wordTo
      rw [ih (by omega), List.getD_eq_getElem?_getD, List.getElem?_append_left (by omega), ← List.getD_eq_getElem?_getD]
  unfold wordAt; rw [key 5 (Nat.le_refl _)]
theorem byteAt_toNat (M : Nat) (i : Nat) : (byteAt (M : Int) i).toNat = M / 256 ^ (4 - i) % 256 := by
  unfold byteAt; rw [Int.toNat_natCast, UInt8.toNat_ofNat']
theorem bytesTo_getD (m : Int) (i : Nat) (h : i < 5) : (bytesTo m 5).getD i 0 = byteAt m i := by
  unfold bytesTo
  rw [List.getD_eq_getElem?_getD, List.getElem?_map, List.getElem?_range h]; rfl
theorem wordAt_bytes (a : List UInt8) (k : Nat) (h : a.length = 5 * k) (m : Int) (h0 : 0 ≤ m) (h1 : m < lim40) : wordAt (a ++ bytesTo m 5) k = m := by
  obtain ⟨M, rfl⟩ := Int.eq_ofNat_of_zero_le h0
  have hM : M < 1099511627776 := by unfold lim40 at h1; omega
  have hg : ∀ i, i < 5 → ((a ++ bytesTo (M : Int) 5).getD (5 * k + i) 0).toNat = M / 256 ^ (4 - i) % 256 := by
    intro i hi
    rw [List.getD_eq_getElem?_getD, List.getElem?_append_right (by omega), ← List.getD_eq_getElem?_getD, show 5 * k + i - a.length = i from by omega, bytesTo_getD _ _ hi, byteAt_toNat]
  unfold wordAt
  simp only [wordTo, hg 0 (by omega), hg 1 (by omega), hg 2 (by omega), hg 3 (by omega), hg 4 (by omega)]
  omega
/-- Words of 40 bits. -/
def okW (l : List Int) : Prop := ∀ w ∈ l, 0 ≤ w ∧ w < lim40
theorem okW_nil : okW [] := by simp [okW]
theorem okW_cons {n : Int} {l : List Int} (h0 : 0 ≤ n) (h1 : n < lim40) (h : okW l) : okW (n :: l) := by
  intro w hw; rcases List.mem_cons.1 hw with rfl | hw
  · exact ⟨h0, h1⟩
  · exact h w hw
theorem okW_append {a b : List Int} (ha : okW a) (hb : okW b) : okW (a ++ b) := by
  intro w hw; rcases List.mem_append.1 hw with hw | hw
  · exact ha w hw
  · exact hb w hw
theorem rdB_inv : ∀ {k : Nat} {l l' : List Int} {b : List UInt8}, rdB l k = some (b, l') → l = textUp b k ++ l' ∧ okW (textUp b k)
  | 0, l, l', b, h => by
    simp only [rdB, Option.some.injEq, Prod.mk.injEq] at h
    obtain ⟨rfl, rfl⟩ := h
    exact ⟨rfl, okW_nil⟩
  | k + 1, l, l', b, h => by
    unfold rdB at h
    obtain ⟨⟨b0, l0⟩, h1, h2⟩ := Option.bind_eq_some_iff.1 h
    obtain ⟨⟨m, l1⟩, h3, h4⟩ := Option.map_eq_some_iff.1 h2
    simp only [Prod.mk.injEq] at h4
    obtain ⟨rfl, rfl⟩ := h4
    obtain ⟨h5, h5'⟩ := rdB_inv h1
    have h6 := rdB_len h1
    obtain ⟨h7, h8, h9⟩ := rdW_some h3
    simp only at h6 h7
    rw [textUp_succ, textUp_append _ _ _ (by omega), wordAt_bytes _ _ h6 _ h8 h9]
    exact ⟨by rw [h5, h7]; simp, okW_append h5' (okW_cons h8 h9 okW_nil)⟩
theorem rdT_inv {n : Nat} {l l' : List Int} {s : List UInt8} (h : rdT n l = some (s, l')) : l = textW s ++ l' ∧ okW (textW s) := by
  have hl : s.length = n := rdT_len h
  unfold rdT at h
  obtain ⟨⟨b, l0⟩, h1, h2⟩ := Option.bind_eq_some_iff.1 h
  split at h2
  · rename_i hz
    simp only [Option.some.injEq, Prod.mk.injEq] at h2
    obtain ⟨rfl, rfl⟩ := h2
    have hb : b.length = 5 * nWords n := rdB_len h1
    have key : textUp b (nWords n) = textW (b.take n) := by
      unfold textW
      rw [hl]
      unfold textUp
      refine List.map_congr_left fun j hj => ?_
      have hj' := List.mem_range.1 hj
      have key : ∀ i, i ≤ 5 → wordTo b j i = wordTo (b.take n) j i := by
        intro i hi
        induction i with
        | zero => rfl
        | succ i ih =>
          unfold wordTo
          rw [ih (by omega)]
          congr 2
          by_cases hin : 5 * j + i < n
          · rw [List.getD_eq_getElem?_getD, List.getD_eq_getElem?_getD, List.getElem?_take_of_lt hin]
          · have hlt : 5 * j + i < b.length := by omega
            have hm : b[5 * j + i] ∈ b.drop n := by
              rw [List.mem_iff_getElem]
              exact ⟨5 * j + i - n, by rw [List.length_drop]; omega, by rw [List.getElem_drop]; congr 1; omega⟩
            have := List.all_eq_true.1 hz _ hm
            rw [List.getD_eq_getElem?_getD, List.getD_eq_getElem?_getD, List.getElem?_eq_getElem hlt, List.getElem?_eq_none (by rw [List.length_take]; omega)]
            have h0 : (b[5 * j + i]).toNat = 0 := by simpa using this
            exact UInt8.toNat_inj.1 h0
      unfold wordAt; rw [key 5 (Nat.le_refl _)]
    rw [← key]
    exact rdB_inv h1
  · cases h2
theorem rdV_inv {kind : Int} {l l' : List Int} {v : Val} (h : rdV kind l = some (v, l')) : l = valW v ++ l' ∧ okW (valW v) := by
  unfold rdV at h
  split at h
  · obtain ⟨⟨m, l1⟩, h1, h2⟩ := Option.map_eq_some_iff.1 h
    simp only [Prod.mk.injEq] at h2
    obtain ⟨rfl, rfl⟩ := h2
    obtain ⟨h3, h4, h5⟩ := rdW_some h1
    have hv : valW ⟨1, m - 549755813888, []⟩ = [m] := by unfold valW; rw [if_pos rfl]; simp
    rw [hv]
    exact ⟨h3, okW_cons h4 h5 okW_nil⟩
  · split at h
    · obtain ⟨⟨m, l1⟩, h1, h2⟩ := Option.map_eq_some_iff.1 h
      simp only [Prod.mk.injEq] at h2
      obtain ⟨rfl, rfl⟩ := h2
      obtain ⟨h3, h4, h5⟩ := rdW_some h1
      have hv : valW ⟨3, m, []⟩ = [m] := by unfold valW; rw [if_neg (show ¬ (3 : Int) = 1 by decide), if_pos rfl]
      rw [hv]
      exact ⟨h3, okW_cons h4 (by unfold lim40; omega) okW_nil⟩
    · rename_i k1 k3
      obtain ⟨⟨m, l1⟩, h1, h2⟩ := Option.bind_eq_some_iff.1 h
      obtain ⟨⟨s, l2⟩, h3, h4⟩ := Option.map_eq_some_iff.1 h2
      simp only [Prod.mk.injEq] at h4
      obtain ⟨rfl, rfl⟩ := h4
      obtain ⟨h5, h6, h7⟩ := rdW_some h1
      have hl : s.length = m.toNat := rdT_len h3
      obtain ⟨h8, h9⟩ := rdT_inv h3
      simp only at h8
      have hv : valW ⟨kind, 0, s⟩ = [m] ++ textW s := by unfold valW; rw [if_neg k1, if_neg k3, show ((⟨kind, 0, s⟩ : Val).s.length : Int) = m from by show (s.length : Int) = m; omega]
      rw [hv]
      exact ⟨by rw [h5, h8]; simp, okW_append (okW_cons h6 (by unfold lim40; omega) okW_nil) h9⟩
theorem rdC_inv {l l' : List Int} {c : Col} (h : rdC l = some (c, l')) : l = colW c ++ l' ∧ okW (colW c) := by
  unfold rdC at h
  obtain ⟨⟨m, l1⟩, h1, h2⟩ := Option.bind_eq_some_iff.1 h
  obtain ⟨⟨s, l2⟩, h3, h4⟩ := Option.map_eq_some_iff.1 h2
  simp only [Prod.mk.injEq] at h4
  obtain ⟨rfl, rfl⟩ := h4
  obtain ⟨h5, h6, h7⟩ := rdW_some h1
  have hl : s.length = (m / 8).toNat := rdT_len h3
  obtain ⟨h8, h9⟩ := rdT_inv h3
  simp only at h8
  have hv : colW ⟨s, m % 4, decide (m / 4 % 2 = 1)⟩ = [m] ++ textW s := by
    unfold colW colH b2i
    simp only
    congr 2
    by_cases hd : m / 4 % 2 = 1
    · rw [decide_eq_true hd, if_pos rfl]; omega
    · rw [decide_eq_false hd, if_neg (by simp)]; omega
  rw [hv]
  exact ⟨by rw [h5, h8]; simp, okW_append (okW_cons h6 (by unfold lim40; omega) okW_nil) h9⟩
theorem packI_digits : ∀ (n : Nat) (c : Int), 0 ≤ c → c / ((16 ^ n : Nat) : Int) = 0 → packI (digits c n) = c
  | 0, c, h0, h => by simpa [digits, packI] using h.symm
  | n + 1, c, h0, h => by
    have hd : digits c (n + 1) = (c % 16) :: digits (c / 16) n := by
      unfold digits
      rw [List.range_succ_eq_map, List.map_cons, List.map_map]
      congr 1
      · simp
      · refine List.map_congr_left fun i _ => ?_
        show c / ((16 ^ (i + 1) : Nat) : Int) % 16 = c / 16 / ((16 ^ i : Nat) : Int) % 16
        rw [Nat.pow_succ, Nat.mul_comm, Int.natCast_mul, ← Int.ediv_ediv_of_nonneg (by decide)]; rfl
    rw [hd]
    unfold packI
    rw [packI_digits n (c / 16) (by omega) (by
      rw [Nat.pow_succ, Nat.mul_comm, Int.natCast_mul, ← Int.ediv_ediv_of_nonneg (by decide)] at h; exact h)]
    omega
theorem rdI_inv {l l' : List Int} {x : Ix} (h : rdI l = some (x, l')) : l = ixW x ++ l' ∧ okW (ixW x) := by
  unfold rdI at h
  obtain ⟨⟨m, l1⟩, h1, h2⟩ := Option.bind_eq_some_iff.1 h
  obtain ⟨⟨c, l2⟩, h3, h4⟩ := Option.bind_eq_some_iff.1 h2
  obtain ⟨⟨s, l3⟩, h5, h6⟩ := Option.bind_eq_some_iff.1 h4
  split at h6
  · rename_i hz
    simp only [Option.some.injEq, Prod.mk.injEq] at h6
    obtain ⟨rfl, rfl⟩ := h6
    obtain ⟨g1, g2, g3⟩ := rdW_some h1
    obtain ⟨g4, g5, g6⟩ := rdW_some h3
    have hl : s.length = (m / 32).toNat := rdT_len h5
    obtain ⟨h8, h9⟩ := rdT_inv h5
    simp only at hz g4 h8
    have hv : ixW ⟨s, digits c (m / 2 % 16).toNat, decide (m % 2 = 1)⟩ = [m, c] ++ textW s := by
      unfold ixW ixH b2i
      simp only
      rw [packI_digits _ _ g5 hz, digits_len]
      congr 3
      by_cases hd : m % 2 = 1
      · rw [decide_eq_true hd, if_pos rfl]; omega
      · rw [decide_eq_false hd, if_neg (by simp)]; omega
    rw [hv]
    exact ⟨by rw [g1, g4, h8]; simp, okW_append (okW_cons g2 (by unfold lim40; omega) (okW_cons g5 g6 okW_nil)) h9⟩
  · cases h6
theorem rdK_inv {cols : List Col} {l l' : List Int} {x : Chk} (h : rdK cols l = some (x, l')) : l = chkW x ++ l' ∧ okW (chkW x) := by
  unfold rdK at h
  obtain ⟨⟨m, l1⟩, h1, h2⟩ := Option.bind_eq_some_iff.1 h
  split at h2
  · cases h2
  obtain ⟨⟨v, l2⟩, h3, h4⟩ := Option.map_eq_some_iff.1 h2
  simp only [Prod.mk.injEq] at h4
  obtain ⟨rfl, rfl⟩ := h4
  obtain ⟨h5, h6, h7⟩ := rdW_some h1
  obtain ⟨h8, h9⟩ := rdV_inv h3
  simp only at h8
  have hv : chkW ⟨m % 16, m / 16, v⟩ = [m] ++ valW v := by
    unfold chkW chkH
    simp only
    congr 2
    omega
  rw [hv]
  exact ⟨by rw [h5, h8]; simp, okW_append (okW_cons h6 (by unfold lim40; omega) okW_nil) h9⟩
theorem flatW_snoc {α : Type} (g : α → List Int) (xs : List α) (x : α) : flatW g (xs ++ [x]) = flatW g xs ++ g x := by simp [flatW]
theorem rdMany_inv {α : Type} {f : List Int → Option (α × List Int)} {g : α → List Int} (hf : ∀ l x l', f l = some (x, l') → l = g x ++ l' ∧ okW (g x)) : ∀ {k : Nat} {l l' : List Int} {xs : List α}, rdMany f l k = some (xs, l') → l = flatW g xs ++ l' ∧ okW (flatW g xs)
  | 0, l, l', xs, h => by
    simp only [rdMany, Option.some.injEq, Prod.mk.injEq] at h
    obtain ⟨rfl, rfl⟩ := h
    exact ⟨rfl, by simp [flatW, okW]⟩
  | k + 1, l, l', xs, h => by
    unfold rdMany at h
    obtain ⟨⟨ys, l0⟩, h1, h2⟩ := Option.bind_eq_some_iff.1 h
    obtain ⟨⟨x, l1⟩, h3, h4⟩ := Option.map_eq_some_iff.1 h2
    simp only [Prod.mk.injEq] at h4
    obtain ⟨rfl, rfl⟩ := h4
    obtain ⟨h5, h6⟩ := rdMany_inv hf h1
    obtain ⟨h7, h8⟩ := hf _ _ _ h3
    simp only at h7
    rw [flatW_snoc]
    exact ⟨by rw [h5, h7]; simp, okW_append h6 h8⟩
/-- What is parsed is valid, and its words were read. -/
theorem parseT_inv {l : List Int} {T : Tab} (h : parseT l = some T) : checkT T = 0 ∧ wordsT T = l ∧ okW l := by
  unfold parseT at h
  obtain ⟨⟨hd, l1⟩, h1, h2⟩ := Option.bind_eq_some_iff.1 h
  obtain ⟨⟨nm, l2⟩, h3, h4⟩ := Option.bind_eq_some_iff.1 h2
  obtain ⟨⟨cs, l3⟩, h5, h6⟩ := Option.bind_eq_some_iff.1 h4
  obtain ⟨⟨xs, l4⟩, h7, h8⟩ := Option.bind_eq_some_iff.1 h6
  obtain ⟨⟨ks, l5⟩, h9, h10⟩ := Option.bind_eq_some_iff.1 h8
  split at h10
  · rename_i hc
    obtain ⟨he, hc⟩ := hc
    simp only at he
    subst he
    simp only [Option.some.injEq] at h10
    subst h10
    obtain ⟨g1, g2, g3⟩ := rdW_some h1
    have n1 : nm.length = (hd / 4096).toNat := rdT_len h3
    have n2 : cs.length = (hd % 16).toNat := rdMany_len h5
    have n3 : xs.length = (hd / 16 % 16).toNat := rdMany_len h7
    have n4 : ks.length = (hd / 256 % 16).toNat := rdMany_len h9
    obtain ⟨a1, b1⟩ := rdT_inv h3
    obtain ⟨a2, b2⟩ := rdMany_inv (g := colW) (fun _ _ _ => rdC_inv) h5
    obtain ⟨a3, b3⟩ := rdMany_inv (g := ixW) (fun _ _ _ => rdI_inv) h7
    obtain ⟨a4, b4⟩ := rdMany_inv (g := chkW) (fun _ _ _ => rdK_inv) h9
    simp only at a1 a2 a3 a4
    have hw : headW ⟨nm, cs, xs, ks⟩ = hd := by unfold headW; simp only; omega
    have hl : wordsT ⟨nm, cs, xs, ks⟩ = l := by
      unfold wordsT
      rw [hw, g1, a1, a2, a3, a4]; simp
    refine ⟨hc, hl, ?_⟩
    rw [← hl]
    unfold wordsT
    rw [hw]
    exact okW_append (okW_append (okW_append (okW_append (okW_cons g2 (by unfold lim40; omega) okW_nil) b1) b2) b3) b4
  · cases h10
end Go.Proofs.Ytpgdfhncigmmbaa
