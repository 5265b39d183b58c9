/-
  The reference's reader: what it reads; the walk of Reader.word. No condition.
-/
import Derived.Test.YtgimkipekoabbaaWPar
namespace Go.Proofs.Ytgimkipekoabbaa
open Go.RowKit

/-- The next word; a missing or a negative one is 0. -/
def gW : List Int → Int × List Int
  | [] => (0, [])
  | n :: l => (if 0 ≤ n then n else 0, l)
theorem gW_ge (l : List Int) : 0 ≤ (gW l).1 := by
  cases l with
  | nil => exact Int.le_refl _
  | cons n l => unfold gW; by_cases h : 0 ≤ n <;> simp [h]
theorem gW_lt {l : List Int} (h : ∀ x ∈ l, x < 9223372036854775808) : (gW l).1 < 9223372036854775808 := by
  cases l with
  | nil => decide
  | cons n l =>
    have := h n (List.mem_cons_self ..)
    unfold gW; by_cases h0 : 0 ≤ n <;> simp [h0]; exact this
/-- The reference's reader in block g, at a place of at most P. -/
structure RG (B : Nat) (w : World) (g P : Nat) (l : List Int) (a : Option Addr) (n c : Nat) (L : List Int) (p : Nat) : Prop where
  blk : Blk w g 119 [.slice a n c, .int .i64 p]
  rd : Rd w a n c 1 (intVals L)
  lt : ∀ ad, a = some ad → 0 < n → ad.block < B
  pP : p ≤ P
  eq : l = L.drop p
  wf : ∀ x ∈ L, x < 9223372036854775808
def RGP (B : Nat) (w : World) (g P : Nat) (l : List Int) : Prop := ∃ a n c L p, RG B w g P l a n c L p
theorem RGP.keep {B P : Nat} {w w' : World} {g : Nat} {l : List Int} (h : RGP B w g P l) (hg : w'.heap[g]? = w.heap[g]?) (he : ∀ k, k < B → w'.heap[k]? = w.heap[k]?) : RGP B w' g P l := by
  obtain ⟨a, n, c, L, p, hb, hr, hl, hp, hq, hw⟩ := h
  refine ⟨a, n, c, L, p, hb.eq hg, ?_, hl, hp, hq, hw⟩
  by_cases h0 : 0 < n
  · exact hr.eq (fun ad ha => he _ (hl ad ha h0))
  · cases L with
    | nil => exact ⟨hr.hlen, hr.hcap, hr.hmax, hr.hnil, fun ad _ j u hu => by simp [intVals] at hu⟩
    | cons x l => have := hr.hlen; simp [intVals] at this; omega
theorem RGP.mono {B P Q : Nat} {w : World} {g : Nat} {l : List Int} (h : RGP B w g P l) (hPQ : P ≤ Q) : RGP B w g Q l := by
  obtain ⟨a, n, c, L, p, hb, hr, hl, hp, hq, hw⟩ := h
  exact ⟨a, n, c, L, p, hb, hr, hl, by omega, hq, hw⟩
theorem RGP.lt {B P : Nat} {w : World} {g : Nat} {l : List Int} (h : RGP B w g P l) : g < w.heap.size := by
  obtain ⟨a, n, c, L, p, hb, _⟩ := h; exact hb.lt

set_option maxRecDepth 20000 in
set_option maxHeartbeats 2000000 in
theorem gword_any {B g P : Nat} {l : List Int} {w : World} (hr : RGP B w g P l) (hP : P ≤ 1000000) (hgB : B ≤ g) : Calls Try.prog 92 #[.pointer (some ⟨g, 0, none⟩)] w (fun e w' => e = .returned (.int .i64 (gW l).1) ∧ RGP B w' g (P + 1) (gW l).2 ∧ But [g] w w' ∧ (gW l).1 < 9223372036854775808) := by
  obtain ⟨a, n, c, L, p, hb, hrd, hlt, hp, rfl, hwf⟩ := hr
  have hn := hrd.ilen
  have hmx := hrd.lenMax
  have c0 := hb.cellOf (i := 0) rfl
  have c1 := hb.cellOf (i := 1) rfl
  have f1 := hb.free 1
  have hrd2 : Rd (w.setCell ⟨g, 1, none⟩ (.int .i64 (p + 1 : Nat))) a n c 1 (intVals L) := by
    by_cases h0 : 0 < n
    · exact hrd.eq (fun ad ha => Below.heap_setCell _ _ _ _ (by have := hlt ad ha h0; show ad.block ≠ g; omega))
    · cases L with
      | nil => exact ⟨hrd.hlen, hrd.hcap, hrd.hmax, hrd.hnil, fun ad _ j u hu => by simp [intVals] at hu⟩
      | cons x l => have := hrd.hlen; simp [intVals] at this; omega
  have hsp : ((p + 1 : Nat) : Int) = (p : Int) + 1 := by omega
  have HEND := Box.mk (show ∀ v l', v = (gW (L.drop p)).1 → l' = (gW (L.drop p)).2 → L.drop (p + 1) = l' → (Ending.returned (.int .i64 v) = .returned (.int .i64 (gW (L.drop p)).1) ∧ RGP B (w.setCell ⟨g, 1, none⟩ (.int .i64 ((p : Int) + 1))) g (P + 1) (gW (L.drop p)).2 ∧ But [g] w (w.setCell ⟨g, 1, none⟩ (.int .i64 ((p : Int) + 1))) ∧ (gW (L.drop p)).1 < 9223372036854775808) from fun v l' h1 h2 h3 => by
    rw [← hsp]
    exact ⟨by rw [h1], ⟨a, n, c, L, p + 1, hb.set 1 _, hrd2, hlt, by omega, by rw [← h2, h3], hwf⟩, (But.refl _ _).setCell (.inl (by simp)) _, gW_lt (fun x hx => hwf x (List.mem_of_mem_drop hx))⟩)
  have HR2 := Box.mk hrd2
  rw [hsp] at HR2
  have hset0 : (w.setCell ⟨g, 1, none⟩ (.int .i64 ((p : Int) + 1))).cell? ⟨g, 0, none⟩ = some (.slice a n c) := (hb.set 1 (.int .i64 ((p : Int) + 1))).cellOf (i := 0) rfl
  clear hsp hrd2
  by_cases hpn : p < n
  · have hpn' : (p : Int) < (n : Int) := by omega
    obtain ⟨gb, off, rfl, hc⟩ := HR2.out.intAtD p hpn
    have hd : L.drop p = L.getD p 0 :: L.drop (p + 1) := by
      rw [List.drop_eq_getElem_cons (show p < L.length by omega)]
      congr 1
      rw [List.getD_eq_getElem?_getD, List.getElem?_eq_getElem (show p < L.length by omega)]; rfl
    have HD := Box.mk hd
    by_cases h0 : 0 ≤ L.getD p 0
    · have hv : L.getD p 0 = (gW (L.drop p)).1 := by rw [hd]; exact (if_pos h0).symm
      have hl2 : L.drop (p + 1) = (gW (L.drop p)).2 := by rw [hd]; rfl
      have HE := Box.mk (HEND.out _ _ hv hl2 rfl)
      generalize L.getD p 0 = m at *
      clear hb hrd hlt hd hn hv hl2 HEND HD hwf
      go_enter Try.func92, Try.ntmps92
      go_wp2_with fail
      go_ret
      exact HE.out
    · have hv : 0 = (gW (L.drop p)).1 := by rw [hd]; exact (if_neg h0).symm
      have hl2 : L.drop (p + 1) = (gW (L.drop p)).2 := by rw [hd]; rfl
      have HE := Box.mk (HEND.out _ _ hv hl2 rfl)
      generalize L.getD p 0 = m at *
      clear hb hrd hlt hd hn hv hl2 HEND HD hwf
      go_enter Try.func92, Try.ntmps92
      go_wp2_with fail
      go_ret
      exact HE.out
  · have hd : L.drop p = [] := List.drop_eq_nil_of_le (by omega)
    have hpn' : ¬ (p : Int) < (n : Int) := by omega
    have hv : 0 = (gW (L.drop p)).1 := by rw [hd]; rfl
    have hl2 : L.drop (p + 1) = (gW (L.drop p)).2 := by rw [hd, List.drop_eq_nil_of_le (by omega)]; rfl
    have HE := Box.mk (HEND.out _ _ hv hl2 rfl)
    clear hb hrd hlt hd hn hv hl2 HEND hwf
    go_enter Try.func92, Try.ntmps92
    go_wp2_with fail
    go_ret
    exact HE.out
end Go.Proofs.Ytgimkipekoabbaa
