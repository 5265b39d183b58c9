/-
  The walks of fail and reader.word. No condition.
-/
import Derived.Test.YtgimkipekoabbaaTFar
import Derived.Test.YtgimkipekoabbaaPrs
import Derived.WalkLawsBesides
namespace Go.Proofs.Ytgimkipekoabbaa
open Go.RowKit

/-- What a malformed list panics with. -/
def malV : Value := .iface 97 (.agg #[])
theorem fail_any (w : World) : Calls Try.prog 75 #[] w fun e w' => e = .panicked [{ v := malV, recovered := false }] ∧ w' = w := by
  go_enter Try.func75, Try.ntmps75
  go_wp2_with fail
  exact ⟨rfl, rfl, rfl⟩

/-- A reader in block g that has the words l before it, which lie below block B. -/
structure Rdr (B : Nat) (w : World) (g : Nat) (a : Option Addr) (n c : Nat) (l : List Int) : Prop where
  blk : Blk w g 100 [.slice a n c]
  rd : Rd w a n c 1 (intVals l)
  lt : ∀ ad, a = some ad → 0 < n → ad.block < B
def RdrP (B : Nat) (w : World) (g : Nat) (l : List Int) : Prop := ∃ a n c, Rdr B w g a n c l
theorem RdrP.keep {B : Nat} {w w' : World} {g : Nat} {l : List Int} (h : RdrP B w g l) (hg : w'.heap[g]? = w.heap[g]?) (he : ∀ k, k < B → w'.heap[k]? = w.heap[k]?) : RdrP B w' g l := by
  obtain ⟨a, n, c, hb, hr, hl⟩ := h
  refine ⟨a, n, c, hb.eq hg, ?_, hl⟩
  by_cases h0 : 0 < n
  · exact hr.eq (fun ad ha => he _ (hl ad ha h0))
  · cases l with
    | nil => exact ⟨hr.hlen, hr.hcap, hr.hmax, hr.hnil, fun ad _ j u hu => by simp [intVals] at hu⟩
    | cons x l => have := hr.hlen; simp [intVals] at this; omega
/-- The words do not lie in the reader's block. -/
theorem Rd.cell1 {w : World} {a : Option Addr} {n c : Nat} {l : List Int} (h : Rd w a n c 1 (intVals l)) {g : Nat} {ty : TypeId} {a1 : Option Addr} {n1 c1 : Nat} (hb : Blk w g ty [.slice a1 n1 c1]) (v : Value) : Rd (w.setCell ⟨g, 0, none⟩ v) a n c 1 (intVals l) := by
  cases l with
  | nil => exact ⟨h.hlen, h.hcap, h.hmax, h.hnil, fun ad _ j u hu => by simp [intVals] at hu⟩
  | cons x l =>
    refine h.eq (fun ad ha => Below.heap_setCell _ _ _ _ fun e => ?_)
    have hc := h.hcell ad ha 0 (.int .i64 x) rfl
    have hs := spot_none hc
    obtain ⟨b, off, sp⟩ := ad
    have e' : b = g := e
    subst e'
    have hsp : sp = none := by simpa [Addr.add] using hs
    subst hsp
    rw [show (⟨b, off, none⟩ : Addr).add 0 = ⟨b, off, none⟩ from rfl, cell_of_row w b off _ _ (0, 0) hb] at hc
    match off with
    | 0 => simp at hc
    | n + 1 => simp at hc
/-- What a reading returns. -/
def RdOk (B : Nat) (v : Value) (g : Nat) (l : List Int) (w : World) (e : Ending) (w' : World) : Prop := e = .returned v ∧ RdrP B w' g l ∧ But [g] w w'
def RdNo (g : Nat) (w : World) (e : Ending) (w' : World) : Prop := e = .panicked [{ v := malV, recovered := false }] ∧ But [g] w w'

set_option maxRecDepth 20000 in
set_option maxHeartbeats 2000000 in
theorem word_no {B g : Nat} {l : List Int} {lim : Int} {w : World} (hr : RdrP B w g l) (h : rdW lim l = none) : Calls Try.prog 73 #[.pointer (some ⟨g, 0, none⟩), .int .i64 lim] w (RdNo g w) := by
  obtain ⟨a, n, c, hb, hrd, hlb⟩ := hr
  have hn := hrd.ilen
  have c0 := hb.cellOf (i := 0) rfl
  rcases rdW_none h with rfl | ⟨m, l', rfl, hm⟩
  · obtain rfl : n = 0 := by simpa using hn.symm
    clear hn h hrd hb hlb
    go_enter Try.func73, Try.ntmps73
    go_wp2_with fail
    refine (fail_any _).mono ?_
    rintro e w' ⟨rfl, rfl⟩
    go_wp2_with fail
    exact ⟨rfl, rfl, But.refl _ _⟩
  · have hn1 : 0 < n := by simp at hn; omega
    have hmx := hrd.lenMax
    obtain ⟨b, off, rfl, hc⟩ := hrd.intAtD 0 hn1
    simp only [Nat.add_zero, List.getD_cons_zero] at hc
    have hne : ((n : Int) == 0) = false := by simp only [beq_eq_false_iff_ne]; omega
    clear hn h hrd hb hlb
    by_cases hm0 : m < 0
    · go_enter Try.func73, Try.ntmps73
      go_wp2_with fail
      refine (fail_any _).mono ?_
      rintro e w' ⟨rfl, rfl⟩
      go_wp2_with fail
      exact ⟨rfl, rfl, But.refl _ _⟩
    · have hm1 : lim ≤ m := by rcases hm with h | h; exact absurd h hm0; exact h
      have hm2 : 0 ≤ m := by omega
      clear hm hm0
      go_enter Try.func73, Try.ntmps73
      go_wp2_with fail
      refine (fail_any _).mono ?_
      rintro e w' ⟨rfl, rfl⟩
      go_wp2_with fail
      exact ⟨rfl, rfl, But.refl _ _⟩
set_option maxRecDepth 20000 in
set_option maxHeartbeats 2000000 in
theorem word_ok {B g : Nat} {l l' : List Int} {lim m : Int} {w : World} (hr : RdrP B w g l) (h : rdW lim l = some (m, l')) : Calls Try.prog 73 #[.pointer (some ⟨g, 0, none⟩), .int .i64 lim] w (RdOk B (.int .i64 m) g l' w) := by
  obtain ⟨a, n, c, hb, hrd, hlb⟩ := hr
  have hn := hrd.ilen
  obtain ⟨rfl, hm0, hm1⟩ := rdW_some h
  have hn1 : 0 < n := by simp at hn; omega
  have hn2 : 1 ≤ n := hn1
  have hmx := hrd.lenMax
  have hcap := hrd.hcap
  have hcm := hrd.hmax
  unfold maxLen at hcm
  have hsub := hrd.sub 1 n c hn2 (Nat.le_refl _) hcap (Nat.le_refl _)
  obtain ⟨b, off, rfl, hc⟩ := hrd.intAtD 0 hn1
  have HL := Box.mk (show b < B from hlb _ rfl hn1)
  clear hlb
  simp only [Nat.add_zero, List.getD_cons_zero] at hc
  have hne : ((n : Int) == 0) = false := by simp only [beq_eq_false_iff_ne]; omega
  have hxs : (List.drop (1 * 1) (intVals (m :: l'))).take ((n - 1) * 1) = intVals l' := by
    rw [List.take_of_length_le (by rw [List.length_drop, intVals_length]; simp at hn ⊢; omega)]; rfl
  rw [hxs] at hsub
  obtain ⟨A, hA⟩ : ∃ A, (if c = 1 then some (⟨b, off, none⟩ : Addr) else some (⟨b, off + 1, none⟩ : Addr)) = A := ⟨_, rfl⟩
  have hA2 : (if c = 1 then some (⟨b, off, none⟩ : Addr) else (some (⟨b, off, none⟩ : Addr)).map (·.add (1 * 1))) = A := by rw [← hA]; rfl
  rw [hA2] at hsub
  have HLA := Box.mk (show ∀ ad, A = some ad → 0 < n - 1 → ad.block < B from by
    intro ad ha _
    rw [← hA] at ha
    split at ha <;> (obtain rfl := Option.some.inj ha; exact HL.out))
  have HS := Box.mk hsub
  have HB := Box.mk hb
  have c0 := hb.cellOf (i := 0) rfl
  have f0 := hb.free 0
  have q1 : (1 : Int) ≤ (n : Int) := by omega
  clear hn h hrd hb hsub hA2 hxs
  go_enter Try.func73, Try.ntmps73
  go_wp2_with fail
  go_ret
  exact ⟨rfl, ⟨A, n - 1, c - 1, HB.out.set 0 _, HS.out.cell1 HB.out _, HLA.out⟩, (But.refl _ _).setCell (.inl (by simp)) _⟩
end Go.Proofs.Ytgimkipekoabbaa
