/-
  The walk of the reference's Reader.value. No condition.
-/
import Derived.Test.YtgimkipekoabbaaWGt
namespace Go.Proofs.Ytgimkipekoabbaa
open Go.RowKit

def gV (k : Int) (l : List Int) : Val × List Int :=
  if k = 1 then (⟨1, (gW l).1 - 549755813888, []⟩, (gW l).2)
  else if k = 3 then (⟨3, (gW l).1, []⟩, (gW l).2)
  else (⟨k, 0, (gT (gW l).1.toNat (gW l).2).1⟩, (gT (gW l).1.toNat (gW l).2).2)
theorem gtext_I {B g P : Nat} {l : List Int} {n : Int} {w : World} (hr : RGP B w g P l) (hP : P ≤ 100000) (hgB : B ≤ g) (h0 : 0 ≤ n) (hn : n ≤ 9223372036854775807) : Calls Try.prog 93 #[.pointer (some ⟨g, 0, none⟩), .int .i64 n] w (fun e w' => e = .returned (.string ⟨(gT n.toNat l).1.toArray⟩) ∧ RGP B w' g (P + 13) (gT n.toNat l).2 ∧ But [g] w w') := by
  obtain ⟨m, rfl⟩ := Int.eq_ofNat_of_zero_le h0
  exact gtext_any hr hP hgB hn
/-- The cell of Reader.value's result. -/
structure GSt (B g P : Nat) (w wr : World) (l : List Int) : Prop where
  r : RGP B wr g P l
  o : Blk wr w.heap.size 40 [.int .i64 0, .int .i64 0, .string ⟨#[]⟩]
  b : But [g] w wr
theorem GSt.start {B g P : Nat} {w : World} {l : List Int} (hr : RGP B w g P l) (hgB : B ≤ g) : GSt B g P w (w.alloc (.cells #[.int .i64 0, .int .i64 0, .string ⟨#[]⟩] 40)) l := by
  have hlt := hr.lt
  exact ⟨hr.keep (heap_alloc_old _ _ hlt) (fun k hk => heap_alloc_old _ _ (by omega)), Blk.new rfl rfl, (But.refl _ _).alloc _⟩
theorem GSt.call {B g P P' : Nat} {w wr w' : World} {l l' : List Int} (h : GSt B g P w wr l) (hg : g < w.heap.size) (hr : RGP B w' g P' l') (hb : But [g] wr w') : GSt B g P' w w' l' :=
  ⟨hr, h.o.but hb (by simp; omega), h.b.trans hb (fun x hx => .inl hx)⟩
theorem GSt.fin {B g P Q : Nat} {w wr : World} {l l' : List Int} (h : GSt B g P w wr l) (hg : g < w.heap.size) (hgB : B ≤ g) (hP : P ≤ Q) (ds : Array Value) (hl : l = l') : RGP B (wr.setRow w.heap.size ds) g Q l' ∧ But [g] w (wr.setRow w.heap.size ds) := by
  subst hl
  exact ⟨(h.r.keep (setRow_other _ _ _ _ (by omega)) (fun k hk => setRow_other _ _ _ _ (by omega))).mono hP, h.b.setRow (.inr (Nat.le_refl _)) ds⟩

set_option maxRecDepth 20000 in
set_option maxHeartbeats 4000000 in
theorem gvalue_any {B g P : Nat} {l : List Int} {k : Int} {w : World} (hr : RGP B w g P l) (hP : P ≤ 10000) (hgB : B ≤ g) : Calls Try.prog 94 #[.pointer (some ⟨g, 0, none⟩), .int .i64 k] w (fun e w' => e = .returned (gV k l).1.v ∧ RGP B w' g (P + 14) (gV k l).2 ∧ But [g] w w') := by
  have hgs := hr.lt
  have H0 := Box.mk (GSt.start hr hgB)
  clear hr
  by_cases h1 : k = 1
  · subst h1
    have HV := Box.mk (show gV 1 l = _ from if_pos rfl)
    go_enter Try.func94, Try.ntmps94
    go_wp2_with fail
    refine (gword_any H0.out.r (by omega) hgB).mono ?_
    rintro e w2 ⟨rfl, hr2, hb2, hlt2⟩
    have hm0 := gW_ge l
    have H2 := Box.mk (H0.out.call hgs hr2 hb2)
    generalize gW l = q at *
    obtain ⟨m, lm⟩ := q
    clear hr2 hb2
    go_wp2_with (with_reducible refine wpList_store_row rfl _ _ _ rfl rfl (by kernel_rfl) H2.out.o rfl rfl (cs := [.int .i64 1, .int .i64 (m - 549755813888), .string ⟨#[]⟩]) rfl rfl (val_one _ _ _) ?_)
    refine bodyPost_ret (results_cell1 rfl _ rfl (H2.out.o.row [.int .i64 1, .int .i64 (m - 549755813888), .string ⟨#[]⟩]) valTT) rfl ?_
    rw [HV.out]
    exact ⟨rfl, H2.out.fin hgs hgB (by omega) _ rfl⟩
  · by_cases h3 : k = 3
    · subst h3
      have HV := Box.mk (show gV 3 l = _ from (if_neg (by decide)).trans (if_pos rfl))
      clear h1
      go_enter Try.func94, Try.ntmps94
      go_wp2_with fail
      refine (gword_any H0.out.r (by omega) hgB).mono ?_
      rintro e w2 ⟨rfl, hr2, hb2, hlt2⟩
      have hm0 := gW_ge l
      have H2 := Box.mk (H0.out.call hgs hr2 hb2)
      generalize gW l = q at *
      obtain ⟨m, lm⟩ := q
      clear hr2 hb2
      go_wp2_with (with_reducible refine wpList_store_row rfl _ _ _ rfl rfl (by kernel_rfl) H2.out.o rfl rfl (cs := [.int .i64 3, .int .i64 m, .string ⟨#[]⟩]) rfl rfl (val_one _ _ _) ?_)
      refine bodyPost_ret (results_cell1 rfl _ rfl (H2.out.o.row [.int .i64 3, .int .i64 m, .string ⟨#[]⟩]) valTT) rfl ?_
      rw [HV.out]
      exact ⟨rfl, H2.out.fin hgs hgB (by omega) _ rfl⟩
    · have HV := Box.mk (show gV k l = _ from (if_neg h1).trans (if_neg h3))
      have t1 : (k == 1) = false := by simp [h1]
      have t3 : (k == 3) = false := by simp [h3]
      clear h1 h3
      go_enter Try.func94, Try.ntmps94
      go_wp2_with fail
      refine (gword_any H0.out.r (by omega) hgB).mono ?_
      rintro e w2 ⟨rfl, hr2, hb2, hlt2⟩
      have hm0 := gW_ge l
      have H2 := Box.mk (H0.out.call hgs hr2 hb2)
      generalize gW l = q at *
      obtain ⟨m, lm⟩ := q
      clear hr2 hb2
      go_wp2_with fail
      refine (gtext_I (n := m) H2.out.r (by omega) hgB hm0 (by have : m < 9223372036854775808 := hlt2; omega)).mono ?_
      rintro e w3 ⟨rfl, hr3, hb3⟩
      have H3 := Box.mk (H2.out.call hgs hr3 hb3)
      have HV2 := Box.mk (show gV k l = (⟨k, 0, (gT m.toNat lm).1⟩, (gT m.toNat lm).2) from HV.out)
      generalize gT m.toNat lm = q at *
      obtain ⟨s, l3⟩ := q
      clear hr3 hb3 HV
      go_wp2_with (with_reducible refine wpList_store_row rfl _ _ _ rfl rfl (by kernel_rfl) H3.out.o rfl rfl (cs := [.int .i64 k, .int .i64 0, .string ⟨s.toArray⟩]) rfl rfl (val_one _ _ _) ?_)
      refine bodyPost_ret (results_cell1 rfl _ rfl (H3.out.o.row [.int .i64 k, .int .i64 0, .string ⟨s.toArray⟩]) valTT) rfl ?_
      rw [HV2.out]
      exact ⟨rfl, H3.out.fin hgs hgB (by omega) _ rfl⟩
end Go.Proofs.Ytgimkipekoabbaa
