/-
  The walks of reader.word and reader.most. No condition.
-/
import Derived.Test.YtpgdfhncigmmbaaWEnc
import Derived.WalkLawsBesides
namespace Go.Proofs.Ytpgdfhncigmmbaa
open Go.RowKit

/-- What malformed words panic with. -/
def errV : Value := .iface 33 (.int .i64 3)
/-- A reader in block g at place k of the words l, which lie below block B. -/
structure Rdr (B : Nat) (w : World) (g : Nat) (a : Option Addr) (n c : Nat) (l : List Int) (k : Nat) : Prop where
  blk : Blk w g 68 [.slice a n c, .int .i64 k]
  rd : Rd w a n c 1 (intVals l)
  le : k ≤ n
  lt : ∀ ad, a = some ad → 0 < n → ad.block < B
theorem Rd.keepB {w w' : World} {a : Option Addr} {n c : Nat} {l : List Int} (h : Rd w a n c 1 (intVals l)) (he : ∀ ad, a = some ad → 0 < n → w'.heap[ad.block]? = w.heap[ad.block]?) : Rd w' a n c 1 (intVals l) := by
  by_cases h0 : 0 < n
  · exact h.eq (fun ad ha => he ad ha h0)
  · cases l with
    | nil => exact ⟨h.hlen, h.hcap, h.hmax, h.hnil, fun ad _ j u hu => by simp [intVals] at hu⟩
    | cons x l => have := h.hlen; simp [intVals] at this; omega
theorem Rdr.keep {B : Nat} {w w' : World} {g : Nat} {a : Option Addr} {n c : Nat} {l : List Int} {k : Nat} (h : Rdr B w g a n c l k) (hg : w'.heap[g]? = w.heap[g]?) (he : ∀ k, k < B → w'.heap[k]? = w.heap[k]?) : Rdr B w' g a n c l k :=
  ⟨h.blk.eq hg, h.rd.keepB (fun ad ha h0 => he _ (h.lt ad ha h0)), h.le, h.lt⟩
theorem Rdr.move {B : Nat} {w w' : World} {g : Nat} {a : Option Addr} {n c : Nat} {l : List Int} {k : Nat} (h : Rdr B w g a n c l k) (he : ∀ k, k < B → w'.heap[k]? = w.heap[k]?) (j : Nat) (hj : j ≤ n) (hb : Blk w' g 68 [.slice a n c, .int .i64 j]) : Rdr B w' g a n c l j :=
  ⟨hb, h.rd.keepB (fun ad ha h0 => he _ (h.lt ad ha h0)), hj, h.lt⟩
/-- What a reading returns. -/
def RdOk (B : Nat) (v : Value) (g : Nat) (a : Option Addr) (n c : Nat) (l : List Int) (k : Nat) (w : World) (e : Ending) (w' : World) : Prop := e = .returned v ∧ Rdr B w' g a n c l k ∧ But [g] w w'
def RdNo (g : Nat) (w : World) (e : Ending) (w' : World) : Prop := e = .panicked [{ v := errV, recovered := false }] ∧ But [g] w w'
theorem drop_cons_get {l l' : List Int} {k : Nat} {m : Int} (h : l.drop k = m :: l') : k < l.length ∧ l.getD k 0 = m ∧ l' = l.drop (k + 1) := by
  have h1 : k < l.length := by
    have := congrArg List.length h
    simp at this; omega
  rw [List.drop_eq_getElem_cons h1] at h
  simp only [List.cons.injEq] at h
  exact ⟨h1, by rw [List.getD_eq_getElem?_getD, List.getElem?_eq_getElem h1]; exact h.1, h.2.symm⟩

set_option maxRecDepth 20000 in
set_option maxHeartbeats 4000000 in
theorem word_no {B g : Nat} {a : Option Addr} {n c : Nat} {l : List Int} {k : Nat} {w : World} (hr : Rdr B w g a n c l k) (h : rdW lim40 (l.drop k) = none) : Calls Try.prog 40 #[.pointer (some ⟨g, 0, none⟩)] w (RdNo g w) := by
  obtain ⟨hb, hrd, hle, hlb⟩ := hr
  have hn := hrd.ilen
  have hmx := hrd.lenMax
  rcases rdW_none h with h0 | ⟨m, l', h0, hm⟩
  · have hkn : n ≤ k := by
      have := congrArg List.length h0
      simp at this; omega
    obtain rfl : k = n := by omega
    have HS0 : (fun w' => Blk w' g 68 [.slice a k c, .int .i64 k] ∧ But [g] w w') w.drew := ⟨hb.drew, (But.refl _ _).drew⟩
    clear hn h hrd hlb h0 hkn hle
    go_enter Try.func40, Try.ntmps40
    go_wp2_with fail
    refine wp_region_held_drew (S := fun w' => Blk w' g 68 [.slice a k c, .int .i64 k] ∧ But [g] w w') (by kernel_rfl) HS0 (fun _ => ?_)
    refine wpAnyH_take (i := 0) (v := ?_) rfl (by kernel_rfl) (by kernel_rfl) (by kernel_rfl) (fun _ _ _ h => h) (yieldsIf_val (by rfl) (fun w' hS => ?_)) HS0 ?_
    rotate_left
    · skip
      go_simp
      all_goals with_reducible rfl
    conv =>
      arg 8
      simp [go_sem]
    refine wpAnyH_take (i := 1) (v := ?_) rfl (by kernel_rfl) (by kernel_rfl) (by kernel_rfl) (fun _ _ _ h => h) (yieldsIf_val (by rfl) (fun w' hS => ?_)) HS0 ?_
    rotate_left
    · skip
      go_simp
      all_goals with_reducible rfl
    conv =>
      arg 8
      simp [go_sem]
    refine wpAnyH_take (i := 2) (v := ?_) rfl (by kernel_rfl) (by kernel_rfl) (by kernel_rfl) (fun _ _ _ h => h) (yieldsIf_val (by rfl) (fun w' hS => ?_)) HS0 ?_
    rotate_left
    · skip
      go_simp
      all_goals with_reducible rfl
    conv =>
      arg 8
      simp [go_sem]
    refine wpAnyH_take (i := 3) (v := ?_) rfl (by kernel_rfl) (by kernel_rfl) (by kernel_rfl) (fun _ _ _ h => h) (yieldsIf_val (by rfl) (fun w' hS => ?_)) HS0 ?_
    rotate_left
    · skip
      have q := hS.1.cellOf (i := 1) rfl
      go_simp
      all_goals with_reducible rfl
    conv =>
      arg 8
      simp [go_sem]
    refine wpAnyH_take (i := 4) (v := ?_) rfl (by kernel_rfl) (by kernel_rfl) (by kernel_rfl) (fun _ _ _ h => h) (yieldsIf_val (by rfl) (fun w' hS => ?_)) HS0 ?_
    rotate_left
    · skip
      go_simp
      all_goals with_reducible rfl
    conv =>
      arg 8
      simp [go_sem]
    refine wpAnyH_take (i := 5) (v := ?_) rfl (by kernel_rfl) (by kernel_rfl) (by kernel_rfl) (fun _ _ _ h => h) (yieldsIf_val (by rfl) (fun w' hS => ?_)) HS0 ?_
    rotate_left
    · skip
      go_simp
      all_goals with_reducible rfl
    conv =>
      arg 8
      simp [go_sem]
    refine wpAnyH_take (i := 6) (v := ?_) rfl (by kernel_rfl) (by kernel_rfl) (by kernel_rfl) (fun _ _ _ h => h) (yieldsIf_val (by rfl) (fun w' hS => ?_)) HS0 ?_
    rotate_left
    · skip
      go_simp
      all_goals with_reducible rfl
    conv =>
      arg 8
      simp [go_sem]
    refine wpAnyH_take (i := 7) (v := ?_) rfl (by kernel_rfl) (by kernel_rfl) (by kernel_rfl) (fun _ _ _ h => h) (yieldsIf_val (by rfl) (fun w' hS => ?_)) HS0 ?_
    rotate_left
    · skip
      have q := hS.1.cellOf (i := 0) rfl
      go_simp
      all_goals with_reducible rfl
    conv =>
      arg 8
      simp [go_sem]
    refine wpAnyH_take (i := 8) (v := ?_) rfl (by kernel_rfl) (by kernel_rfl) (by kernel_rfl) (fun _ _ _ h => h) (yieldsIf_val (by rfl) (fun w' hS => ?_)) HS0 ?_
    rotate_left
    · skip
      go_simp
      all_goals with_reducible rfl
    conv =>
      arg 8
      simp [go_sem]
    refine wpAnyH_take (i := 9) (v := ?_) rfl (by kernel_rfl) (by kernel_rfl) (by kernel_rfl) (fun _ _ _ h => h) (yieldsIf_val (by rfl) (fun w' hS => ?_)) HS0 ?_
    rotate_left
    · skip
      have q : decide ((k : Int) ≤ (k : Int)) = true := decide_eq_true (Int.le_refl _)
      go_simp
      all_goals with_reducible rfl
    conv =>
      arg 8
      simp [go_sem]
    refine wpAnyH_take (i := 10) (v := ?_) rfl (by kernel_rfl) (by kernel_rfl) (by kernel_rfl) (fun _ _ _ h => h) (yieldsIf_val (by rfl) (fun w' hS => ?_)) HS0 ?_
    rotate_left
    · skip
      go_simp
      all_goals with_reducible rfl
    conv =>
      arg 8
      simp [go_sem]
    refine wpAnyH_take (i := 11) (v := undef) rfl (by kernel_rfl) (by kernel_rfl) (by kernel_rfl) (fun _ _ _ h => h) (Or.inr ⟨by rfl, rfl⟩) HS0 ?_
    conv =>
      arg 8
      simp [go_sem]
    refine wpAnyH_take (i := 12) (v := undef) rfl (by kernel_rfl) (by kernel_rfl) (by kernel_rfl) (fun _ _ _ h => h) (Or.inr ⟨by rfl, rfl⟩) HS0 ?_
    conv =>
      arg 8
      simp [go_sem]
    refine wpAnyH_take (i := 13) (v := undef) rfl (by kernel_rfl) (by kernel_rfl) (by kernel_rfl) (fun _ _ _ h => h) (Or.inr ⟨by rfl, rfl⟩) HS0 ?_
    conv =>
      arg 8
      simp [go_sem]
    refine wpAnyH_take (i := 14) (v := undef) rfl (by kernel_rfl) (by kernel_rfl) (by kernel_rfl) (fun _ _ _ h => h) (Or.inr ⟨by rfl, rfl⟩) HS0 ?_
    conv =>
      arg 8
      simp [go_sem]
    refine wpAnyH_take (i := 15) (v := undef) rfl (by kernel_rfl) (by kernel_rfl) (by kernel_rfl) (fun _ _ _ h => h) (Or.inr ⟨by rfl, rfl⟩) HS0 ?_
    conv =>
      arg 8
      simp [go_sem]
    refine wpAnyH_take (i := 16) (v := undef) rfl (by kernel_rfl) (by kernel_rfl) (by kernel_rfl) (fun _ _ _ h => h) (Or.inr ⟨by rfl, rfl⟩) HS0 ?_
    conv =>
      arg 8
      simp [go_sem]
    refine wpAnyH_take (i := 17) (v := undef) rfl (by kernel_rfl) (by kernel_rfl) (by kernel_rfl) (fun _ _ _ h => h) (Or.inr ⟨by rfl, rfl⟩) HS0 ?_
    conv =>
      arg 8
      simp [go_sem]
    refine wpAnyH_take (i := 18) (v := undef) rfl (by kernel_rfl) (by kernel_rfl) (by kernel_rfl) (fun _ _ _ h => h) (Or.inr ⟨by rfl, rfl⟩) HS0 ?_
    conv =>
      arg 8
      simp [go_sem]
    refine wpAnyH_take (i := 19) (v := undef) rfl (by kernel_rfl) (by kernel_rfl) (by kernel_rfl) (fun _ _ _ h => h) (Or.inr ⟨by rfl, rfl⟩) HS0 ?_
    conv =>
      arg 8
      simp [go_sem]
    refine wpAnyH_take (i := 20) (v := undef) rfl (by kernel_rfl) (by kernel_rfl) (by kernel_rfl) (fun _ _ _ h => h) (Or.inr ⟨by rfl, rfl⟩) HS0 ?_
    conv =>
      arg 8
      simp [go_sem]
    refine wpAnyH_take (i := 21) (v := undef) rfl (by kernel_rfl) (by kernel_rfl) (by kernel_rfl) (fun _ _ _ h => h) (Or.inr ⟨by rfl, rfl⟩) HS0 ?_
    conv =>
      arg 8
      simp [go_sem]
    refine wpAnyH_take (i := 22) (v := ?_) rfl (by kernel_rfl) (by kernel_rfl) (by kernel_rfl) (fun _ _ _ h => h) (yieldsIf_val (by rfl) (fun w' hS => ?_)) HS0 ?_
    rotate_left
    · skip
      go_simp
      all_goals with_reducible rfl
    conv =>
      arg 8
      simp [go_sem]
    refine wpAnyH_take (i := 23) (v := ?_) rfl (by kernel_rfl) (by kernel_rfl) (by kernel_rfl) (fun _ _ _ h => h) (yieldsIf_val (by rfl) (fun w' hS => ?_)) HS0 ?_
    rotate_left
    · skip
      go_simp
      all_goals with_reducible rfl
    conv =>
      arg 8
      simp [go_sem]
    refine wpAnyH_take (i := 24) (v := undef) rfl (by kernel_rfl) (by kernel_rfl) (by kernel_rfl) (fun _ _ _ h => h) (Or.inr ⟨by rfl, rfl⟩) HS0 ?_
    conv =>
      arg 8
      simp [go_sem]
    refine wpAnyH_take (i := 25) (v := undef) rfl (by kernel_rfl) (by kernel_rfl) (by kernel_rfl) (fun _ _ _ h => h) (Or.inr ⟨by rfl, rfl⟩) HS0 ?_
    conv =>
      arg 8
      simp [go_sem]
    refine wpAnyH_take (i := 26) (v := undef) rfl (by kernel_rfl) (by kernel_rfl) (by kernel_rfl) (fun _ _ _ h => h) (Or.inr ⟨by rfl, rfl⟩) HS0 ?_
    conv =>
      arg 8
      simp [go_sem]
    refine wpAnyH_take (i := 27) (v := undef) rfl (by kernel_rfl) (by kernel_rfl) (by kernel_rfl) (fun _ _ _ h => h) (Or.inr ⟨by rfl, rfl⟩) HS0 ?_
    conv =>
      arg 8
      simp [go_sem]
    refine wpAnyH_take (i := 28) (v := undef) rfl (by kernel_rfl) (by kernel_rfl) (by kernel_rfl) (fun _ _ _ h => h) (Or.inr ⟨by rfl, rfl⟩) HS0 ?_
    conv =>
      arg 8
      simp [go_sem]
    refine wpAnyH_take (i := 29) (v := undef) rfl (by kernel_rfl) (by kernel_rfl) (by kernel_rfl) (fun _ _ _ h => h) (Or.inr ⟨by rfl, rfl⟩) HS0 ?_
    conv =>
      arg 8
      simp [go_sem]
    refine wpAnyH_take (i := 30) (v := undef) rfl (by kernel_rfl) (by kernel_rfl) (by kernel_rfl) (fun _ _ _ h => h) (Or.inr ⟨by rfl, rfl⟩) HS0 ?_
    conv =>
      arg 8
      simp [go_sem]
    refine wpAnyH_take (i := 31) (v := undef) rfl (by kernel_rfl) (by kernel_rfl) (by kernel_rfl) (fun _ _ _ h => h) (Or.inr ⟨by rfl, rfl⟩) HS0 ?_
    conv =>
      arg 8
      simp [go_sem]
    refine wpAnyH_take (i := 32) (v := undef) rfl (by kernel_rfl) (by kernel_rfl) (by kernel_rfl) (fun _ _ _ h => h) (Or.inr ⟨by rfl, rfl⟩) HS0 ?_
    conv =>
      arg 8
      simp [go_sem]
    refine wpAnyH_take (i := 33) (v := undef) rfl (by kernel_rfl) (by kernel_rfl) (by kernel_rfl) (fun _ _ _ h => h) (Or.inr ⟨by rfl, rfl⟩) HS0 ?_
    conv =>
      arg 8
      simp [go_sem]
    refine wpAnyH_take (i := 34) (v := undef) rfl (by kernel_rfl) (by kernel_rfl) (by kernel_rfl) (fun _ _ _ h => h) (Or.inr ⟨by rfl, rfl⟩) HS0 ?_
    conv =>
      arg 8
      simp [go_sem]
    refine wpAnyH_take (i := 35) (v := ?_) rfl (by kernel_rfl) (by kernel_rfl) (by kernel_rfl) (fun _ _ _ h => h) (yieldsIf_val (by rfl) (fun w' hS => ?_)) HS0 ?_
    rotate_left
    · skip
      go_simp
      all_goals with_reducible rfl
    conv =>
      arg 8
      simp [go_sem]
    refine ⟨by kernel_rfl, ?_⟩
    conv =>
      arg 5
      simp [go_sem]
    go_wp2_with fail
    exact ⟨rfl, rfl, HS0.2⟩
  · obtain ⟨hk, hm2, _⟩ := drop_cons_get h0
    have hkn : k < n := by omega
    obtain ⟨b, off, rfl, hc⟩ := hrd.intAtD k hkn
    rw [hm2] at hc
    have hcap := hrd.hcap
    clear hn h hrd hlb h0 hm2 hk hle
    have HS0 : (fun w' => Blk w' g 68 [.slice (some ⟨b, off, none⟩) n c, .int .i64 k] ∧ w'.cell? ⟨b, off + k, none⟩ = some (.int .i64 m) ∧ But [g] w w') w.drew := ⟨hb.drew, hc, (But.refl _ _).drew⟩
    by_cases hm0 : m < 0
    · go_enter Try.func40, Try.ntmps40
      go_wp2_with fail
      refine wp_region_held_drew (S := fun w' => Blk w' g 68 [.slice (some ⟨b, off, none⟩) n c, .int .i64 k] ∧ w'.cell? ⟨b, off + k, none⟩ = some (.int .i64 m) ∧ But [g] w w') (by kernel_rfl) HS0 (fun _ => ?_)
      refine wpAnyH_take (i := 0) (v := ?_) rfl (by kernel_rfl) (by kernel_rfl) (by kernel_rfl) (fun _ _ _ h => h) (yieldsIf_val (by rfl) (fun w' hS => ?_)) HS0 ?_
      rotate_left
      · skip
        go_simp
        all_goals with_reducible rfl
      conv =>
        arg 8
        simp [go_sem]
      refine wpAnyH_take (i := 1) (v := ?_) rfl (by kernel_rfl) (by kernel_rfl) (by kernel_rfl) (fun _ _ _ h => h) (yieldsIf_val (by rfl) (fun w' hS => ?_)) HS0 ?_
      rotate_left
      · skip
        go_simp
        all_goals with_reducible rfl
      conv =>
        arg 8
        simp [go_sem]
      refine wpAnyH_take (i := 2) (v := ?_) rfl (by kernel_rfl) (by kernel_rfl) (by kernel_rfl) (fun _ _ _ h => h) (yieldsIf_val (by rfl) (fun w' hS => ?_)) HS0 ?_
      rotate_left
      · skip
        go_simp
        all_goals with_reducible rfl
      conv =>
        arg 8
        simp [go_sem]
      refine wpAnyH_take (i := 3) (v := ?_) rfl (by kernel_rfl) (by kernel_rfl) (by kernel_rfl) (fun _ _ _ h => h) (yieldsIf_val (by rfl) (fun w' hS => ?_)) HS0 ?_
      rotate_left
      · skip
        have q := hS.1.cellOf (i := 1) rfl
        go_simp
        all_goals with_reducible rfl
      conv =>
        arg 8
        simp [go_sem]
      refine wpAnyH_take (i := 4) (v := ?_) rfl (by kernel_rfl) (by kernel_rfl) (by kernel_rfl) (fun _ _ _ h => h) (yieldsIf_val (by rfl) (fun w' hS => ?_)) HS0 ?_
      rotate_left
      · skip
        go_simp
        all_goals with_reducible rfl
      conv =>
        arg 8
        simp [go_sem]
      refine wpAnyH_take (i := 5) (v := ?_) rfl (by kernel_rfl) (by kernel_rfl) (by kernel_rfl) (fun _ _ _ h => h) (yieldsIf_val (by rfl) (fun w' hS => ?_)) HS0 ?_
      rotate_left
      · skip
        go_simp
        all_goals with_reducible rfl
      conv =>
        arg 8
        simp [go_sem]
      refine wpAnyH_take (i := 6) (v := ?_) rfl (by kernel_rfl) (by kernel_rfl) (by kernel_rfl) (fun _ _ _ h => h) (yieldsIf_val (by rfl) (fun w' hS => ?_)) HS0 ?_
      rotate_left
      · skip
        go_simp
        all_goals with_reducible rfl
      conv =>
        arg 8
        simp [go_sem]
      refine wpAnyH_take (i := 7) (v := ?_) rfl (by kernel_rfl) (by kernel_rfl) (by kernel_rfl) (fun _ _ _ h => h) (yieldsIf_val (by rfl) (fun w' hS => ?_)) HS0 ?_
      rotate_left
      · skip
        have q := hS.1.cellOf (i := 0) rfl
        go_simp
        all_goals with_reducible rfl
      conv =>
        arg 8
        simp [go_sem]
      refine wpAnyH_take (i := 8) (v := ?_) rfl (by kernel_rfl) (by kernel_rfl) (by kernel_rfl) (fun _ _ _ h => h) (yieldsIf_val (by rfl) (fun w' hS => ?_)) HS0 ?_
      rotate_left
      · skip
        go_simp
        all_goals with_reducible rfl
      conv =>
        arg 8
        simp [go_sem]
      refine wpAnyH_take (i := 9) (v := ?_) rfl (by kernel_rfl) (by kernel_rfl) (by kernel_rfl) (fun _ _ _ h => h) (yieldsIf_val (by rfl) (fun w' hS => ?_)) HS0 ?_
      rotate_left
      · skip
        have q : decide (n ≤ k) = false := decide_eq_false (by omega)
        go_simp
        all_goals with_reducible rfl
      conv =>
        arg 8
        simp [go_sem]
      refine wpAnyH_take (i := 10) (v := ?_) rfl (by kernel_rfl) (by kernel_rfl) (by kernel_rfl) (fun _ _ _ h => h) (yieldsIf_val (by rfl) (fun w' hS => ?_)) HS0 ?_
      rotate_left
      · skip
        go_simp
        all_goals with_reducible rfl
      conv =>
        arg 8
        simp [go_sem]
      refine wpAnyH_take (i := 11) (v := ?_) rfl (by kernel_rfl) (by kernel_rfl) (by kernel_rfl) (fun _ _ _ h => h) (yieldsIf_val (by rfl) (fun w' hS => ?_)) HS0 ?_
      rotate_left
      · skip
        go_simp
        all_goals with_reducible rfl
      conv =>
        arg 8
        simp [go_sem]
      refine wpAnyH_take (i := 12) (v := ?_) rfl (by kernel_rfl) (by kernel_rfl) (by kernel_rfl) (fun _ _ _ h => h) (yieldsIf_val (by rfl) (fun w' hS => ?_)) HS0 ?_
      rotate_left
      · skip
        go_simp
        all_goals with_reducible rfl
      conv =>
        arg 8
        simp [go_sem]
      refine wpAnyH_take (i := 13) (v := ?_) rfl (by kernel_rfl) (by kernel_rfl) (by kernel_rfl) (fun _ _ _ h => h) (yieldsIf_val (by rfl) (fun w' hS => ?_)) HS0 ?_
      rotate_left
      · skip
        go_simp
        all_goals with_reducible rfl
      conv =>
        arg 8
        simp [go_sem]
      refine wpAnyH_take (i := 14) (v := ?_) rfl (by kernel_rfl) (by kernel_rfl) (by kernel_rfl) (fun _ _ _ h => h) (yieldsIf_val (by rfl) (fun w' hS => ?_)) HS0 ?_
      rotate_left
      · skip
        have q := hS.1.cellOf (i := 0) rfl
        go_simp
        all_goals with_reducible rfl
      conv =>
        arg 8
        simp [go_sem]
      refine wpAnyH_take (i := 15) (v := ?_) rfl (by kernel_rfl) (by kernel_rfl) (by kernel_rfl) (fun _ _ _ h => h) (yieldsIf_val (by rfl) (fun w' hS => ?_)) HS0 ?_
      rotate_left
      · skip
        go_simp
        all_goals with_reducible rfl
      conv =>
        arg 8
        simp [go_sem]
      refine wpAnyH_take (i := 16) (v := ?_) rfl (by kernel_rfl) (by kernel_rfl) (by kernel_rfl) (fun _ _ _ h => h) (yieldsIf_val (by rfl) (fun w' hS => ?_)) HS0 ?_
      rotate_left
      · skip
        go_simp
        all_goals with_reducible rfl
      conv =>
        arg 8
        simp [go_sem]
      refine wpAnyH_take (i := 17) (v := ?_) rfl (by kernel_rfl) (by kernel_rfl) (by kernel_rfl) (fun _ _ _ h => h) (yieldsIf_val (by rfl) (fun w' hS => ?_)) HS0 ?_
      rotate_left
      · skip
        go_simp
        all_goals with_reducible rfl
      conv =>
        arg 8
        simp [go_sem]
      refine wpAnyH_take (i := 18) (v := ?_) rfl (by kernel_rfl) (by kernel_rfl) (by kernel_rfl) (fun _ _ _ h => h) (yieldsIf_val (by rfl) (fun w' hS => ?_)) HS0 ?_
      rotate_left
      · skip
        have q := hS.1.cellOf (i := 1) rfl
        go_simp
        all_goals with_reducible rfl
      conv =>
        arg 8
        simp [go_sem]
      refine wpAnyH_take (i := 19) (v := ?_) rfl (by kernel_rfl) (by kernel_rfl) (by kernel_rfl) (fun _ _ _ h => h) (yieldsIf_val (by rfl) (fun w' hS => ?_)) HS0 ?_
      rotate_left
      · skip
        have q0 : (0 : Int) ≤ (k : Int) := by omega
        have q1 : (k : Int) < (n : Int) := by omega
        go_simp
        all_goals with_reducible rfl
      conv =>
        arg 8
        simp [go_sem]
      refine wpAnyH_take (i := 20) (v := ?_) rfl (by kernel_rfl) (by kernel_rfl) (by kernel_rfl) (fun _ _ _ h => h) (yieldsIf_val (by rfl) (fun w' hS => ?_)) HS0 ?_
      rotate_left
      · skip
        have q := hS.2.1
        go_simp
        all_goals with_reducible rfl
      conv =>
        arg 8
        simp [go_sem]
      refine wpAnyH_take (i := 21) (v := ?_) rfl (by kernel_rfl) (by kernel_rfl) (by kernel_rfl) (fun _ _ _ h => h) (yieldsIf_val (by rfl) (fun w' hS => ?_)) HS0 ?_
      rotate_left
      · skip
        have q : decide (m < 0) = true := decide_eq_true hm0
        go_simp
        all_goals with_reducible rfl
      conv =>
        arg 8
        simp [go_sem]
      refine wpAnyH_take (i := 22) (v := ?_) rfl (by kernel_rfl) (by kernel_rfl) (by kernel_rfl) (fun _ _ _ h => h) (yieldsIf_val (by rfl) (fun w' hS => ?_)) HS0 ?_
      rotate_left
      · skip
        go_simp
        all_goals with_reducible rfl
      conv =>
        arg 8
        simp [go_sem]
      refine wpAnyH_take (i := 23) (v := ?_) rfl (by kernel_rfl) (by kernel_rfl) (by kernel_rfl) (fun _ _ _ h => h) (yieldsIf_val (by rfl) (fun w' hS => ?_)) HS0 ?_
      rotate_left
      · skip
        go_simp
        all_goals with_reducible rfl
      conv =>
        arg 8
        simp [go_sem]
      refine wpAnyH_take (i := 24) (v := undef) rfl (by kernel_rfl) (by kernel_rfl) (by kernel_rfl) (fun _ _ _ h => h) (Or.inr ⟨by rfl, rfl⟩) HS0 ?_
      conv =>
        arg 8
        simp [go_sem]
      refine wpAnyH_take (i := 25) (v := undef) rfl (by kernel_rfl) (by kernel_rfl) (by kernel_rfl) (fun _ _ _ h => h) (Or.inr ⟨by rfl, rfl⟩) HS0 ?_
      conv =>
        arg 8
        simp [go_sem]
      refine wpAnyH_take (i := 26) (v := undef) rfl (by kernel_rfl) (by kernel_rfl) (by kernel_rfl) (fun _ _ _ h => h) (Or.inr ⟨by rfl, rfl⟩) HS0 ?_
      conv =>
        arg 8
        simp [go_sem]
      refine wpAnyH_take (i := 27) (v := undef) rfl (by kernel_rfl) (by kernel_rfl) (by kernel_rfl) (fun _ _ _ h => h) (Or.inr ⟨by rfl, rfl⟩) HS0 ?_
      conv =>
        arg 8
        simp [go_sem]
      refine wpAnyH_take (i := 28) (v := undef) rfl (by kernel_rfl) (by kernel_rfl) (by kernel_rfl) (fun _ _ _ h => h) (Or.inr ⟨by rfl, rfl⟩) HS0 ?_
      conv =>
        arg 8
        simp [go_sem]
      refine wpAnyH_take (i := 29) (v := undef) rfl (by kernel_rfl) (by kernel_rfl) (by kernel_rfl) (fun _ _ _ h => h) (Or.inr ⟨by rfl, rfl⟩) HS0 ?_
      conv =>
        arg 8
        simp [go_sem]
      refine wpAnyH_take (i := 30) (v := undef) rfl (by kernel_rfl) (by kernel_rfl) (by kernel_rfl) (fun _ _ _ h => h) (Or.inr ⟨by rfl, rfl⟩) HS0 ?_
      conv =>
        arg 8
        simp [go_sem]
      refine wpAnyH_take (i := 31) (v := undef) rfl (by kernel_rfl) (by kernel_rfl) (by kernel_rfl) (fun _ _ _ h => h) (Or.inr ⟨by rfl, rfl⟩) HS0 ?_
      conv =>
        arg 8
        simp [go_sem]
      refine wpAnyH_take (i := 32) (v := undef) rfl (by kernel_rfl) (by kernel_rfl) (by kernel_rfl) (fun _ _ _ h => h) (Or.inr ⟨by rfl, rfl⟩) HS0 ?_
      conv =>
        arg 8
        simp [go_sem]
      refine wpAnyH_take (i := 33) (v := undef) rfl (by kernel_rfl) (by kernel_rfl) (by kernel_rfl) (fun _ _ _ h => h) (Or.inr ⟨by rfl, rfl⟩) HS0 ?_
      conv =>
        arg 8
        simp [go_sem]
      refine wpAnyH_take (i := 34) (v := undef) rfl (by kernel_rfl) (by kernel_rfl) (by kernel_rfl) (fun _ _ _ h => h) (Or.inr ⟨by rfl, rfl⟩) HS0 ?_
      conv =>
        arg 8
        simp [go_sem]
      refine wpAnyH_take (i := 35) (v := ?_) rfl (by kernel_rfl) (by kernel_rfl) (by kernel_rfl) (fun _ _ _ h => h) (yieldsIf_val (by rfl) (fun w' hS => ?_)) HS0 ?_
      rotate_left
      · skip
        go_simp
        all_goals with_reducible rfl
      conv =>
        arg 8
        simp [go_sem]
      refine ⟨by kernel_rfl, ?_⟩
      conv =>
        arg 5
        simp [go_sem]
      go_wp2_with fail
      exact ⟨rfl, rfl, HS0.2.2⟩
    · have hm1 : 1099511627775 < m := by unfold lim40 at hm; omega
      have hm2 : 0 ≤ m := by omega
      clear hm hm0
      go_enter Try.func40, Try.ntmps40
      go_wp2_with fail
      refine wp_region_held_drew (S := fun w' => Blk w' g 68 [.slice (some ⟨b, off, none⟩) n c, .int .i64 k] ∧ w'.cell? ⟨b, off + k, none⟩ = some (.int .i64 m) ∧ But [g] w w') (by kernel_rfl) HS0 (fun _ => ?_)
      refine wpAnyH_take (i := 0) (v := ?_) rfl (by kernel_rfl) (by kernel_rfl) (by kernel_rfl) (fun _ _ _ h => h) (yieldsIf_val (by rfl) (fun w' hS => ?_)) HS0 ?_
      rotate_left
      · skip
        go_simp
        all_goals with_reducible rfl
      conv =>
        arg 8
        simp [go_sem]
      refine wpAnyH_take (i := 1) (v := ?_) rfl (by kernel_rfl) (by kernel_rfl) (by kernel_rfl) (fun _ _ _ h => h) (yieldsIf_val (by rfl) (fun w' hS => ?_)) HS0 ?_
      rotate_left
      · skip
        go_simp
        all_goals with_reducible rfl
      conv =>
        arg 8
        simp [go_sem]
      refine wpAnyH_take (i := 2) (v := ?_) rfl (by kernel_rfl) (by kernel_rfl) (by kernel_rfl) (fun _ _ _ h => h) (yieldsIf_val (by rfl) (fun w' hS => ?_)) HS0 ?_
      rotate_left
      · skip
        go_simp
        all_goals with_reducible rfl
      conv =>
        arg 8
        simp [go_sem]
      refine wpAnyH_take (i := 3) (v := ?_) rfl (by kernel_rfl) (by kernel_rfl) (by kernel_rfl) (fun _ _ _ h => h) (yieldsIf_val (by rfl) (fun w' hS => ?_)) HS0 ?_
      rotate_left
      · skip
        have q := hS.1.cellOf (i := 1) rfl
        go_simp
        all_goals with_reducible rfl
      conv =>
        arg 8
        simp [go_sem]
      refine wpAnyH_take (i := 4) (v := ?_) rfl (by kernel_rfl) (by kernel_rfl) (by kernel_rfl) (fun _ _ _ h => h) (yieldsIf_val (by rfl) (fun w' hS => ?_)) HS0 ?_
      rotate_left
      · skip
        go_simp
        all_goals with_reducible rfl
      conv =>
        arg 8
        simp [go_sem]
      refine wpAnyH_take (i := 5) (v := ?_) rfl (by kernel_rfl) (by kernel_rfl) (by kernel_rfl) (fun _ _ _ h => h) (yieldsIf_val (by rfl) (fun w' hS => ?_)) HS0 ?_
      rotate_left
      · skip
        go_simp
        all_goals with_reducible rfl
      conv =>
        arg 8
        simp [go_sem]
      refine wpAnyH_take (i := 6) (v := ?_) rfl (by kernel_rfl) (by kernel_rfl) (by kernel_rfl) (fun _ _ _ h => h) (yieldsIf_val (by rfl) (fun w' hS => ?_)) HS0 ?_
      rotate_left
      · skip
        go_simp
        all_goals with_reducible rfl
      conv =>
        arg 8
        simp [go_sem]
      refine wpAnyH_take (i := 7) (v := ?_) rfl (by kernel_rfl) (by kernel_rfl) (by kernel_rfl) (fun _ _ _ h => h) (yieldsIf_val (by rfl) (fun w' hS => ?_)) HS0 ?_
      rotate_left
      · skip
        have q := hS.1.cellOf (i := 0) rfl
        go_simp
        all_goals with_reducible rfl
      conv =>
        arg 8
        simp [go_sem]
      refine wpAnyH_take (i := 8) (v := ?_) rfl (by kernel_rfl) (by kernel_rfl) (by kernel_rfl) (fun _ _ _ h => h) (yieldsIf_val (by rfl) (fun w' hS => ?_)) HS0 ?_
      rotate_left
      · skip
        go_simp
        all_goals with_reducible rfl
      conv =>
        arg 8
        simp [go_sem]
      refine wpAnyH_take (i := 9) (v := ?_) rfl (by kernel_rfl) (by kernel_rfl) (by kernel_rfl) (fun _ _ _ h => h) (yieldsIf_val (by rfl) (fun w' hS => ?_)) HS0 ?_
      rotate_left
      · skip
        have q : decide (n ≤ k) = false := decide_eq_false (by omega)
        go_simp
        all_goals with_reducible rfl
      conv =>
        arg 8
        simp [go_sem]
      refine wpAnyH_take (i := 10) (v := ?_) rfl (by kernel_rfl) (by kernel_rfl) (by kernel_rfl) (fun _ _ _ h => h) (yieldsIf_val (by rfl) (fun w' hS => ?_)) HS0 ?_
      rotate_left
      · skip
        go_simp
        all_goals with_reducible rfl
      conv =>
        arg 8
        simp [go_sem]
      refine wpAnyH_take (i := 11) (v := ?_) rfl (by kernel_rfl) (by kernel_rfl) (by kernel_rfl) (fun _ _ _ h => h) (yieldsIf_val (by rfl) (fun w' hS => ?_)) HS0 ?_
      rotate_left
      · skip
        go_simp
        all_goals with_reducible rfl
      conv =>
        arg 8
        simp [go_sem]
      refine wpAnyH_take (i := 12) (v := ?_) rfl (by kernel_rfl) (by kernel_rfl) (by kernel_rfl) (fun _ _ _ h => h) (yieldsIf_val (by rfl) (fun w' hS => ?_)) HS0 ?_
      rotate_left
      · skip
        go_simp
        all_goals with_reducible rfl
      conv =>
        arg 8
        simp [go_sem]
      refine wpAnyH_take (i := 13) (v := ?_) rfl (by kernel_rfl) (by kernel_rfl) (by kernel_rfl) (fun _ _ _ h => h) (yieldsIf_val (by rfl) (fun w' hS => ?_)) HS0 ?_
      rotate_left
      · skip
        go_simp
        all_goals with_reducible rfl
      conv =>
        arg 8
        simp [go_sem]
      refine wpAnyH_take (i := 14) (v := ?_) rfl (by kernel_rfl) (by kernel_rfl) (by kernel_rfl) (fun _ _ _ h => h) (yieldsIf_val (by rfl) (fun w' hS => ?_)) HS0 ?_
      rotate_left
      · skip
        have q := hS.1.cellOf (i := 0) rfl
        go_simp
        all_goals with_reducible rfl
      conv =>
        arg 8
        simp [go_sem]
      refine wpAnyH_take (i := 15) (v := ?_) rfl (by kernel_rfl) (by kernel_rfl) (by kernel_rfl) (fun _ _ _ h => h) (yieldsIf_val (by rfl) (fun w' hS => ?_)) HS0 ?_
      rotate_left
      · skip
        go_simp
        all_goals with_reducible rfl
      conv =>
        arg 8
        simp [go_sem]
      refine wpAnyH_take (i := 16) (v := ?_) rfl (by kernel_rfl) (by kernel_rfl) (by kernel_rfl) (fun _ _ _ h => h) (yieldsIf_val (by rfl) (fun w' hS => ?_)) HS0 ?_
      rotate_left
      · skip
        go_simp
        all_goals with_reducible rfl
      conv =>
        arg 8
        simp [go_sem]
      refine wpAnyH_take (i := 17) (v := ?_) rfl (by kernel_rfl) (by kernel_rfl) (by kernel_rfl) (fun _ _ _ h => h) (yieldsIf_val (by rfl) (fun w' hS => ?_)) HS0 ?_
      rotate_left
      · skip
        go_simp
        all_goals with_reducible rfl
      conv =>
        arg 8
        simp [go_sem]
      refine wpAnyH_take (i := 18) (v := ?_) rfl (by kernel_rfl) (by kernel_rfl) (by kernel_rfl) (fun _ _ _ h => h) (yieldsIf_val (by rfl) (fun w' hS => ?_)) HS0 ?_
      rotate_left
      · skip
        have q := hS.1.cellOf (i := 1) rfl
        go_simp
        all_goals with_reducible rfl
      conv =>
        arg 8
        simp [go_sem]
      refine wpAnyH_take (i := 19) (v := ?_) rfl (by kernel_rfl) (by kernel_rfl) (by kernel_rfl) (fun _ _ _ h => h) (yieldsIf_val (by rfl) (fun w' hS => ?_)) HS0 ?_
      rotate_left
      · skip
        have q0 : (0 : Int) ≤ (k : Int) := by omega
        have q1 : (k : Int) < (n : Int) := by omega
        go_simp
        all_goals with_reducible rfl
      conv =>
        arg 8
        simp [go_sem]
      refine wpAnyH_take (i := 20) (v := ?_) rfl (by kernel_rfl) (by kernel_rfl) (by kernel_rfl) (fun _ _ _ h => h) (yieldsIf_val (by rfl) (fun w' hS => ?_)) HS0 ?_
      rotate_left
      · skip
        have q := hS.2.1
        go_simp
        all_goals with_reducible rfl
      conv =>
        arg 8
        simp [go_sem]
      refine wpAnyH_take (i := 21) (v := ?_) rfl (by kernel_rfl) (by kernel_rfl) (by kernel_rfl) (fun _ _ _ h => h) (yieldsIf_val (by rfl) (fun w' hS => ?_)) HS0 ?_
      rotate_left
      · skip
        have q : decide (m < 0) = false := decide_eq_false (by omega)
        go_simp
        all_goals with_reducible rfl
      conv =>
        arg 8
        simp [go_sem]
      refine wpAnyH_take (i := 22) (v := ?_) rfl (by kernel_rfl) (by kernel_rfl) (by kernel_rfl) (fun _ _ _ h => h) (yieldsIf_val (by rfl) (fun w' hS => ?_)) HS0 ?_
      rotate_left
      · skip
        go_simp
        all_goals with_reducible rfl
      conv =>
        arg 8
        simp [go_sem]
      refine wpAnyH_take (i := 23) (v := ?_) rfl (by kernel_rfl) (by kernel_rfl) (by kernel_rfl) (fun _ _ _ h => h) (yieldsIf_val (by rfl) (fun w' hS => ?_)) HS0 ?_
      rotate_left
      · skip
        go_simp
        all_goals with_reducible rfl
      conv =>
        arg 8
        simp [go_sem]
      refine wpAnyH_take (i := 24) (v := ?_) rfl (by kernel_rfl) (by kernel_rfl) (by kernel_rfl) (fun _ _ _ h => h) (yieldsIf_val (by rfl) (fun w' hS => ?_)) HS0 ?_
      rotate_left
      · skip
        go_simp
        all_goals with_reducible rfl
      conv =>
        arg 8
        simp [go_sem]
      refine wpAnyH_take (i := 25) (v := ?_) rfl (by kernel_rfl) (by kernel_rfl) (by kernel_rfl) (fun _ _ _ h => h) (yieldsIf_val (by rfl) (fun w' hS => ?_)) HS0 ?_
      rotate_left
      · skip
        go_simp
        all_goals with_reducible rfl
      conv =>
        arg 8
        simp [go_sem]
      refine wpAnyH_take (i := 26) (v := ?_) rfl (by kernel_rfl) (by kernel_rfl) (by kernel_rfl) (fun _ _ _ h => h) (yieldsIf_val (by rfl) (fun w' hS => ?_)) HS0 ?_
      rotate_left
      · skip
        go_simp
        all_goals with_reducible rfl
      conv =>
        arg 8
        simp [go_sem]
      refine wpAnyH_take (i := 27) (v := ?_) rfl (by kernel_rfl) (by kernel_rfl) (by kernel_rfl) (fun _ _ _ h => h) (yieldsIf_val (by rfl) (fun w' hS => ?_)) HS0 ?_
      rotate_left
      · skip
        have q := hS.1.cellOf (i := 0) rfl
        go_simp
        all_goals with_reducible rfl
      conv =>
        arg 8
        simp [go_sem]
      refine wpAnyH_take (i := 28) (v := ?_) rfl (by kernel_rfl) (by kernel_rfl) (by kernel_rfl) (fun _ _ _ h => h) (yieldsIf_val (by rfl) (fun w' hS => ?_)) HS0 ?_
      rotate_left
      · skip
        go_simp
        all_goals with_reducible rfl
      conv =>
        arg 8
        simp [go_sem]
      refine wpAnyH_take (i := 29) (v := ?_) rfl (by kernel_rfl) (by kernel_rfl) (by kernel_rfl) (fun _ _ _ h => h) (yieldsIf_val (by rfl) (fun w' hS => ?_)) HS0 ?_
      rotate_left
      · skip
        go_simp
        all_goals with_reducible rfl
      conv =>
        arg 8
        simp [go_sem]
      refine wpAnyH_take (i := 30) (v := ?_) rfl (by kernel_rfl) (by kernel_rfl) (by kernel_rfl) (fun _ _ _ h => h) (yieldsIf_val (by rfl) (fun w' hS => ?_)) HS0 ?_
      rotate_left
      · skip
        go_simp
        all_goals with_reducible rfl
      conv =>
        arg 8
        simp [go_sem]
      refine wpAnyH_take (i := 31) (v := ?_) rfl (by kernel_rfl) (by kernel_rfl) (by kernel_rfl) (fun _ _ _ h => h) (yieldsIf_val (by rfl) (fun w' hS => ?_)) HS0 ?_
      rotate_left
      · skip
        have q := hS.1.cellOf (i := 1) rfl
        go_simp
        all_goals with_reducible rfl
      conv =>
        arg 8
        simp [go_sem]
      refine wpAnyH_take (i := 32) (v := ?_) rfl (by kernel_rfl) (by kernel_rfl) (by kernel_rfl) (fun _ _ _ h => h) (yieldsIf_val (by rfl) (fun w' hS => ?_)) HS0 ?_
      rotate_left
      · skip
        have q0 : (0 : Int) ≤ (k : Int) := by omega
        have q1 : (k : Int) < (n : Int) := by omega
        go_simp
        all_goals with_reducible rfl
      conv =>
        arg 8
        simp [go_sem]
      refine wpAnyH_take (i := 33) (v := ?_) rfl (by kernel_rfl) (by kernel_rfl) (by kernel_rfl) (fun _ _ _ h => h) (yieldsIf_val (by rfl) (fun w' hS => ?_)) HS0 ?_
      rotate_left
      · skip
        have q := hS.2.1
        go_simp
        all_goals with_reducible rfl
      conv =>
        arg 8
        simp [go_sem]
      refine wpAnyH_take (i := 34) (v := ?_) rfl (by kernel_rfl) (by kernel_rfl) (by kernel_rfl) (fun _ _ _ h => h) (yieldsIf_val (by rfl) (fun w' hS => ?_)) HS0 ?_
      rotate_left
      · skip
        have q : decide (1099511627775 < m) = true := decide_eq_true hm1
        go_simp
        all_goals with_reducible rfl
      conv =>
        arg 8
        simp [go_sem]
      refine wpAnyH_take (i := 35) (v := ?_) rfl (by kernel_rfl) (by kernel_rfl) (by kernel_rfl) (fun _ _ _ h => h) (yieldsIf_val (by rfl) (fun w' hS => ?_)) HS0 ?_
      rotate_left
      · skip
        go_simp
        all_goals with_reducible rfl
      conv =>
        arg 8
        simp [go_sem]
      refine ⟨by kernel_rfl, ?_⟩
      conv =>
        arg 5
        simp [go_sem]
      go_wp2_with fail
      exact ⟨rfl, rfl, HS0.2.2⟩
set_option maxRecDepth 20000 in
set_option maxHeartbeats 4000000 in
theorem word_ok {B g : Nat} {a : Option Addr} {n c : Nat} {l l' : List Int} {k : Nat} {m : Int} {w : World} (hr : Rdr B w g a n c l k) (hB : B ≤ g) (h : rdW lim40 (l.drop k) = some (m, l')) : Calls Try.prog 40 #[.pointer (some ⟨g, 0, none⟩)] w (RdOk B (.int .i64 m) g a n c l (k + 1) w) := by
  have HR := Box.mk hr
  obtain ⟨hb, hrd, hle, hlb⟩ := hr
  have hn := hrd.ilen
  have hmx := hrd.lenMax
  obtain ⟨h0, hm0, hm1⟩ := rdW_some h
  obtain ⟨hk, hm2, _⟩ := drop_cons_get h0
  have hkn : k < n := by omega
  obtain ⟨b, off, rfl, hc⟩ := hrd.intAtD k hkn
  rw [hm2] at hc
  unfold lim40 at hm1
  have hcap := hrd.hcap
  have hbB : b < B := hlb _ rfl (by omega)
  clear hn h hrd hlb h0 hm2 hk hle
  have HS0 : (fun w' => Blk w' g 68 [.slice (some ⟨b, off, none⟩) n c, .int .i64 k] ∧ w'.cell? ⟨b, off + k, none⟩ = some (.int .i64 m) ∧ But [g] w w' ∧ (∀ j, j < B → w'.heap[j]? = w.heap[j]?)) w.drew := ⟨hb.drew, hc, (But.refl _ _).drew, fun _ _ => rfl⟩
  go_enter Try.func40, Try.ntmps40
  go_wp2_with fail
  refine wp_region_held_drew (S := fun w' => Blk w' g 68 [.slice (some ⟨b, off, none⟩) n c, .int .i64 k] ∧ w'.cell? ⟨b, off + k, none⟩ = some (.int .i64 m) ∧ But [g] w w' ∧ (∀ j, j < B → w'.heap[j]? = w.heap[j]?)) (by kernel_rfl) HS0 (fun _ => ?_)
  refine wpAnyH_take (i := 0) (v := ?_) rfl (by kernel_rfl) (by kernel_rfl) (by kernel_rfl) (fun _ _ _ h => h) (yieldsIf_val (by rfl) (fun w' hS => ?_)) HS0 ?_
  rotate_left
  · skip
    go_simp
    all_goals with_reducible rfl
  conv =>
    arg 8
    simp [go_sem]
  refine wpAnyH_take (i := 1) (v := ?_) rfl (by kernel_rfl) (by kernel_rfl) (by kernel_rfl) (fun _ _ _ h => h) (yieldsIf_val (by rfl) (fun w' hS => ?_)) HS0 ?_
  rotate_left
  · skip
    go_simp
    all_goals with_reducible rfl
  conv =>
    arg 8
    simp [go_sem]
  refine wpAnyH_take (i := 2) (v := ?_) rfl (by kernel_rfl) (by kernel_rfl) (by kernel_rfl) (fun _ _ _ h => h) (yieldsIf_val (by rfl) (fun w' hS => ?_)) HS0 ?_
  rotate_left
  · skip
    go_simp
    all_goals with_reducible rfl
  conv =>
    arg 8
    simp [go_sem]
  refine wpAnyH_take (i := 3) (v := ?_) rfl (by kernel_rfl) (by kernel_rfl) (by kernel_rfl) (fun _ _ _ h => h) (yieldsIf_val (by rfl) (fun w' hS => ?_)) HS0 ?_
  rotate_left
  · skip
    have q := hS.1.cellOf (i := 1) rfl
    go_simp
    all_goals with_reducible rfl
  conv =>
    arg 8
    simp [go_sem]
  refine wpAnyH_take (i := 4) (v := ?_) rfl (by kernel_rfl) (by kernel_rfl) (by kernel_rfl) (fun _ _ _ h => h) (yieldsIf_val (by rfl) (fun w' hS => ?_)) HS0 ?_
  rotate_left
  · skip
    go_simp
    all_goals with_reducible rfl
  conv =>
    arg 8
    simp [go_sem]
  refine wpAnyH_take (i := 5) (v := ?_) rfl (by kernel_rfl) (by kernel_rfl) (by kernel_rfl) (fun _ _ _ h => h) (yieldsIf_val (by rfl) (fun w' hS => ?_)) HS0 ?_
  rotate_left
  · skip
    go_simp
    all_goals with_reducible rfl
  conv =>
    arg 8
    simp [go_sem]
  refine wpAnyH_take (i := 6) (v := ?_) rfl (by kernel_rfl) (by kernel_rfl) (by kernel_rfl) (fun _ _ _ h => h) (yieldsIf_val (by rfl) (fun w' hS => ?_)) HS0 ?_
  rotate_left
  · skip
    go_simp
    all_goals with_reducible rfl
  conv =>
    arg 8
    simp [go_sem]
  refine wpAnyH_take (i := 7) (v := ?_) rfl (by kernel_rfl) (by kernel_rfl) (by kernel_rfl) (fun _ _ _ h => h) (yieldsIf_val (by rfl) (fun w' hS => ?_)) HS0 ?_
  rotate_left
  · skip
    have q := hS.1.cellOf (i := 0) rfl
    go_simp
    all_goals with_reducible rfl
  conv =>
    arg 8
    simp [go_sem]
  refine wpAnyH_take (i := 8) (v := ?_) rfl (by kernel_rfl) (by kernel_rfl) (by kernel_rfl) (fun _ _ _ h => h) (yieldsIf_val (by rfl) (fun w' hS => ?_)) HS0 ?_
  rotate_left
  · skip
    go_simp
    all_goals with_reducible rfl
  conv =>
    arg 8
    simp [go_sem]
  refine wpAnyH_take (i := 9) (v := ?_) rfl (by kernel_rfl) (by kernel_rfl) (by kernel_rfl) (fun _ _ _ h => h) (yieldsIf_val (by rfl) (fun w' hS => ?_)) HS0 ?_
  rotate_left
  · skip
    have q : decide (n ≤ k) = false := decide_eq_false (by omega)
    go_simp
    all_goals with_reducible rfl
  conv =>
    arg 8
    simp [go_sem]
  refine wpAnyH_take (i := 10) (v := ?_) rfl (by kernel_rfl) (by kernel_rfl) (by kernel_rfl) (fun _ _ _ h => h) (yieldsIf_val (by rfl) (fun w' hS => ?_)) HS0 ?_
  rotate_left
  · skip
    go_simp
    all_goals with_reducible rfl
  conv =>
    arg 8
    simp [go_sem]
  refine wpAnyH_take (i := 11) (v := ?_) rfl (by kernel_rfl) (by kernel_rfl) (by kernel_rfl) (fun _ _ _ h => h) (yieldsIf_val (by rfl) (fun w' hS => ?_)) HS0 ?_
  rotate_left
  · skip
    go_simp
    all_goals with_reducible rfl
  conv =>
    arg 8
    simp [go_sem]
  refine wpAnyH_take (i := 12) (v := ?_) rfl (by kernel_rfl) (by kernel_rfl) (by kernel_rfl) (fun _ _ _ h => h) (yieldsIf_val (by rfl) (fun w' hS => ?_)) HS0 ?_
  rotate_left
  · skip
    go_simp
    all_goals with_reducible rfl
  conv =>
    arg 8
    simp [go_sem]
  refine wpAnyH_take (i := 13) (v := ?_) rfl (by kernel_rfl) (by kernel_rfl) (by kernel_rfl) (fun _ _ _ h => h) (yieldsIf_val (by rfl) (fun w' hS => ?_)) HS0 ?_
  rotate_left
  · skip
    go_simp
    all_goals with_reducible rfl
  conv =>
    arg 8
    simp [go_sem]
  refine wpAnyH_take (i := 14) (v := ?_) rfl (by kernel_rfl) (by kernel_rfl) (by kernel_rfl) (fun _ _ _ h => h) (yieldsIf_val (by rfl) (fun w' hS => ?_)) HS0 ?_
  rotate_left
  · skip
    have q := hS.1.cellOf (i := 0) rfl
    go_simp
    all_goals with_reducible rfl
  conv =>
    arg 8
    simp [go_sem]
  refine wpAnyH_take (i := 15) (v := ?_) rfl (by kernel_rfl) (by kernel_rfl) (by kernel_rfl) (fun _ _ _ h => h) (yieldsIf_val (by rfl) (fun w' hS => ?_)) HS0 ?_
  rotate_left
  · skip
    go_simp
    all_goals with_reducible rfl
  conv =>
    arg 8
    simp [go_sem]
  refine wpAnyH_take (i := 16) (v := ?_) rfl (by kernel_rfl) (by kernel_rfl) (by kernel_rfl) (fun _ _ _ h => h) (yieldsIf_val (by rfl) (fun w' hS => ?_)) HS0 ?_
  rotate_left
  · skip
    go_simp
    all_goals with_reducible rfl
  conv =>
    arg 8
    simp [go_sem]
  refine wpAnyH_take (i := 17) (v := ?_) rfl (by kernel_rfl) (by kernel_rfl) (by kernel_rfl) (fun _ _ _ h => h) (yieldsIf_val (by rfl) (fun w' hS => ?_)) HS0 ?_
  rotate_left
  · skip
    go_simp
    all_goals with_reducible rfl
  conv =>
    arg 8
    simp [go_sem]
  refine wpAnyH_take (i := 18) (v := ?_) rfl (by kernel_rfl) (by kernel_rfl) (by kernel_rfl) (fun _ _ _ h => h) (yieldsIf_val (by rfl) (fun w' hS => ?_)) HS0 ?_
  rotate_left
  · skip
    have q := hS.1.cellOf (i := 1) rfl
    go_simp
    all_goals with_reducible rfl
  conv =>
    arg 8
    simp [go_sem]
  refine wpAnyH_take (i := 19) (v := ?_) rfl (by kernel_rfl) (by kernel_rfl) (by kernel_rfl) (fun _ _ _ h => h) (yieldsIf_val (by rfl) (fun w' hS => ?_)) HS0 ?_
  rotate_left
  · skip
    have q0 : (0 : Int) ≤ (k : Int) := by omega
    have q1 : (k : Int) < (n : Int) := by omega
    go_simp
    all_goals with_reducible rfl
  conv =>
    arg 8
    simp [go_sem]
  refine wpAnyH_take (i := 20) (v := ?_) rfl (by kernel_rfl) (by kernel_rfl) (by kernel_rfl) (fun _ _ _ h => h) (yieldsIf_val (by rfl) (fun w' hS => ?_)) HS0 ?_
  rotate_left
  · skip
    have q := hS.2.1
    go_simp
    all_goals with_reducible rfl
  conv =>
    arg 8
    simp [go_sem]
  refine wpAnyH_take (i := 21) (v := ?_) rfl (by kernel_rfl) (by kernel_rfl) (by kernel_rfl) (fun _ _ _ h => h) (yieldsIf_val (by rfl) (fun w' hS => ?_)) HS0 ?_
  rotate_left
  · skip
    have q : decide (m < 0) = false := decide_eq_false (by omega)
    go_simp
    all_goals with_reducible rfl
  conv =>
    arg 8
    simp [go_sem]
  refine wpAnyH_take (i := 22) (v := ?_) rfl (by kernel_rfl) (by kernel_rfl) (by kernel_rfl) (fun _ _ _ h => h) (yieldsIf_val (by rfl) (fun w' hS => ?_)) HS0 ?_
  rotate_left
  · skip
    go_simp
    all_goals with_reducible rfl
  conv =>
    arg 8
    simp [go_sem]
  refine wpAnyH_take (i := 23) (v := ?_) rfl (by kernel_rfl) (by kernel_rfl) (by kernel_rfl) (fun _ _ _ h => h) (yieldsIf_val (by rfl) (fun w' hS => ?_)) HS0 ?_
  rotate_left
  · skip
    go_simp
    all_goals with_reducible rfl
  conv =>
    arg 8
    simp [go_sem]
  refine wpAnyH_take (i := 24) (v := ?_) rfl (by kernel_rfl) (by kernel_rfl) (by kernel_rfl) (fun _ _ _ h => h) (yieldsIf_val (by rfl) (fun w' hS => ?_)) HS0 ?_
  rotate_left
  · skip
    go_simp
    all_goals with_reducible rfl
  conv =>
    arg 8
    simp [go_sem]
  refine wpAnyH_take (i := 25) (v := ?_) rfl (by kernel_rfl) (by kernel_rfl) (by kernel_rfl) (fun _ _ _ h => h) (yieldsIf_val (by rfl) (fun w' hS => ?_)) HS0 ?_
  rotate_left
  · skip
    go_simp
    all_goals with_reducible rfl
  conv =>
    arg 8
    simp [go_sem]
  refine wpAnyH_take (i := 26) (v := ?_) rfl (by kernel_rfl) (by kernel_rfl) (by kernel_rfl) (fun _ _ _ h => h) (yieldsIf_val (by rfl) (fun w' hS => ?_)) HS0 ?_
  rotate_left
  · skip
    go_simp
    all_goals with_reducible rfl
  conv =>
    arg 8
    simp [go_sem]
  refine wpAnyH_take (i := 27) (v := ?_) rfl (by kernel_rfl) (by kernel_rfl) (by kernel_rfl) (fun _ _ _ h => h) (yieldsIf_val (by rfl) (fun w' hS => ?_)) HS0 ?_
  rotate_left
  · skip
    have q := hS.1.cellOf (i := 0) rfl
    go_simp
    all_goals with_reducible rfl
  conv =>
    arg 8
    simp [go_sem]
  refine wpAnyH_take (i := 28) (v := ?_) rfl (by kernel_rfl) (by kernel_rfl) (by kernel_rfl) (fun _ _ _ h => h) (yieldsIf_val (by rfl) (fun w' hS => ?_)) HS0 ?_
  rotate_left
  · skip
    go_simp
    all_goals with_reducible rfl
  conv =>
    arg 8
    simp [go_sem]
  refine wpAnyH_take (i := 29) (v := ?_) rfl (by kernel_rfl) (by kernel_rfl) (by kernel_rfl) (fun _ _ _ h => h) (yieldsIf_val (by rfl) (fun w' hS => ?_)) HS0 ?_
  rotate_left
  · skip
    go_simp
    all_goals with_reducible rfl
  conv =>
    arg 8
    simp [go_sem]
  refine wpAnyH_take (i := 30) (v := ?_) rfl (by kernel_rfl) (by kernel_rfl) (by kernel_rfl) (fun _ _ _ h => h) (yieldsIf_val (by rfl) (fun w' hS => ?_)) HS0 ?_
  rotate_left
  · skip
    go_simp
    all_goals with_reducible rfl
  conv =>
    arg 8
    simp [go_sem]
  refine wpAnyH_take (i := 31) (v := ?_) rfl (by kernel_rfl) (by kernel_rfl) (by kernel_rfl) (fun _ _ _ h => h) (yieldsIf_val (by rfl) (fun w' hS => ?_)) HS0 ?_
  rotate_left
  · skip
    have q := hS.1.cellOf (i := 1) rfl
    go_simp
    all_goals with_reducible rfl
  conv =>
    arg 8
    simp [go_sem]
  refine wpAnyH_take (i := 32) (v := ?_) rfl (by kernel_rfl) (by kernel_rfl) (by kernel_rfl) (fun _ _ _ h => h) (yieldsIf_val (by rfl) (fun w' hS => ?_)) HS0 ?_
  rotate_left
  · skip
    have q0 : (0 : Int) ≤ (k : Int) := by omega
    have q1 : (k : Int) < (n : Int) := by omega
    go_simp
    all_goals with_reducible rfl
  conv =>
    arg 8
    simp [go_sem]
  refine wpAnyH_take (i := 33) (v := ?_) rfl (by kernel_rfl) (by kernel_rfl) (by kernel_rfl) (fun _ _ _ h => h) (yieldsIf_val (by rfl) (fun w' hS => ?_)) HS0 ?_
  rotate_left
  · skip
    have q := hS.2.1
    go_simp
    all_goals with_reducible rfl
  conv =>
    arg 8
    simp [go_sem]
  refine wpAnyH_take (i := 34) (v := ?_) rfl (by kernel_rfl) (by kernel_rfl) (by kernel_rfl) (fun _ _ _ h => h) (yieldsIf_val (by rfl) (fun w' hS => ?_)) HS0 ?_
  rotate_left
  · skip
    have q : decide (1099511627775 < m) = false := decide_eq_false (by omega)
    go_simp
    all_goals with_reducible rfl
  conv =>
    arg 8
    simp [go_sem]
  refine wpAnyH_take (i := 35) (v := ?_) rfl (by kernel_rfl) (by kernel_rfl) (by kernel_rfl) (fun _ _ _ h => h) (yieldsIf_val (by rfl) (fun w' hS => ?_)) HS0 ?_
  rotate_left
  · skip
    go_simp
    all_goals with_reducible rfl
  conv =>
    arg 8
    simp [go_sem]
  refine ⟨by kernel_rfl, ?_⟩
  conv =>
    arg 5
    simp [go_sem]
  have c1 := HS0.1.cellOf (i := 1) rfl
  have f1 := HS0.1.free 1
  have HS1 : (fun w' => Blk w' g 68 [.slice (some ⟨b, off, none⟩) n c, .int .i64 (k + 1)] ∧ w'.cell? ⟨b, off + k, none⟩ = some (.int .i64 m) ∧ But [g] w w' ∧ (∀ j, j < B → w'.heap[j]? = w.heap[j]?)) (World.drew _) := ⟨(HS0.1.set 1 (.int .i64 ((k : Int) + 1))).drew, by
    have e : (w.drew.setCell ⟨g, 1, none⟩ (.int .i64 ((k : Int) + 1))).heap[b]? = w.drew.heap[b]? := Below.heap_setCell _ _ _ _ (by show b ≠ g; omega)
    exact (cell_eq (p := ⟨b, off + k, none⟩) (w := w.drew) e).trans HS0.2.1, (HS0.2.2.1.setCell (.inl (by simp)) _).drew, fun j hj => (Below.heap_setCell _ _ _ _ (by show j ≠ g; omega)).trans (HS0.2.2.2 j hj)⟩
  have HR1 := Box.mk HS1
  clear HS0
  go_wp2_with fail
  refine wp_region_held_drew (S := fun w' => Blk w' g 68 [.slice (some ⟨b, off, none⟩) n c, .int .i64 (k + 1)] ∧ w'.cell? ⟨b, off + k, none⟩ = some (.int .i64 m) ∧ But [g] w w' ∧ (∀ j, j < B → w'.heap[j]? = w.heap[j]?)) (by kernel_rfl) HS1 (fun _ => ?_)
  refine wpAnyH_take (i := 0) (v := ?_) rfl (by kernel_rfl) (by kernel_rfl) (by kernel_rfl) (fun _ _ _ h => h) (yieldsIf_val (by rfl) (fun w' hS => ?_)) HS1 ?_
  rotate_left
  · skip
    go_simp
    all_goals with_reducible rfl
  conv =>
    arg 8
    simp [go_sem]
  refine wpAnyH_take (i := 1) (v := ?_) rfl (by kernel_rfl) (by kernel_rfl) (by kernel_rfl) (fun _ _ _ h => h) (yieldsIf_val (by rfl) (fun w' hS => ?_)) HS1 ?_
  rotate_left
  · skip
    go_simp
    all_goals with_reducible rfl
  conv =>
    arg 8
    simp [go_sem]
  refine wpAnyH_take (i := 2) (v := ?_) rfl (by kernel_rfl) (by kernel_rfl) (by kernel_rfl) (fun _ _ _ h => h) (yieldsIf_val (by rfl) (fun w' hS => ?_)) HS1 ?_
  rotate_left
  · skip
    go_simp
    all_goals with_reducible rfl
  conv =>
    arg 8
    simp [go_sem]
  refine wpAnyH_take (i := 3) (v := ?_) rfl (by kernel_rfl) (by kernel_rfl) (by kernel_rfl) (fun _ _ _ h => h) (yieldsIf_val (by rfl) (fun w' hS => ?_)) HS1 ?_
  rotate_left
  · skip
    have q := hS.1.cellOf (i := 0) rfl
    go_simp
    all_goals with_reducible rfl
  conv =>
    arg 8
    simp [go_sem]
  refine wpAnyH_take (i := 4) (v := ?_) rfl (by kernel_rfl) (by kernel_rfl) (by kernel_rfl) (fun _ _ _ h => h) (yieldsIf_val (by rfl) (fun w' hS => ?_)) HS1 ?_
  rotate_left
  · skip
    go_simp
    all_goals with_reducible rfl
  conv =>
    arg 8
    simp [go_sem]
  refine wpAnyH_take (i := 5) (v := ?_) rfl (by kernel_rfl) (by kernel_rfl) (by kernel_rfl) (fun _ _ _ h => h) (yieldsIf_val (by rfl) (fun w' hS => ?_)) HS1 ?_
  rotate_left
  · skip
    go_simp
    all_goals with_reducible rfl
  conv =>
    arg 8
    simp [go_sem]
  refine wpAnyH_take (i := 6) (v := ?_) rfl (by kernel_rfl) (by kernel_rfl) (by kernel_rfl) (fun _ _ _ h => h) (yieldsIf_val (by rfl) (fun w' hS => ?_)) HS1 ?_
  rotate_left
  · skip
    go_simp
    all_goals with_reducible rfl
  conv =>
    arg 8
    simp [go_sem]
  refine wpAnyH_take (i := 7) (v := ?_) rfl (by kernel_rfl) (by kernel_rfl) (by kernel_rfl) (fun _ _ _ h => h) (yieldsIf_val (by rfl) (fun w' hS => ?_)) HS1 ?_
  rotate_left
  · skip
    have q := hS.1.cellOf (i := 1) rfl
    go_simp
    all_goals with_reducible rfl
  conv =>
    arg 8
    simp [go_sem]
  refine wpAnyH_take (i := 8) (v := ?_) rfl (by kernel_rfl) (by kernel_rfl) (by kernel_rfl) (fun _ _ _ h => h) (yieldsIf_val (by rfl) (fun w' hS => ?_)) HS1 ?_
  rotate_left
  · skip
    go_simp
    all_goals with_reducible rfl
  conv =>
    arg 8
    simp [go_sem]
  refine wpAnyH_take (i := 9) (v := ?_) rfl (by kernel_rfl) (by kernel_rfl) (by kernel_rfl) (fun _ _ _ h => h) (yieldsIf_val (by rfl) (fun w' hS => ?_)) HS1 ?_
  rotate_left
  · skip
    have q0 : (0 : Int) ≤ (k : Int) := by omega
    have q1 : (k : Int) < (n : Int) := by omega
    have q : IntKind.i64.wrap (k : Int) = (k : Int) := by rw [IntKind.wrap_i64]; omega
    go_simp
    all_goals with_reducible rfl
  conv =>
    arg 8
    simp [go_sem]
  refine wpAnyH_take (i := 10) (v := ?_) rfl (by kernel_rfl) (by kernel_rfl) (by kernel_rfl) (fun _ _ _ h => h) (yieldsIf_val (by rfl) (fun w' hS => ?_)) HS1 ?_
  rotate_left
  · skip
    have q := hS.2.1
    go_simp
    all_goals with_reducible rfl
  conv =>
    arg 8
    simp [go_sem]
  refine wpAnyH_take (i := 11) (v := ?_) rfl (by kernel_rfl) (by kernel_rfl) (by kernel_rfl) (fun _ _ _ h => h) (yieldsIf_val (by rfl) (fun w' hS => ?_)) HS1 ?_
  rotate_left
  · skip
    go_simp
    all_goals with_reducible rfl
  conv =>
    arg 8
    simp [go_sem]
  refine ⟨by kernel_rfl, ?_⟩
  conv =>
    arg 5
    simp [go_sem]
  go_wp2_with fail
  go_ret
  exact ⟨rfl, HR.out.move HR1.out.2.2.2 (k + 1) (by omega) (by have h := HR1.out.1; rw [show ((k : Int) + 1) = ((k + 1 : Nat) : Int) from by omega] at h; exact h), HR1.out.2.2.1⟩
end Go.Proofs.Ytpgdfhncigmmbaa
