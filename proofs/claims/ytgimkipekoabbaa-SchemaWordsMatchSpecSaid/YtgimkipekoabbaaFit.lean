/-
  Plain mathematics of chapter 20: what Fits returns. No condition.
-/
import Derived.Test.YtgimkipekoabbaaWCheck0
namespace Go.Proofs.Ytgimkipekoabbaa
open Go.RowKit

def valErr (cols : List Col) (r : List Val) (i : Nat) : Int :=
  if nullB (r.getD i default) = true then (if (cols.getD i default).null = true then 0 else 200)
  else if (validB (r.getD i default) && decide ((r.getD i default).kind = (cols.getD i default).kind)) = true then 0 else 7
def holdErr (chks : List Chk) (r : List Val) (i : Nat) : Int :=
  if (decide ((r.getD (chks.getD i default).col.toNat default).kind ≠ 0) && !holdsB (chks.getD i default).op (cmpV (r.getD (chks.getD i default).col.toNat default) (chks.getD i default).val)) = true then 201 else 0
/-- What Fits returns. -/
def fitsT (T : Tab) (r : List Val) : Int :=
  if checkT T ≠ 0 then checkT T
  else if r.length ≠ T.cols.length then 1
  else if firstE (valErr T.cols r) r.length ≠ 0 then firstE (valErr T.cols r) r.length
  else firstE (holdErr T.chks r) T.chks.length
theorem fitsT_check {T : Tab} {r : List Val} {v : Int} (h : checkT T = v) (hv : v ≠ 0) : fitsT T r = v := by unfold fitsT; rw [h, if_pos hv]
theorem fitsT_len {T : Tab} {r : List Val} (h : checkT T = 0) (h1 : r.length ≠ T.cols.length) : fitsT T r = 1 := by unfold fitsT; rw [h, if_neg (by decide), if_pos h1]
theorem fitsT_val {T : Tab} {r : List Val} {k : Nat} {v : Int} (h : checkT T = 0) (h1 : r.length = T.cols.length) (hz : ∀ j, j < k → valErr T.cols r j = 0) (hk : k < r.length) (h2 : valErr T.cols r k = v) (hv : v ≠ 0) : fitsT T r = v := by
  have := firstE_hit hz hk (by rw [h2]; exact hv)
  unfold fitsT; rw [h, if_neg (by decide), if_neg (by simp [h1]), this, h2, if_pos hv]
theorem fitsT_hold {T : Tab} {r : List Val} {k : Nat} (h : checkT T = 0) (h1 : r.length = T.cols.length) (hz : ∀ j, j < r.length → valErr T.cols r j = 0) (hc : ∀ j, j < k → holdErr T.chks r j = 0) (hk : k < T.chks.length) (h2 : holdErr T.chks r k = 201) : fitsT T r = 201 := by
  have := firstE_hit hc hk (by rw [h2]; decide)
  unfold fitsT; rw [h, if_neg (by decide), if_neg (by simp [h1]), firstE_zero hz, if_neg (by decide), this, h2]
theorem fitsT_ok {T : Tab} {r : List Val} (h : checkT T = 0) (h1 : r.length = T.cols.length) (hz : ∀ j, j < r.length → valErr T.cols r j = 0) (hc : ∀ j, j < T.chks.length → holdErr T.chks r j = 0) : fitsT T r = 0 := by
  unfold fitsT; rw [h, if_neg (by decide), if_neg (by simp [h1]), firstE_zero hz, if_neg (by decide), firstE_zero hc]

/-- What a valid table has. -/
structure TabOk (T : Tab) : Prop where
  name : nameB T.name = true
  cols0 : 0 < T.cols.length
  cols8 : T.cols.length ≤ 8
  colsE : colsE T.cols = 0
  ixs4 : T.ixs.length ≤ 4
  ixsE : ixsE T.ixs T.cols.length = 0
  chks4 : T.chks.length ≤ 4
  chksE : chksE T.chks T.cols = 0
theorem checkT_ok {T : Tab} (h : checkT T = 0) : TabOk T := by
  unfold checkT at h
  split at h
  · cases h
  rename_i h1
  split at h
  · cases h
  rename_i h2
  split at h
  · rename_i h3; exact absurd h h3
  rename_i h3
  split at h
  · cases h
  rename_i h4
  split at h
  · rename_i h5; exact absurd h h5
  rename_i h5
  split at h
  · cases h
  rename_i h6
  exact ⟨by simpa using h1, by omega, by omega, by simpa using h3, by omega, by simpa using h5, by omega, h⟩
theorem TabOk.check {T : Tab} (h : TabOk T) : checkT T = 0 := by
  have h0 := h.cols0; have h1 := h.cols8; have h2 := h.ixs4; have h3 := h.chks4
  unfold checkT
  rw [h.name, if_neg (by decide), if_neg (by omega), h.colsE, if_neg (by decide), if_neg (by omega), h.ixsE, if_neg (by decide), if_neg (by omega), h.chksE]
theorem TabOk.chk {T : Tab} (h : TabOk T) {i : Nat} (hi : i < T.chks.length) : 0 ≤ (T.chks.getD i default).col ∧ (T.chks.getD i default).col < T.cols.length ∧ 6 ≤ (T.chks.getD i default).op ∧ (T.chks.getD i default).op ≤ 11 ∧ validB (T.chks.getD i default).val = true ∧ (T.chks.getD i default).val.kind = (T.cols.getD (T.chks.getD i default).col.toNat default).kind := by
  have h1 := firstE_eq_zero h.chksE i hi
  unfold chkErr at h1
  split at h1
  · cases h1
  rename_i h2
  split at h1
  · cases h1
  rename_i h3
  simp only [Bool.not_eq_false] at h2 h3
  unfold chkPlaceB at h2
  unfold chkTypeB at h3
  simp only [decide_eq_true_eq, Bool.and_eq_true] at h2 h3
  exact ⟨h2.1, h2.2.1, h2.2.2.1, h2.2.2.2, h3.1, h3.2⟩

/-- '==' of two values. -/
theorem run_eqV (x y : Val) (w : World) : (binOp .eql 40 (.agg #[.int .i64 x.kind, .int .i64 x.n, .string ⟨x.s.toArray⟩]) (.agg #[.int .i64 y.kind, .int .i64 y.n, .string ⟨y.s.toArray⟩])).run Try.prog w = .ok (.bool (decide (x = y))) w := by
  obtain ⟨xk, xn, xs⟩ := x
  obtain ⟨yk, yn, ys⟩ := y
  have h : (decide ((⟨xk, xn, xs⟩ : Val) = ⟨yk, yn, ys⟩)) = (decide (xk = yk) && (decide (xn = yn) && (xs == ys))) := by
    rw [name_beq, Bool.eq_iff_iff]; simp [Val.mk.injEq]
  rw [h, name_beq]
  go_simp
  by_cases h1 : xk = yk <;> by_cases h2 : xn = yn <;> by_cases h3 : xs = ys <;> simp [h1, h2, h3]
theorem nullB_eq (y : Val) : nullB y = decide (y = ⟨0, 0, []⟩) := by
  obtain ⟨yk, yn, ys⟩ := y
  unfold nullB
  rw [Bool.eq_iff_iff]; simp [Val.mk.injEq, and_assoc]

/-- A row in memory. -/
def RowRd (w : World) (a : Option Addr) (n cap : Nat) (r : List Val) : Prop := Rd w a n cap 3 (recC Val.enc r)

theorem valErr_null {cols : List Col} {r : List Val} {i : Nat} {v : Val} {c : Col} (hv : r.getD i default = v) (hc : cols.getD i default = c) (h : nullB v = true) (h2 : c.null = false) : valErr cols r i = 200 := by
  subst hv; subst hc; unfold valErr; rw [h, if_pos rfl, h2, if_neg (by decide)]
theorem valErr_nullOk {cols : List Col} {r : List Val} {i : Nat} {v : Val} {c : Col} (hv : r.getD i default = v) (hc : cols.getD i default = c) (h : nullB v = true) (h2 : c.null = true) : valErr cols r i = 0 := by
  subst hv; subst hc; unfold valErr; rw [h, if_pos rfl, h2, if_pos rfl]
theorem valErr_type {cols : List Col} {r : List Val} {i : Nat} {v : Val} {c : Col} (hv : r.getD i default = v) (hc : cols.getD i default = c) (h : nullB v = false) (h2 : (validB v && decide (v.kind = c.kind)) = false) : valErr cols r i = 7 := by
  subst hv; subst hc; unfold valErr; rw [h, if_neg (by decide), h2, if_neg (by decide)]
theorem valErr_ok {cols : List Col} {r : List Val} {i : Nat} {v : Val} {c : Col} (hv : r.getD i default = v) (hc : cols.getD i default = c) (h : nullB v = false) (h2 : (validB v && decide (v.kind = c.kind)) = true) : valErr cols r i = 0 := by
  subst hv; subst hc; unfold valErr; rw [h, if_neg (by decide), h2, if_pos rfl]
theorem holdErr_no {chks : List Chk} {r : List Val} {i : Nat} {x : Chk} {v : Val} (hx : chks.getD i default = x) (hv : r.getD x.col.toNat default = v) (h : v.kind ≠ 0) (h2 : holdsB x.op (cmpV v x.val) = false) : holdErr chks r i = 201 := by
  subst hx; subst hv; unfold holdErr; rw [decide_eq_true h, h2]; rfl
theorem holdErr_null {chks : List Chk} {r : List Val} {i : Nat} {x : Chk} {v : Val} (hx : chks.getD i default = x) (hv : r.getD x.col.toNat default = v) (h : v.kind = 0) : holdErr chks r i = 0 := by
  subst hx; subst hv; unfold holdErr; rw [decide_eq_false (by simpa using h), if_neg (by simp)]
theorem holdErr_ok {chks : List Chk} {r : List Val} {i : Nat} {x : Chk} {v : Val} (hx : chks.getD i default = x) (hv : r.getD x.col.toNat default = v) (h2 : holdsB x.op (cmpV v x.val) = true) : holdErr chks r i = 0 := by
  subst hx; subst hv; unfold holdErr; rw [h2, if_neg (by simp)]
end Go.Proofs.Ytgimkipekoabbaa
