/-
  Chapter 20: compare, writer, the words of a table, Clone. No condition.
-/
import Derived.Test.YtpgdfhncigmmbaaA20
import Derived.RangeFuncNested
import Derived.RangeFuncBound
import Derived.RangeFuncCalls
import Derived.RangeFuncLeaves
import Derived.RangeFuncWrites
import Derived.Shelf.Abstract
import Derived.Shelf.RegionOpen
import Derived.OwnWalkIn
import Derived.TacticsInMore
import Derived.LoopNIn
import Derived.LoopIn
import Derived.Test.YtpgdfhncigmmbaaB20
import Derived.Lib.SliceRun
/-
  The walk of compare. No condition.
-/
namespace Go.Proofs.Ytpgdfhncigmmbaa
open Go.RowKit

theorem cmpV_or (x y : Val) : orI (cmpI x.n y.n) (cmpS x.s y.s) = cmpV x y := by
  unfold orI cmpI cmpV
  by_cases h : x.n < y.n
  · simp [h]
  · by_cases h2 : y.n < x.n
    · simp [h, h2]
    · simp [h, h2]

theorem nm_cmpI : (Try.f71.name == "runtime.NumGoroutine") = false := by kernel_rfl
theorem bd_cmpI : Try.f71.body.isNone = false := by kernel_rfl
theorem nm_cmpS : (Try.f78.name == "runtime.NumGoroutine") = false := by kernel_rfl
theorem bd_cmpS : Try.f78.body.isNone = false := by kernel_rfl
theorem nm_or : (Try.f70.name == "runtime.NumGoroutine") = false := by kernel_rfl
theorem bd_or : Try.f70.body.isNone = false := by kernel_rfl
theorem sl_int : SlT Try.prog 29 3 (.int .i64 0) 1 8 := ⟨by kernel_rfl, by kernel_rfl, rfl⟩

set_option maxRecDepth 20000 in
set_option maxHeartbeats 2000000 in
theorem compare_any (x y : Val) (w : World) : Calls Try.prog 57 #[x.v, y.v] w fun e w' => e = .returned (.int .i64 (cmpV x y)) ∧ Below w.heap.size w w' := by
  have HV := Box.mk (cmpV_or x y)
  obtain ⟨kx, nx, sx⟩ := x
  obtain ⟨ky, ny, sy⟩ := y
  have HI := Box.mk (fun w => cmpI_any nx ny w)
  have HS := Box.mk (fun w => cmpS_any sx sy w)
  have HO := Box.mk (fun (w : World) (g : Nat) (hb : Blk w g 3 [.int .i64 (cmpI nx ny), .int .i64 (cmpS sx sy)]) => or_any (cmpI nx ny) (cmpS sx sy) w g hb)
  rw [← HV.out]
  clear HV
  show Calls _ _ _ _ fun e w' => e = .returned (.int .i64 (orI (cmpI nx ny) (cmpS sx sy))) ∧ Below w.heap.size w w'
  generalize cmpI nx ny = p at *
  generalize cmpS sx sy = q at *
  generalize orI p q = r at *
  unfold Val.v
  have b1 := (Blk.new (w := w) (k := w.heap.size) (ty := 59) (cs := [.int .i64 kx, .int .i64 nx, .string ⟨sx.toArray⟩]) rfl rfl).alloc (.cells #[.int .i64 ky, .int .i64 ny, .string ⟨sy.toArray⟩] 59)
  have b2 := Blk.new (w := w.alloc (.cells #[.int .i64 kx, .int .i64 nx, .string ⟨sx.toArray⟩] 59)) (k := w.heap.size + 1) (ty := 59) (cs := [.int .i64 ky, .int .i64 ny, .string ⟨sy.toArray⟩]) (by simp) rfl
  have B2 := ((Below.refl w.heap.size w).alloc (Nat.le_refl _) (.cells #[.int .i64 kx, .int .i64 nx, .string ⟨sx.toArray⟩] 59)).alloc (by simp) (.cells #[.int .i64 ky, .int .i64 ny, .string ⟨sy.toArray⟩] 59)
  have HS0 : Blk (World.drew _) w.heap.size 59 [.int .i64 kx, .int .i64 nx, .string ⟨sx.toArray⟩] ∧ Blk (World.drew _) (w.heap.size + 1) 59 [.int .i64 ky, .int .i64 ny, .string ⟨sy.toArray⟩] ∧ Below w.heap.size w (World.drew _) := ⟨b1.drew, b2.drew, B2.drew⟩
  clear b1 b2
  go_enter Try.func57, Try.ntmps57
  go_wp2_with fail
  refine wp_region_held_drew (S := fun w' => Blk w' w.heap.size 59 [.int .i64 kx, .int .i64 nx, .string ⟨sx.toArray⟩] ∧ Blk w' (w.heap.size + 1) 59 [.int .i64 ky, .int .i64 ny, .string ⟨sy.toArray⟩] ∧ Below w.heap.size w w') (by kernel_rfl) HS0 (fun _ => ?_)
  refine wpAnyH_take (i := 0) (v := ?_) rfl (by kernel_rfl) (by kernel_rfl) (by kernel_rfl) (fun _ _ _ h => h) (yieldsIf_val (by rfl) (fun w' hS => ?_)) HS0 ?_
  rotate_left
  · skip
    go_simp
    all_goals with_reducible rfl
  conv =>
    arg 8
    simp [go_sem]
  refine wpAnyH_take (i := 1) (v := ?_) rfl (by kernel_rfl) (by kernel_rfl) (by kernel_rfl) (fun _ _ _ h => h) (yieldsIf_val (by rfl) (fun w' hS => ?_)) HS0 ?_
  rotate_left
  · skip
    have e := hS.1.cellOf (i := 1) rfl
    go_simp
    all_goals with_reducible rfl
  conv =>
    arg 8
    simp [go_sem]
  refine wpAnyH_take (i := 2) (v := ?_) rfl (by kernel_rfl) (by kernel_rfl) (by kernel_rfl) (fun _ _ _ h => h) (yieldsIf_val (by rfl) (fun w' hS => ?_)) HS0 ?_
  rotate_left
  · skip
    go_simp
    all_goals with_reducible rfl
  conv =>
    arg 8
    simp [go_sem]
  refine wpAnyH_take (i := 3) (v := ?_) rfl (by kernel_rfl) (by kernel_rfl) (by kernel_rfl) (fun _ _ _ h => h) (yieldsIf_val (by rfl) (fun w' hS => ?_)) HS0 ?_
  rotate_left
  · skip
    have e := hS.2.1.cellOf (i := 1) rfl
    go_simp
    all_goals with_reducible rfl
  conv =>
    arg 8
    simp [go_sem]
  refine wpAnyH_take (i := 5) (v := ?_) rfl (by kernel_rfl) (by kernel_rfl) (by kernel_rfl) (fun _ _ _ h => h) (yieldsIf_val (by rfl) (fun w' hS => ?_)) HS0 ?_
  rotate_left
  · skip
    go_simp
    all_goals with_reducible rfl
  conv =>
    arg 8
    simp [go_sem]
  refine wpAnyH_take (i := 6) (v := ?_) rfl (by kernel_rfl) (by kernel_rfl) (by kernel_rfl) (fun _ _ _ h => h) (yieldsIf_val (by rfl) (fun w' hS => ?_)) HS0 ?_
  rotate_left
  · skip
    have e := hS.1.cellOf (i := 2) rfl
    go_simp
    all_goals with_reducible rfl
  conv =>
    arg 8
    simp [go_sem]
  refine wpAnyH_take (i := 7) (v := ?_) rfl (by kernel_rfl) (by kernel_rfl) (by kernel_rfl) (fun _ _ _ h => h) (yieldsIf_val (by rfl) (fun w' hS => ?_)) HS0 ?_
  rotate_left
  · skip
    go_simp
    all_goals with_reducible rfl
  conv =>
    arg 8
    simp [go_sem]
  refine wpAnyH_take (i := 8) (v := ?_) rfl (by kernel_rfl) (by kernel_rfl) (by kernel_rfl) (fun _ _ _ h => h) (yieldsIf_val (by rfl) (fun w' hS => ?_)) HS0 ?_
  rotate_left
  · skip
    have e := hS.2.1.cellOf (i := 2) rfl
    go_simp
    all_goals with_reducible rfl
  conv =>
    arg 8
    simp [go_sem]
  conv =>
    arg 8
    simp [go_sem]
  refine wpAnyH_ready (rs := [4]) (by kernel_rfl) (by simp) (AllReadyH.cons rfl (fun K' hK' => oper_call (by rfl) 71 [.tmp 6, .tmp 8] #[3, 3] rfl (vs := [.int .i64 nx, .int .i64 ny]) rfl Try.func71 nm_cmpI bd_cmpI (HI.out _) ?_) AllReadyH.nil)
  rintro e w5 ⟨rfl, rfl⟩
  have HS1 := HS0
  refine ⟨_, rfl, hK'.out _ _ HS1 (fun _ => ?_)⟩
  clear hK' K'
  conv =>
    arg 8
    simp [go_sem]
  conv =>
    arg 8
    simp [go_sem]
  refine wpAnyH_ready (rs := [9]) (by kernel_rfl) (by simp) (AllReadyH.cons rfl (fun K' hK' => oper_call (by rfl) 78 [.tmp 11, .tmp 13] #[9, 9] rfl (vs := [.string ⟨sx.toArray⟩, .string ⟨sy.toArray⟩]) rfl Try.func78 nm_cmpS bd_cmpS (HS.out _) ?_) AllReadyH.nil)
  rintro e w6 ⟨rfl, rfl⟩
  have HS2 := HS1
  refine ⟨_, rfl, hK'.out _ _ HS2 (fun _ => ?_)⟩
  clear hK' K'
  conv =>
    arg 8
    simp [go_sem]
  refine wpAnyH_ready (rs := [10]) (by kernel_rfl) (by simp) (AllReadyH.cons rfl (fun K' hK' => oper_lit2 (by rfl) 29 (.tmp 9) (.tmp 14) rfl sl_int (v := .int .i64 p) (u := .int .i64 q) rfl rfl ?_) AllReadyH.nil)
  have HS3 := And.intro (HS2.1.alloc (.cells #[.int .i64 p, .int .i64 q] 3)) (And.intro (HS2.2.1.alloc (.cells #[.int .i64 p, .int .i64 q] 3)) (HS2.2.2.alloc HS2.2.2.size (.cells #[.int .i64 p, .int .i64 q] 3)))
  refine hK'.out _ _ HS3 (fun _ => ?_)
  clear hK' K'
  conv =>
    arg 8
    simp [go_sem]
  refine wpAnyH_ready (rs := [11]) (by kernel_rfl) (by simp) (AllReadyH.cons rfl (fun K' hK' => oper_call (by rfl) 70 [.tmp 15] #[29] rfl (vs := [.slice (some ⟨_, 0, none⟩) 2 2]) rfl Try.func70 nm_or bd_or (HO.out _ _ (Blk.new (by simp) rfl)) ?_) AllReadyH.nil)
  rintro e w7 ⟨rfl, rfl⟩
  have HS4 := HS3
  refine ⟨_, rfl, hK'.out _ _ HS4 (fun _ => ?_)⟩
  clear hK' K'
  conv =>
    arg 8
    simp [go_sem]
  refine wpAnyH_take (i := 12) (v := ?_) rfl (by kernel_rfl) (by kernel_rfl) (by kernel_rfl) (fun _ _ _ h => h) (yieldsIf_val (by rfl) (fun w' hS => ?_)) HS4 ?_
  rotate_left
  · skip
    go_simp
    all_goals with_reducible rfl
  refine ⟨by kernel_rfl, ?_⟩
  conv =>
    arg 5
    simp [go_sem]
  go_wp2_with fail
  go_ret
  exact ⟨rfl, HS4.2.2⟩
end Go.Proofs.Ytpgdfhncigmmbaa

/-
  The walk of writer.add. No condition.
-/
namespace Go.Proofs.Ytpgdfhncigmmbaa
open Go.RowKit

end Go.Proofs.Ytpgdfhncigmmbaa

/-
  Plain mathematics of chapter 20: the words of a text. No condition.
-/
namespace Go.Proofs.Ytpgdfhncigmmbaa
open Go.RowKit

/-- The word of the first i bytes from 5 k on. -/
def wordTo (l : List UInt8) (k : Nat) : Nat → Nat
  | 0 => 0
  | i + 1 => wordTo l k i * 256 + (l.getD (5 * k + i) 0).toNat
def wordAt (l : List UInt8) (k : Nat) : Int := (wordTo l k 5 : Nat)
/-- How many words a text has. -/
def nWords (n : Nat) : Nat := (n + 4) / 5
def textUp (l : List UInt8) (k : Nat) : List Int := (List.range k).map (wordAt l)
def textW (l : List UInt8) : List Int := textUp l (nWords l.length)
theorem textUp_succ (l : List UInt8) (k : Nat) : textUp l (k + 1) = textUp l k ++ [wordAt l k] := by simp [textUp, List.range_succ]
theorem textUp_length (l : List UInt8) (k : Nat) : (textUp l k).length = k := by simp [textUp]
theorem wordTo_lt (l : List UInt8) (k i : Nat) : wordTo l k i < 256 ^ i := by
  induction i with
  | zero => simp [wordTo]
  | succ i ih =>
    have := (l.getD (5 * k + i) 0).toNat_lt
    unfold wordTo
    rw [Nat.pow_succ]
    omega
theorem wordTo_lt5 (l : List UInt8) (k i : Nat) (hi : i < 5) : wordTo l k i < 4294967296 := by
  have h := wordTo_lt l k i
  have h2 : 256 ^ i ≤ 256 ^ 4 := Nat.pow_le_pow_right (by omega) (by omega)
  omega
theorem nWords_lt {n k : Nat} (h : k < nWords n) : 5 * k < n := by unfold nWords at h; omega
theorem nWords_le {n k : Nat} (h : ¬ 5 * k < n) (h2 : k ≤ nWords n) : k = nWords n := by unfold nWords at h2 ⊢; omega
theorem lt_nWords {n k : Nat} (h : 5 * k < n) : k < nWords n := by unfold nWords; omega

theorem i64_or_nat (p x : Nat) (hp : p < 9223372036854775808) (hx : x < 9223372036854775808) : bits .or .i64 (p : Int) (x : Int) = ((p ||| x : Nat) : Int) := by
  show IntKind.i64.wrap ((BitVec.ofInt 64 (p : Int) ||| BitVec.ofInt 64 (x : Int)).toNat : Int) = _
  have h1 : (BitVec.ofInt 64 (p : Int)).toNat = p := by rw [BitVec.toNat_ofInt]; omega
  have h2 : (BitVec.ofInt 64 (x : Int)).toNat = x := by rw [BitVec.toNat_ofInt]; omega
  have h3 : p ||| x < 2 ^ 63 := Nat.or_lt_two_pow hp hx
  rw [BitVec.toNat_or, h1, h2, IntKind.wrap_i64]
  omega
theorem or_low (p x k : Nat) (hx : x < 2 ^ k) : p * 2 ^ k ||| x = p * 2 ^ k + x := by
  have := Nat.two_pow_add_eq_or_of_lt hx p
  rw [Nat.mul_comm] at this
  exact this.symm
/-- 'n << 8 | b'. -/
theorem i64_or_byte (p x : Nat) (hp : p < 4294967296) (hx : x < 256) : bits .or .i64 ((p * 256 : Nat) : Int) (x : Int) = ((p * 256 + x : Nat) : Int) := by
  rw [i64_or_nat _ _ (by omega) (by omega), or_low p x 8 hx]
end Go.Proofs.Ytpgdfhncigmmbaa

/-
  The walks of slices.Chunk and writer.text. No condition.
-/
namespace Go.Proofs.Ytpgdfhncigmmbaa
open Go.RowKit Go.Shelf
attribute [local go_sem] Oper.semAt_some

/-- The chunk k of n bytes at a block's beginning. -/
def chunkV (gs n : Nat) (k : Nat) : Array Value := #[.slice (some ⟨gs, 5 * k, none⟩) (min 5 (n - 5 * k)) (min 5 (n - 5 * k))]
def KeepB (b1 b2 : Nat) (W W' : World) : Prop := W'.heap[b1]? = W.heap[b1]? ∧ W'.heap[b2]? = W.heap[b2]?

end Go.Proofs.Ytpgdfhncigmmbaa

/-
  The walk of writer.text. No condition.
-/
namespace Go.Proofs.Ytpgdfhncigmmbaa
open Go.RowKit Go.Shelf
attribute [local go_sem] Oper.semAt_some

theorem isCells_blk {w : World} {g : Nat} {ty : TypeId} {cs : List Value} (h : Blk w g ty cs) : ∃ o, w.heap[g]? = some o ∧ o.isCells = true := ⟨_, h, rfl⟩
theorem KeepB.refl (b1 b2 : Nat) (W : World) : KeepB b1 b2 W W := ⟨rfl, rfl⟩
theorem KeepB.trans {b1 b2 : Nat} {A B C : World} (h : KeepB b1 b2 A B) (k : KeepB b1 b2 B C) : KeepB b1 b2 A C := ⟨k.1.trans h.1, k.2.trans h.2⟩
theorem KeepB.putObj {b1 b2 : Nat} (W : World) (l : Nat) (o' : Obj) (h1 : l ≠ b1) (h2 : l ≠ b2) : KeepB b1 b2 W (W.putObj l o') :=
  ⟨World.putObj_heap_other (fun e => h1 e.symm), World.putObj_heap_other (fun e => h2 e.symm)⟩
end Go.Proofs.Ytpgdfhncigmmbaa

/-
  Plain mathematics of chapter 20: the words of a table. No condition.
-/
namespace Go.Proofs.Ytpgdfhncigmmbaa
open Go.RowKit

def b2i (b : Bool) : Int := if b then 1 else 0
theorem b2i_le (b : Bool) : 0 ≤ b2i b ∧ b2i b ≤ 1 := by cases b <;> simp [b2i]
/-- The numbers of a list, base 16, the first the lowest. -/
def packI : List Int → Int
  | [] => 0
  | c :: l => c + 16 * packI l
def colH (c : Col) : Int := c.kind + 4 * b2i c.null + 8 * (c.name.length : Int)
def colW (c : Col) : List Int := [colH c] ++ textW c.name
def ixH (x : Ix) : Int := b2i x.uniq + 2 * (x.cols.length : Int) + 32 * (x.name.length : Int)
def ixW (x : Ix) : List Int := [ixH x, packI x.cols] ++ textW x.name
def chkH (x : Chk) : Int := x.col + 16 * x.op
def valW (v : Val) : List Int := if v.kind = 1 then [v.n + 549755813888] else if v.kind = 3 then [v.n] else [(v.s.length : Int)] ++ textW v.s
def chkW (x : Chk) : List Int := [chkH x] ++ valW x.val
def flatW {α : Type} (f : α → List Int) (l : List α) : List Int := (l.map f).flatten
def headW (T : Tab) : Int := (T.cols.length : Int) + 16 * (T.ixs.length : Int) + 256 * (T.chks.length : Int) + 4096 * (T.name.length : Int)
/-- The words of a valid table. -/
def wordsT (T : Tab) : List Int := [headW T] ++ textW T.name ++ flatW colW T.cols ++ flatW ixW T.ixs ++ flatW chkW T.chks

section
variable {α : Type} [Inhabited α]
theorem take_succ_getD (l : List α) (k : Nat) (hk : k < l.length) : l.take (k + 1) = l.take k ++ [l.getD k default] := by
  rw [List.take_succ_eq_append_getElem hk, getD_eq hk]
omit [Inhabited α] in
theorem flatW_append (f : α → List Int) (l m : List α) : flatW f (l ++ m) = flatW f l ++ flatW f m := by simp [flatW]
theorem flatW_succ (f : α → List Int) (l : List α) (k : Nat) (hk : k < l.length) : flatW f (l.take (k + 1)) = flatW f (l.take k) ++ f (l.getD k default) := by
  rw [take_succ_getD l k hk, flatW_append]; simp [flatW]
omit [Inhabited α] in
theorem flatW_zero (f : α → List Int) (l : List α) : flatW f (l.take 0) = [] := by simp [flatW]
omit [Inhabited α] in
theorem flatW_all (f : α → List Int) (l : List α) (k : Nat) (hk : l.length ≤ k) : flatW f (l.take k) = flatW f l := by rw [List.take_of_length_le hk]
theorem flatW_le {f : α → List Int} {l : List α} {c : Nat} (h : ∀ i, i < l.length → (f (l.getD i default)).length ≤ c) (k : Nat) (hk : k ≤ l.length) : (flatW f (l.take k)).length ≤ c * k := by
  induction k with
  | zero => simp [flatW]
  | succ k ih =>
    rw [flatW_succ f l k (by omega), List.length_append]
    have := ih (by omega)
    have := h k (by omega)
    rw [Nat.mul_succ]; omega
end

theorem textW_length (s : List UInt8) : (textW s).length = nWords s.length := textUp_length _ _
theorem nWords_mono {a b : Nat} (h : a ≤ b) : nWords a ≤ nWords b := by unfold nWords; omega

theorem name_len {s : List UInt8} (h : nameB s = true) : 0 < s.length ∧ s.length ≤ 16 := by
  unfold nameB at h
  simp only [Bool.and_eq_true, decide_eq_true_eq] at h
  exact ⟨h.1.1.1.1, h.1.1.1.2⟩
theorem colErr_zero {l : List Col} {i : Nat} (h : colErr l i = 0) : nameB (l.getD i default).name = true ∧ kindB (l.getD i default).kind = true ∧ colTwice l i = false := by
  unfold colErr at h
  split at h
  · cases h
  rename_i h1
  split at h
  · cases h
  rename_i h2
  split at h
  · cases h
  rename_i h3
  exact ⟨by simpa using h1, by simpa using h3, by simpa using h2⟩
theorem ixErr_zero {l : List Ix} {n i : Nat} (h : ixErr l n i = 0) : nameB (l.getD i default).name = true ∧ placesB (l.getD i default).cols n = true ∧ ixTwice l i = false := by
  unfold ixErr at h
  split at h
  · cases h
  rename_i h1
  split at h
  · cases h
  rename_i h2
  split at h
  · cases h
  rename_i h3
  exact ⟨by simpa using h1, by simpa using h3, by simpa using h2⟩
theorem TabOk.col {T : Tab} (h : TabOk T) {i : Nat} (hi : i < T.cols.length) : 0 < (T.cols.getD i default).name.length ∧ (T.cols.getD i default).name.length ≤ 16 ∧ 1 ≤ (T.cols.getD i default).kind ∧ (T.cols.getD i default).kind ≤ 3 := by
  obtain ⟨h1, h2, _⟩ := colErr_zero (firstE_eq_zero h.colsE i hi)
  unfold kindB at h2
  simp only [decide_eq_true_eq] at h2
  exact ⟨(name_len h1).1, (name_len h1).2, h2.1, h2.2⟩
theorem TabOk.ix {T : Tab} (h : TabOk T) {i : Nat} (hi : i < T.ixs.length) : 0 < (T.ixs.getD i default).name.length ∧ (T.ixs.getD i default).name.length ≤ 16 ∧ 0 < (T.ixs.getD i default).cols.length ∧ (T.ixs.getD i default).cols.length ≤ 8 ∧ ∀ k, k < (T.ixs.getD i default).cols.length → 0 ≤ (T.ixs.getD i default).cols.getD k 0 ∧ (T.ixs.getD i default).cols.getD k 0 < 8 := by
  obtain ⟨h1, h2, _⟩ := ixErr_zero (firstE_eq_zero h.ixsE i hi)
  obtain ⟨h3, h4, _⟩ := placesB_true h2
  have h5 := placesB_le h2
  have h6 := h.cols8
  refine ⟨(name_len h1).1, (name_len h1).2, h3, by omega, fun k hk => ?_⟩
  have := h4 _ (List.getElem_mem hk)
  rw [List.getD_eq_getElem?_getD, List.getElem?_eq_getElem hk]
  simp only [Option.getD_some]
  omega
theorem valid_len {v : Val} (h : validB v = true) : v.s.length ≤ 40 ∧ (v.kind = 1 → -549755813888 ≤ v.n ∧ v.n ≤ 549755813887) ∧ (v.kind = 3 → 0 ≤ v.n ∧ v.n ≤ 1) := by
  unfold validB at h
  split at h
  · rename_i hk
    simp only [Bool.and_eq_true, decide_eq_true_eq, List.isEmpty_iff] at h
    rw [h.1.1]
    exact ⟨by simp, fun _ => ⟨h.1.2, h.2⟩, fun h3 => by omega⟩
  rename_i hk1
  split at h
  · rename_i hk
    simp only [Bool.and_eq_true, decide_eq_true_eq, List.isEmpty_iff] at h
    rw [h.1]
    exact ⟨by simp, fun h3 => by omega, fun _ => by rcases h.2 with h | h <;> omega⟩
  rename_i hk3
  split at h
  · simp only [Bool.and_eq_true, decide_eq_true_eq] at h
    exact ⟨h.2, fun h3 => absurd h3 hk1, fun h3 => absurd h3 hk3⟩
  · cases h
theorem TabOk.name16 {T : Tab} (h : TabOk T) : 0 < T.name.length ∧ T.name.length ≤ 16 := name_len h.name

theorem colW_le {T : Tab} (h : TabOk T) (i : Nat) (hi : i < T.cols.length) : (colW (T.cols.getD i default)).length ≤ 5 := by
  have := (h.col hi).2.1
  unfold colW; rw [List.length_append, textW_length]; unfold nWords; simp only [List.length_singleton]; omega
theorem ixW_le {T : Tab} (h : TabOk T) (i : Nat) (hi : i < T.ixs.length) : (ixW (T.ixs.getD i default)).length ≤ 6 := by
  have := (h.ix hi).2.1
  unfold ixW; rw [List.length_append, textW_length]; unfold nWords; simp only [List.length_cons, List.length_nil]; omega
theorem valW_le {v : Val} (h : validB v = true) : (valW v).length ≤ 9 := by
  have := (valid_len h).1
  unfold valW
  split
  · simp
  split
  · simp
  rw [List.length_append, textW_length]; unfold nWords; simp only [List.length_singleton]; omega
theorem chkW_le {T : Tab} (h : TabOk T) (i : Nat) (hi : i < T.chks.length) : (chkW (T.chks.getD i default)).length ≤ 10 := by
  have := valW_le (h.chk hi).2.2.2.2.1
  unfold chkW; rw [List.length_append]; simp only [List.length_singleton]; omega

/-- 'a | b << k' where a has k bits. -/
theorem or_mul (a b : Int) (k : Nat) (m : Int) (hm : m = ((2 ^ k : Nat) : Int)) (ha : 0 ≤ a) (ha2 : a < m) (hb : 0 ≤ b) (hb2 : b * m < 9223372036854775808) (ham : m < 9223372036854775808) : bits .or .i64 a (b * m) = a + b * m := by
  obtain ⟨x, rfl⟩ := Int.eq_ofNat_of_zero_le ha
  obtain ⟨y, rfl⟩ := Int.eq_ofNat_of_zero_le hb
  subst hm
  rw [show ((y : Int) * ((2 ^ k : Nat) : Int)) = ((y * 2 ^ k : Nat) : Int) from by simp] at hb2 ⊢
  rw [i64_or_nat x (y * 2 ^ k) (by omega) (by omega), Nat.or_comm, or_low y x k (by omega)]
  omega

theorem packI_append (l m : List Int) : packI (l ++ m) = packI l + ((16 ^ l.length : Nat) : Int) * packI m := by
  induction l with
  | nil => simp [packI]
  | cons c l ih =>
    rw [List.cons_append, packI, ih, packI, List.length_cons, Nat.pow_succ, Int.mul_add, Int.natCast_mul, Int.mul_comm ((16 ^ l.length : Nat) : Int) ((16 : Nat) : Int), Int.mul_assoc]
    simp [Int.add_assoc]
theorem packI_succ (l : List Int) (k : Nat) (hk : k < l.length) : packI (l.take (k + 1)) = packI (l.take k) + l.getD k 0 * ((16 ^ k : Nat) : Int) := by
  rw [List.take_succ_eq_append_getElem hk, packI_append, List.length_take, Nat.min_eq_left (by omega)]
  rw [List.getD_eq_getElem?_getD, List.getElem?_eq_getElem hk]
  simp [packI, Int.mul_comm]
theorem packI_lt {l : List Int} (h : ∀ k, k < l.length → 0 ≤ l.getD k 0 ∧ l.getD k 0 < 8) (k : Nat) (hk : k ≤ l.length) : 0 ≤ packI (l.take k) ∧ packI (l.take k) < ((16 ^ k : Nat) : Int) := by
  induction k with
  | zero => simp [packI]
  | succ k ih =>
    obtain ⟨h1, h2⟩ := ih (by omega)
    obtain ⟨h3, h4⟩ := h k (by omega)
    rw [packI_succ l k (by omega), Nat.pow_succ]
    have h5 : 0 ≤ l.getD k 0 * ((16 ^ k : Nat) : Int) := Int.mul_nonneg h3 (by omega)
    have h6 : l.getD k 0 * ((16 ^ k : Nat) : Int) ≤ 7 * ((16 ^ k : Nat) : Int) := Int.mul_le_mul_of_nonneg_right (by omega) (by omega)
    rw [Int.natCast_mul]
    omega
theorem packI_drop (l : List Int) (k : Nat) (hk : k < l.length) : packI (l.drop k) = packI (l.drop (k + 1)) * 16 + l.getD k 0 := by
  rw [List.drop_eq_getElem_cons hk, packI, List.getD_eq_getElem?_getD, List.getElem?_eq_getElem hk]
  simp; omega
end Go.Proofs.Ytpgdfhncigmmbaa

/-
  The walks of slices.Clone. No condition.
-/
namespace Go.Proofs.Ytpgdfhncigmmbaa
open Go.RowKit

theorem sl_row : SlT Try.prog 28 59 (.agg #[.int .i64 0, .int .i64 0, .string ⟨#[]⟩]) 3 32 := ⟨by kernel_rfl, by kernel_rfl, rfl⟩
theorem sl_cols : SlT Try.prog 22 55 (.agg #[.string ⟨#[]⟩, .int .i64 0, .bool false]) 3 32 := ⟨by kernel_rfl, by kernel_rfl, rfl⟩
theorem sl_ixs : SlT Try.prog 23 91 (.agg #[.string ⟨#[]⟩, .slice none 0 0, .bool false]) 3 48 := ⟨by kernel_rfl, by kernel_rfl, rfl⟩
theorem sl_chks : SlT Try.prog 24 86 (.agg #[.int .i64 0, .int .i64 0, .int .i64 0, .int .i64 0, .string ⟨#[]⟩]) 5 48 := ⟨by kernel_rfl, by kernel_rfl, rfl⟩

/-- What a function returns that makes a slice of its own. -/
def RetOwn (ty : TypeId) (size n : Nat) (xs : List Value) (w : World) (e : Ending) (w' : World) : Prop := Below w.heap.size w w' ∧ ∃ a cap, e = .returned (.slice a n cap) ∧ w'.ownsRow w.heap.size ty size (.slice a n cap) n xs

set_option maxRecDepth 20000 in
set_option maxHeartbeats 1000000 in
theorem clone_row (xs : List Value) (a : Option Addr) (n cap : Nat) (w : World) (hrd : Rd w a n cap 3 xs) (h1 : ∀ u ∈ xs, u.oneCell' = true) (hn : n ≤ 1000000) : Calls Try.prog 51 #[.slice a n cap] w (RetOwn 59 3 n xs w) := by
  have SRC := Box.mk (Src.ofRd (P := Try.prog) (hrd.alloc (.cells #[] 59)) h1)
  have B0 : Blk (w.alloc (.cells #[] 59)) w.heap.size 59 [] := Blk.new rfl rfl
  have HO := Box.mk (own_new (base := w.heap.size) (n := 0) (size := 3) B0 (Nat.le_refl _) rfl (by decide))
  cases a with
  | none =>
    have hx := hrd.hnil rfl
    have hl := hrd.hlen
    rw [hx] at hl
    obtain rfl : n = 0 := by simp at hl; omega
    subst hx
    clear hl hrd h1 SRC B0 HO
    have hq := fun w => Lib.run_eql_slice_nil (P := Try.prog) w 28 59 none 0 cap 0 0 sl_row.ht
    go_enter Try.func51, Try.ntmps51
    go_wp2_with fail
    go_ret
    exact ⟨Below.refl _ _, none, 0, rfl, World.ownsRow_nil _ _ _ _⟩
  | some ad =>
    clear hrd h1 B0
    have hq := fun w => Lib.run_eql_slice_nil (P := Try.prog) w 28 59 (some ad) n cap 0 0 sl_row.ht
    go_enter Try.func51, Try.ntmps51
    go_wp2_with (at_builtin; refine wpList_append_src rfl _ _ 28 28 rfl sl_row (.inl sl_row.ht) rfl HO.out rfl SRC.out (by omega) (by unfold maxLen; omega) (by simp) ?_; intro a3 c3 w3 hown3 hgr3 _)
    go_ret
    rw [List.nil_append, Nat.zero_add] at hown3
    exact ⟨below_grown ((Below.refl _ _).alloc (Nat.le_refl _) _) hgr3 HO.out (Nat.le_refl _) (by simp), a3, c3, rfl, hown3⟩

set_option maxRecDepth 20000 in
set_option maxHeartbeats 1000000 in
theorem clone_cols (xs : List Value) (a : Option Addr) (n cap : Nat) (w : World) (hrd : Rd w a n cap 3 xs) (h1 : ∀ u ∈ xs, u.oneCell' = true) (hn : n ≤ 1000000) : Calls Try.prog 79 #[.slice a n cap] w (RetOwn 55 3 n xs w) := by
  have SRC := Box.mk (Src.ofRd (P := Try.prog) (hrd.alloc (.cells #[] 55)) h1)
  have B0 : Blk (w.alloc (.cells #[] 55)) w.heap.size 55 [] := Blk.new rfl rfl
  have HO := Box.mk (own_new (base := w.heap.size) (n := 0) (size := 3) B0 (Nat.le_refl _) rfl (by decide))
  cases a with
  | none =>
    have hx := hrd.hnil rfl
    have hl := hrd.hlen
    rw [hx] at hl
    obtain rfl : n = 0 := by simp at hl; omega
    subst hx
    clear hl hrd h1 SRC B0 HO
    have hq := fun w => Lib.run_eql_slice_nil (P := Try.prog) w 22 55 none 0 cap 0 0 sl_cols.ht
    go_enter Try.func79, Try.ntmps79
    go_wp2_with fail
    go_ret
    exact ⟨Below.refl _ _, none, 0, rfl, World.ownsRow_nil _ _ _ _⟩
  | some ad =>
    clear hrd h1 B0
    have hq := fun w => Lib.run_eql_slice_nil (P := Try.prog) w 22 55 (some ad) n cap 0 0 sl_cols.ht
    go_enter Try.func79, Try.ntmps79
    go_wp2_with (at_builtin; refine wpList_append_src rfl _ _ 22 22 rfl sl_cols (.inl sl_cols.ht) rfl HO.out rfl SRC.out (by omega) (by unfold maxLen; omega) (by simp) ?_; intro a3 c3 w3 hown3 hgr3 _)
    go_ret
    rw [List.nil_append, Nat.zero_add] at hown3
    exact ⟨below_grown ((Below.refl _ _).alloc (Nat.le_refl _) _) hgr3 HO.out (Nat.le_refl _) (by simp), a3, c3, rfl, hown3⟩

set_option maxRecDepth 20000 in
set_option maxHeartbeats 1000000 in
theorem clone_ixs (xs : List Value) (a : Option Addr) (n cap : Nat) (w : World) (hrd : Rd w a n cap 3 xs) (h1 : ∀ u ∈ xs, u.oneCell' = true) (hn : n ≤ 1000000) : Calls Try.prog 81 #[.slice a n cap] w (RetOwn 91 3 n xs w) := by
  have SRC := Box.mk (Src.ofRd (P := Try.prog) (hrd.alloc (.cells #[] 91)) h1)
  have B0 : Blk (w.alloc (.cells #[] 91)) w.heap.size 91 [] := Blk.new rfl rfl
  have HO := Box.mk (own_new (base := w.heap.size) (n := 0) (size := 3) B0 (Nat.le_refl _) rfl (by decide))
  cases a with
  | none =>
    have hx := hrd.hnil rfl
    have hl := hrd.hlen
    rw [hx] at hl
    obtain rfl : n = 0 := by simp at hl; omega
    subst hx
    clear hl hrd h1 SRC B0 HO
    have hq := fun w => Lib.run_eql_slice_nil (P := Try.prog) w 23 91 none 0 cap 0 0 sl_ixs.ht
    go_enter Try.func81, Try.ntmps81
    go_wp2_with fail
    go_ret
    exact ⟨Below.refl _ _, none, 0, rfl, World.ownsRow_nil _ _ _ _⟩
  | some ad =>
    clear hrd h1 B0
    have hq := fun w => Lib.run_eql_slice_nil (P := Try.prog) w 23 91 (some ad) n cap 0 0 sl_ixs.ht
    go_enter Try.func81, Try.ntmps81
    go_wp2_with (at_builtin; refine wpList_append_src rfl _ _ 23 23 rfl sl_ixs (.inl sl_ixs.ht) rfl HO.out rfl SRC.out (by omega) (by unfold maxLen; omega) (by simp) ?_; intro a3 c3 w3 hown3 hgr3 _)
    go_ret
    rw [List.nil_append, Nat.zero_add] at hown3
    exact ⟨below_grown ((Below.refl _ _).alloc (Nat.le_refl _) _) hgr3 HO.out (Nat.le_refl _) (by simp), a3, c3, rfl, hown3⟩

set_option maxRecDepth 20000 in
set_option maxHeartbeats 1000000 in
theorem clone_chks (xs : List Value) (a : Option Addr) (n cap : Nat) (w : World) (hrd : Rd w a n cap 5 xs) (h1 : ∀ u ∈ xs, u.oneCell' = true) (hn : n ≤ 1000000) : Calls Try.prog 80 #[.slice a n cap] w (RetOwn 86 5 n xs w) := by
  have SRC := Box.mk (Src.ofRd (P := Try.prog) (hrd.alloc (.cells #[] 86)) h1)
  have B0 : Blk (w.alloc (.cells #[] 86)) w.heap.size 86 [] := Blk.new rfl rfl
  have HO := Box.mk (own_new (base := w.heap.size) (n := 0) (size := 5) B0 (Nat.le_refl _) rfl (by decide))
  cases a with
  | none =>
    have hx := hrd.hnil rfl
    have hl := hrd.hlen
    rw [hx] at hl
    obtain rfl : n = 0 := by simp at hl; omega
    subst hx
    clear hl hrd h1 SRC B0 HO
    have hq := fun w => Lib.run_eql_slice_nil (P := Try.prog) w 24 86 none 0 cap 0 0 sl_chks.ht
    go_enter Try.func80, Try.ntmps80
    go_wp2_with fail
    go_ret
    exact ⟨Below.refl _ _, none, 0, rfl, World.ownsRow_nil _ _ _ _⟩
  | some ad =>
    clear hrd h1 B0
    have hq := fun w => Lib.run_eql_slice_nil (P := Try.prog) w 24 86 (some ad) n cap 0 0 sl_chks.ht
    go_enter Try.func80, Try.ntmps80
    go_wp2_with (at_builtin; refine wpList_append_src rfl _ _ 24 24 rfl sl_chks (.inl sl_chks.ht) rfl HO.out rfl SRC.out (by omega) (by unfold maxLen; omega) (by simp) ?_; intro a3 c3 w3 hown3 hgr3 _)
    go_ret
    rw [List.nil_append, Nat.zero_add] at hown3
    exact ⟨below_grown ((Below.refl _ _).alloc (Nat.le_refl _) _) hgr3 HO.out (Nat.le_refl _) (by simp), a3, c3, rfl, hown3⟩

set_option maxRecDepth 20000 in
set_option maxHeartbeats 1000000 in
theorem clone_ints (xs : List Value) (a : Option Addr) (n cap : Nat) (w : World) (hrd : Rd w a n cap 1 xs) (h1 : ∀ u ∈ xs, u.oneCell' = true) (hn : n ≤ 1000000) : Calls Try.prog 82 #[.slice a n cap] w (RetOwn 3 1 n xs w) := by
  have SRC := Box.mk (Src.ofRd (P := Try.prog) (hrd.alloc (.cells #[] 3)) h1)
  have B0 : Blk (w.alloc (.cells #[] 3)) w.heap.size 3 [] := Blk.new rfl rfl
  have HO := Box.mk (own_new (base := w.heap.size) (n := 0) (size := 1) B0 (Nat.le_refl _) rfl (by decide))
  cases a with
  | none =>
    have hx := hrd.hnil rfl
    have hl := hrd.hlen
    rw [hx] at hl
    obtain rfl : n = 0 := by simp at hl; omega
    subst hx
    clear hl hrd h1 SRC B0 HO
    have hq := fun w => Lib.run_eql_slice_nil (P := Try.prog) w 29 3 none 0 cap 0 0 sl_int.ht
    go_enter Try.func82, Try.ntmps82
    go_wp2_with fail
    go_ret
    exact ⟨Below.refl _ _, none, 0, rfl, World.ownsRow_nil _ _ _ _⟩
  | some ad =>
    clear hrd h1 B0
    have hq := fun w => Lib.run_eql_slice_nil (P := Try.prog) w 29 3 (some ad) n cap 0 0 sl_int.ht
    go_enter Try.func82, Try.ntmps82
    go_wp2_with (at_builtin; refine wpList_append_src rfl _ _ 29 29 rfl sl_int (.inl sl_int.ht) rfl HO.out rfl SRC.out (by omega) (by unfold maxLen; omega) (by simp) ?_; intro a3 c3 w3 hown3 hgr3 _)
    go_ret
    rw [List.nil_append, Nat.zero_add] at hown3
    exact ⟨below_grown ((Below.refl _ _).alloc (Nat.le_refl _) _) hgr3 HO.out (Nat.le_refl _) (by simp), a3, c3, rfl, hown3⟩

end Go.Proofs.Ytpgdfhncigmmbaa
