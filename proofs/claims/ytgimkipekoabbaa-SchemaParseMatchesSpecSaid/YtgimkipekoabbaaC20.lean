/-
  Chapter 20: compare, writer, the words of a table, Clone. No condition.
-/
import Derived.Test.YtgimkipekoabbaaA20
import Derived.RangeFuncNested
import Derived.RangeFuncBound
import Derived.RangeFuncCalls
import Derived.RangeFuncLeaves
import Derived.RangeFuncWrites
import Derived.Shelf.Abstract
import Derived.Shelf.RegionOpen
import Derived.OwnWalkIn
import Derived.TacticsInMore
import Derived.LoopNIn
import Derived.LoopIn
import Derived.Test.YtgimkipekoabbaaB20
import Derived.Lib.SliceRun
/-
  The walk of compare. No condition.
-/
namespace Go.Proofs.Ytgimkipekoabbaa
open Go.RowKit

theorem cmpV_or (x y : Val) : orI (cmpI x.n y.n) (cmpS x.s y.s) = cmpV x y := by
  unfold orI cmpI cmpV
  by_cases h : x.n < y.n
  · simp [h]
  · by_cases h2 : y.n < x.n
    · simp [h, h2]
    · simp [h, h2]

theorem nm_cmpI : (Try.f86.name == "runtime.NumGoroutine") = false := by kernel_rfl
theorem bd_cmpI : Try.f86.body.isNone = false := by kernel_rfl
theorem nm_cmpS : (Try.f87.name == "runtime.NumGoroutine") = false := by kernel_rfl
theorem bd_cmpS : Try.f87.body.isNone = false := by kernel_rfl
theorem nm_or : (Try.f85.name == "runtime.NumGoroutine") = false := by kernel_rfl
theorem bd_or : Try.f85.body.isNone = false := by kernel_rfl
theorem sl_int : SlT Try.prog 32 3 (.int .i64 0) 1 8 := ⟨by kernel_rfl, by kernel_rfl, rfl⟩

set_option maxRecDepth 20000 in
set_option maxHeartbeats 2000000 in
theorem compare_any (x y : Val) (w : World) : Calls Try.prog 60 #[x.v, y.v] w fun e w' => e = .returned (.int .i64 (cmpV x y)) ∧ Below w.heap.size w w' := by
  have HV := Box.mk (cmpV_or x y)
  obtain ⟨kx, nx, sx⟩ := x
  obtain ⟨ky, ny, sy⟩ := y
  have HI := Box.mk (fun w => cmpI_any nx ny w)
  have HS := Box.mk (fun w => cmpS_any sx sy w)
  have HO := Box.mk (fun (w : World) (g : Nat) (hb : Blk w g 3 [.int .i64 (cmpI nx ny), .int .i64 (cmpS sx sy)]) => or_any (cmpI nx ny) (cmpS sx sy) w g hb)
  rw [← HV.out]
  clear HV
  show Calls _ _ _ _ fun e w' => e = .returned (.int .i64 (orI (cmpI nx ny) (cmpS sx sy))) ∧ Below w.heap.size w w'
  generalize cmpI nx ny = p at *
  generalize cmpS sx sy = q at *
  generalize orI p q = r at *
  unfold Val.v
  have b1 := (Blk.new (w := w) (k := w.heap.size) (ty := 40) (cs := [.int .i64 kx, .int .i64 nx, .string ⟨sx.toArray⟩]) rfl rfl).alloc (.cells #[.int .i64 ky, .int .i64 ny, .string ⟨sy.toArray⟩] 40)
  have b2 := Blk.new (w := w.alloc (.cells #[.int .i64 kx, .int .i64 nx, .string ⟨sx.toArray⟩] 40)) (k := w.heap.size + 1) (ty := 40) (cs := [.int .i64 ky, .int .i64 ny, .string ⟨sy.toArray⟩]) (by simp) rfl
  have B2 := ((Below.refl w.heap.size w).alloc (Nat.le_refl _) (.cells #[.int .i64 kx, .int .i64 nx, .string ⟨sx.toArray⟩] 40)).alloc (by simp) (.cells #[.int .i64 ky, .int .i64 ny, .string ⟨sy.toArray⟩] 40)
  have HS0 : Blk (World.drew _) w.heap.size 40 [.int .i64 kx, .int .i64 nx, .string ⟨sx.toArray⟩] ∧ Blk (World.drew _) (w.heap.size + 1) 40 [.int .i64 ky, .int .i64 ny, .string ⟨sy.toArray⟩] ∧ Below w.heap.size w (World.drew _) := ⟨b1.drew, b2.drew, B2.drew⟩
  clear b1 b2
  go_enter Try.func60, Try.ntmps60
  go_wp2_with fail
  refine wp_region_held_drew (S := fun w' => Blk w' w.heap.size 40 [.int .i64 kx, .int .i64 nx, .string ⟨sx.toArray⟩] ∧ Blk w' (w.heap.size + 1) 40 [.int .i64 ky, .int .i64 ny, .string ⟨sy.toArray⟩] ∧ Below w.heap.size w w') (by kernel_rfl) HS0 (fun _ => ?_)
  refine wpAnyH_take (i := 0) (v := ?_) rfl (by kernel_rfl) (by kernel_rfl) (by kernel_rfl) (fun _ _ _ h => h) (yieldsIf_val (by rfl) (fun w' hS => ?_)) HS0 ?_
  rotate_left
  · skip
    go_simp
    all_goals with_reducible rfl
  conv =>
    arg 8
    simp [go_sem]
  refine wpAnyH_take (i := 1) (v := ?_) rfl (by kernel_rfl) (by kernel_rfl) (by kernel_rfl) (fun _ _ _ h => h) (yieldsIf_val (by rfl) (fun w' hS => ?_)) HS0 ?_
  rotate_left
  · skip
    have e := hS.1.cellOf (i := 1) rfl
    go_simp
    all_goals with_reducible rfl
  conv =>
    arg 8
    simp [go_sem]
  refine wpAnyH_take (i := 2) (v := ?_) rfl (by kernel_rfl) (by kernel_rfl) (by kernel_rfl) (fun _ _ _ h => h) (yieldsIf_val (by rfl) (fun w' hS => ?_)) HS0 ?_
  rotate_left
  · skip
    go_simp
    all_goals with_reducible rfl
  conv =>
    arg 8
    simp [go_sem]
  refine wpAnyH_take (i := 3) (v := ?_) rfl (by kernel_rfl) (by kernel_rfl) (by kernel_rfl) (fun _ _ _ h => h) (yieldsIf_val (by rfl) (fun w' hS => ?_)) HS0 ?_
  rotate_left
  · skip
    have e := hS.2.1.cellOf (i := 1) rfl
    go_simp
    all_goals with_reducible rfl
  conv =>
    arg 8
    simp [go_sem]
  refine wpAnyH_take (i := 5) (v := ?_) rfl (by kernel_rfl) (by kernel_rfl) (by kernel_rfl) (fun _ _ _ h => h) (yieldsIf_val (by rfl) (fun w' hS => ?_)) HS0 ?_
  rotate_left
  · skip
    go_simp
    all_goals with_reducible rfl
  conv =>
    arg 8
    simp [go_sem]
  refine wpAnyH_take (i := 6) (v := ?_) rfl (by kernel_rfl) (by kernel_rfl) (by kernel_rfl) (fun _ _ _ h => h) (yieldsIf_val (by rfl) (fun w' hS => ?_)) HS0 ?_
  rotate_left
  · skip
    have e := hS.1.cellOf (i := 2) rfl
    go_simp
    all_goals with_reducible rfl
  conv =>
    arg 8
    simp [go_sem]
  refine wpAnyH_take (i := 7) (v := ?_) rfl (by kernel_rfl) (by kernel_rfl) (by kernel_rfl) (fun _ _ _ h => h) (yieldsIf_val (by rfl) (fun w' hS => ?_)) HS0 ?_
  rotate_left
  · skip
    go_simp
    all_goals with_reducible rfl
  conv =>
    arg 8
    simp [go_sem]
  refine wpAnyH_take (i := 8) (v := ?_) rfl (by kernel_rfl) (by kernel_rfl) (by kernel_rfl) (fun _ _ _ h => h) (yieldsIf_val (by rfl) (fun w' hS => ?_)) HS0 ?_
  rotate_left
  · skip
    have e := hS.2.1.cellOf (i := 2) rfl
    go_simp
    all_goals with_reducible rfl
  conv =>
    arg 8
    simp [go_sem]
  conv =>
    arg 8
    simp [go_sem]
  refine wpAnyH_ready (rs := [4]) (by kernel_rfl) (by simp) (AllReadyH.cons rfl (fun K' hK' => oper_call (by rfl) 86 [.tmp 6, .tmp 8] #[3, 3] rfl (vs := [.int .i64 nx, .int .i64 ny]) rfl Try.func86 nm_cmpI bd_cmpI (HI.out _) ?_) AllReadyH.nil)
  rintro e w5 ⟨rfl, rfl⟩
  have HS1 := HS0
  refine ⟨_, rfl, hK'.out _ _ HS1 (fun _ => ?_)⟩
  clear hK' K'
  conv =>
    arg 8
    simp [go_sem]
  conv =>
    arg 8
    simp [go_sem]
  refine wpAnyH_ready (rs := [9]) (by kernel_rfl) (by simp) (AllReadyH.cons rfl (fun K' hK' => oper_call (by rfl) 87 [.tmp 11, .tmp 13] #[9, 9] rfl (vs := [.string ⟨sx.toArray⟩, .string ⟨sy.toArray⟩]) rfl Try.func87 nm_cmpS bd_cmpS (HS.out _) ?_) AllReadyH.nil)
  rintro e w6 ⟨rfl, rfl⟩
  have HS2 := HS1
  refine ⟨_, rfl, hK'.out _ _ HS2 (fun _ => ?_)⟩
  clear hK' K'
  conv =>
    arg 8
    simp [go_sem]
  refine wpAnyH_ready (rs := [10]) (by kernel_rfl) (by simp) (AllReadyH.cons rfl (fun K' hK' => oper_lit2 (by rfl) 32 (.tmp 9) (.tmp 14) rfl sl_int (v := .int .i64 p) (u := .int .i64 q) rfl rfl ?_) AllReadyH.nil)
  have HS3 := And.intro (HS2.1.alloc (.cells #[.int .i64 p, .int .i64 q] 3)) (And.intro (HS2.2.1.alloc (.cells #[.int .i64 p, .int .i64 q] 3)) (HS2.2.2.alloc HS2.2.2.size (.cells #[.int .i64 p, .int .i64 q] 3)))
  refine hK'.out _ _ HS3 (fun _ => ?_)
  clear hK' K'
  conv =>
    arg 8
    simp [go_sem]
  refine wpAnyH_ready (rs := [11]) (by kernel_rfl) (by simp) (AllReadyH.cons rfl (fun K' hK' => oper_call (by rfl) 85 [.tmp 15] #[32] rfl (vs := [.slice (some ⟨_, 0, none⟩) 2 2]) rfl Try.func85 nm_or bd_or (HO.out _ _ (Blk.new (by simp) rfl)) ?_) AllReadyH.nil)
  rintro e w7 ⟨rfl, rfl⟩
  have HS4 := HS3
  refine ⟨_, rfl, hK'.out _ _ HS4 (fun _ => ?_)⟩
  clear hK' K'
  conv =>
    arg 8
    simp [go_sem]
  refine wpAnyH_take (i := 12) (v := ?_) rfl (by kernel_rfl) (by kernel_rfl) (by kernel_rfl) (fun _ _ _ h => h) (yieldsIf_val (by rfl) (fun w' hS => ?_)) HS4 ?_
  rotate_left
  · skip
    go_simp
    all_goals with_reducible rfl
  refine ⟨by kernel_rfl, ?_⟩
  conv =>
    arg 5
    simp [go_sem]
  go_wp2_with fail
  go_ret
  exact ⟨rfl, HS4.2.2⟩
end Go.Proofs.Ytgimkipekoabbaa

/-
  The walk of writer.add. No condition.
-/
namespace Go.Proofs.Ytgimkipekoabbaa
open Go.RowKit

/-- A writer that holds the words L, in block g. -/
def WrP (g : Nat) (L : List Int) : HP := fun w F => ∃ a n cap, Blk w g 77 [.slice a n cap] ∧ w.ownsRow 0 3 1 (.slice a n cap) n (intVals L) ∧ (∀ k, (Value.slice a n cap).ownBlock = some k → k ≠ g) ∧ F = g :: (Value.slice a n cap).ownBlock.toList
theorem WrP.stb (g : Nat) (L : List Int) : Stb (WrP g L) := by
  refine ⟨fun w F ⟨a, n, cap, hb, hr, hn, hF⟩ x hx => ?_, fun w w' F ⟨a, n, cap, hb, hr, hn, hF⟩ he => ⟨a, n, cap, hb.eq (he g (by simp [hF])), own_eq hr (fun k hk => he k (by simp [hF, hk])), hn, hF⟩⟩
  subst hF
  rcases List.mem_cons.1 hx with rfl | hx
  · exact hb.lt
  · exact (hr.lt x (by simpa using hx)).2

/-- What a call on a writer leaves. -/
def RetWr (v : Value) (g : Nat) (L : List Int) (F : List Nat) (w : World) (e : Ending) (w' : World) : Prop := e = .returned v ∧ (∃ F', WrP g L w' F' ∧ ∀ x ∈ F', x ∈ F ∨ w.heap.size ≤ x) ∧ But F w w'

set_option maxRecDepth 20000 in
set_option maxHeartbeats 2000000 in
theorem add_but (g : Nat) (L M : List Int) (F : List Nat) (a2 : Option Addr) (m c2 : Nat) (w : World) (h : WrP g L w F) (hr : Rd w a2 m c2 1 (intVals M)) (hs : L.length + M.length ≤ 1000000) :
    Calls Try.prog 53 #[.pointer (some ⟨g, 0, none⟩), .slice a2 m c2] w (RetWr (.tuple #[]) g (L ++ M) F w) := by
  obtain ⟨a, n, cap, hb, hown, hne, hF⟩ := h
  have hm := hr.ilen
  have hn : L.length = n := by have := hown.1; rw [intVals_length] at this; omega
  have c0 := hb.cellOf (i := 0) rfl
  have HB := Box.mk hb
  have HO := Box.mk hown
  have HNE := Box.mk hne
  have HF := Box.mk hF
  have HS := Box.mk (Src.ofRd (P := Try.prog) hr (intVals_one M))
  have HFRE := Box.mk (hb.free 0)
  clear hb hown hne hF hr
  go_enter Try.func53, Try.ntmps53
  go_wp2_with ((with_reducible show wpList _ _ _ _ _ _); refine wpList_append_src (o := ⟨some 10, _, _, _, _, _⟩) rfl (.tmp 8) (.tmp 9) 32 32 rfl sl_int (.inl sl_int.ht) rfl HO.out rfl HS.out (by omega) (by unfold maxLen; omega) (by omega) ?_; intro a3 c3 w3 hown3 hgr3 hnew3; have HB3 := Box.mk (HB.out.eq (hgr3.block g HB.out.lt (fun e => HNE.out g e.symm rfl))); have d0 := HB3.out.cellOf (i := 0) rfl; have f0 := HB3.out.free 0; have HO3 := Box.mk hown3; have HG3 := Box.mk hgr3; have HW3 := Box.mk hnew3; clear hown3 hgr3 hnew3 c0 HFRE)
  go_end0
  have hne3 : ∀ k, (Value.slice a3 (n + m) c3).ownBlock = some k → k ≠ g := fun k hk => by
    cases a3 with
    | none => simp [Value.ownBlock] at hk
    | some ad =>
      simp [Value.ownBlock] at hk
      subst hk
      rcases HW3.out ad rfl with h | h
      · exact HNE.out ad.block (by rw [h]; simp [Value.ownBlock])
      · have := HB.out.lt; omega
  refine ⟨rfl, ⟨g :: (Value.slice a3 (n + m) c3).ownBlock.toList, ⟨a3, n + m, c3, HB3.out.set 0 _, ?_, hne3, rfl⟩, ?_⟩, ?_⟩
  · rw [show intVals (L ++ M) = intVals L ++ intVals M from by simp [intVals]]
    exact own_eq HO3.out (fun k hk => Below.heap_setCell _ _ _ _ (hne3 k hk))
  · intro x hx
    rw [HF.out]
    rcases List.mem_cons.1 hx with rfl | hx
    · exact .inl (by simp)
    · cases a3 with
      | none => simp [Value.ownBlock] at hx
      | some ad =>
        simp [Value.ownBlock] at hx
        subst hx
        rcases HW3.out ad rfl with h | h
        · left; rw [h]; simp [Value.ownBlock]
        · exact .inr h
  · refine ((But.refl F w).grown HG3.out (fun k hk => .inl ?_)).setCell (.inl ?_) _
    · rw [HF.out]; simp [hk]
    · rw [HF.out]; simp
end Go.Proofs.Ytgimkipekoabbaa

/-
  Plain mathematics of chapter 20: the words of a text. No condition.
-/
namespace Go.Proofs.Ytgimkipekoabbaa
open Go.RowKit

/-- The word of the first i bytes from 5 k on. -/
def wordTo (l : List UInt8) (k : Nat) : Nat → Nat
  | 0 => 0
  | i + 1 => wordTo l k i * 256 + (l.getD (5 * k + i) 0).toNat
def wordAt (l : List UInt8) (k : Nat) : Int := (wordTo l k 5 : Nat)
/-- How many words a text has. -/
def nWords (n : Nat) : Nat := (n + 4) / 5
def textUp (l : List UInt8) (k : Nat) : List Int := (List.range k).map (wordAt l)
def textW (l : List UInt8) : List Int := textUp l (nWords l.length)
theorem textUp_succ (l : List UInt8) (k : Nat) : textUp l (k + 1) = textUp l k ++ [wordAt l k] := by simp [textUp, List.range_succ]
theorem textUp_length (l : List UInt8) (k : Nat) : (textUp l k).length = k := by simp [textUp]
theorem wordTo_lt (l : List UInt8) (k i : Nat) : wordTo l k i < 256 ^ i := by
  induction i with
  | zero => simp [wordTo]
  | succ i ih =>
    have := (l.getD (5 * k + i) 0).toNat_lt
    unfold wordTo
    rw [Nat.pow_succ]
    omega
theorem wordTo_lt5 (l : List UInt8) (k i : Nat) (hi : i < 5) : wordTo l k i < 4294967296 := by
  have h := wordTo_lt l k i
  have h2 : 256 ^ i ≤ 256 ^ 4 := Nat.pow_le_pow_right (by omega) (by omega)
  omega
theorem nWords_lt {n k : Nat} (h : k < nWords n) : 5 * k < n := by unfold nWords at h; omega
theorem nWords_le {n k : Nat} (h : ¬ 5 * k < n) (h2 : k ≤ nWords n) : k = nWords n := by unfold nWords at h2 ⊢; omega
theorem lt_nWords {n k : Nat} (h : 5 * k < n) : k < nWords n := by unfold nWords; omega

theorem i64_or_nat (p x : Nat) (hp : p < 9223372036854775808) (hx : x < 9223372036854775808) : bits .or .i64 (p : Int) (x : Int) = ((p ||| x : Nat) : Int) := by
  show IntKind.i64.wrap ((BitVec.ofInt 64 (p : Int) ||| BitVec.ofInt 64 (x : Int)).toNat : Int) = _
  have h1 : (BitVec.ofInt 64 (p : Int)).toNat = p := by rw [BitVec.toNat_ofInt]; omega
  have h2 : (BitVec.ofInt 64 (x : Int)).toNat = x := by rw [BitVec.toNat_ofInt]; omega
  have h3 : p ||| x < 2 ^ 63 := Nat.or_lt_two_pow hp hx
  rw [BitVec.toNat_or, h1, h2, IntKind.wrap_i64]
  omega
theorem or_low (p x k : Nat) (hx : x < 2 ^ k) : p * 2 ^ k ||| x = p * 2 ^ k + x := by
  have := Nat.two_pow_add_eq_or_of_lt hx p
  rw [Nat.mul_comm] at this
  exact this.symm
/-- 'n << 8 | b'. -/
theorem i64_or_byte (p x : Nat) (hp : p < 4294967296) (hx : x < 256) : bits .or .i64 ((p * 256 : Nat) : Int) (x : Int) = ((p * 256 + x : Nat) : Int) := by
  rw [i64_or_nat _ _ (by omega) (by omega), or_low p x 8 hx]
end Go.Proofs.Ytgimkipekoabbaa

/-
  The walks of slices.Chunk and writer.text. No condition.
-/
namespace Go.Proofs.Ytgimkipekoabbaa
open Go.RowKit Go.Shelf
attribute [local go_sem] Oper.semAt_some

/-- What Chunk returns. -/
def RetChunk (a : Option Addr) (n cap : Nat) (w : World) (e : Ending) (w' : World) : Prop :=
  e = .returned (.func (.func 95) #[] #[.pointer (some ⟨w.heap.size, 0, none⟩), .pointer (some ⟨w.heap.size + 1, 0, none⟩)]) ∧ w' = (w.alloc (.cells #[.slice a n cap] 63)).alloc (.cells #[.int .i64 5] 3)
set_option maxRecDepth 20000 in
set_option maxHeartbeats 2000000 in
theorem chunk_any (a : Option Addr) (n cap : Nat) (w : World) : Calls Try.prog 84 #[.slice a n cap, .int .i64 5] w (RetChunk a n cap w) := by
  have hmf : ∀ (fn : Fn) (first cap : Array Value) (w : World), (Instr.makeFunc fn first cap).run Try.prog w = .ok (.func fn first cap) w := fun _ _ _ _ => rfl
  go_enter Try.func84, Try.ntmps84
  go_wp2_with fail
  go_ret
  exact ⟨rfl, rfl⟩

/-- The chunk k of n bytes at a block's beginning. -/
def chunkV (gs n : Nat) (k : Nat) : Array Value := #[.slice (some ⟨gs, 5 * k, none⟩) (min 5 (n - 5 * k)) (min 5 (n - 5 * k))]
def KeepB (b1 b2 : Nat) (W W' : World) : Prop := W'.heap[b1]? = W.heap[b1]? ∧ W'.heap[b2]? = W.heap[b2]?

set_option maxRecDepth 20000 in
set_option maxHeartbeats 4000000 in
theorem chunks_in (m : Nat) (l b1 b2 gs n cap : Nat) (hn : n ≤ cap) (hbig : n ≤ 1000000) (J Jx : List Nat → World → Prop)
    (hY : ∀ pre x W, J pre W → pre.length < nWords n → YieldAt Fence.wide (m - 1) Try.prog l (chunkV gs n x) W fun e W' =>
      (e = .returned (.bool true) ∧ J (pre ++ [x]) W' ∧ KeepB b1 b2 W W') ∨ (e = .returned (.bool false) ∧ Jx (pre ++ [x]) W'))
    (W : World) (hb1 : W.cell? ⟨b1, 0, none⟩ = some (.slice (some ⟨gs, 0, none⟩) n cap)) (hb2 : W.cell? ⟨b2, 0, none⟩ = some (.int .i64 5)) (h0 : J [] W)
    (hdrew : ∀ pre W q, J pre W → J pre (W.drewN q)) :
    CallsIn Fence.wide m Try.prog 95 #[.func (.yield l) #[] #[], .pointer (some ⟨b1, 0, none⟩), .pointer (some ⟨b2, 0, none⟩)] W fun e W' => (∃ v, e = .returned v) ∧
      ((∃ ys, ys = List.range (nWords n) ∧ J ys W') ∨ (∃ pre, True ∧ Jx pre W')) := by
  refine callsIn_of_wp Try.func95 rfl trivial ?_ rfl
  simp only [Try.ntmps95, List.size_toArray, List.length_cons, List.length_nil, Nat.reduceAdd, Nat.reduceSub, Array.replicate_succ, Array.replicate_zero, List.push_toArray, List.append_toArray, List.nil_append, List.cons_append]
  gi_wp2
  gi_loopw [4] (fun i wr => ∃ k : Nat, k ≤ nWords n ∧ i = .int .i64 (5 * k : Nat) ∧ J (List.range k) wr ∧ Box (KeepB b1 b2 W wr)) (fun i _ => n + 5 - (intOf i).toNat)
  case atStart => exact ⟨0, Nat.zero_le _, rfl, h0, ⟨⟨rfl, rfl⟩⟩⟩
  case round =>
    obtain ⟨k, hk, rfl, hJs, KB⟩ := hrel
    have c1 := (cell_eq (w := W) (w' := wr) (p := ⟨b1, 0, none⟩) KB.out.1).trans hb1
    have c2 := (cell_eq (w := W) (w' := wr) (p := ⟨b2, 0, none⟩) KB.out.2).trans hb2
    by_cases hlt : 5 * k < n
    · obtain ⟨p, hp⟩ : ∃ p, p = 5 * k := ⟨_, rfl⟩
      rw [← hp] at hlt ⊢
      have HP := Box.mk hp
      clear hp
      have hpc : ¬ (cap = p) := by omega
      gi_wp2
      refine wpIn_wide.2 ?_
      go_quiet (fail)
      gi_wp2
      all_goals
        have hkk := lt_nWords (n := n) (k := k) (by have := HP.out; omega)
        have hkn2 : k + 1 ≤ nWords n := hkk
        obtain ⟨fn, tmps, assign, body, hy, hR⟩ := hY (List.range k) k (wr.drewN nq) (hdrew _ _ _ hJs) (by rw [List.length_range]; exact hkk)
        have hv : chunkV gs n k = #[.slice (some ⟨gs, p, none⟩) (min 5 (n - p)) (min 5 (n - p))] := by unfold chunkV; rw [← HP.out]
        rw [hv] at hy
        clear hv hY
      · have h5 : ((p : Int) + ((n - p : Nat) : Int)).toNat - p = min 5 (n - p) := by omega
        rw [h5]
        have hn5 : n ≤ 5 * (k + 1) := by have := HP.out; omega
        have hp5 : ((5 * (k + 1) : Nat) : Int) = (p : Int) + 5 := by have := HP.out; omega
        have HP5 := Box.mk hp5
        clear hp5 h5
        gi_wp2
        rw [hy, Oper.uponIn_round]
        refine ⟨fun h => (by cases h), hR.mono ?_⟩
        rintro e W3 (⟨rfl, hJ3, hk3⟩ | ⟨rfl, hJx3⟩)
        · have KB3 := Box.mk (show KeepB b1 b2 W W3 from ⟨hk3.1.trans KB.out.1, hk3.2.trans KB.out.2⟩)
          have d2 := (cell_eq (w := W) (w' := W3) (p := ⟨b2, 0, none⟩) KB3.out.2).trans hb2
          clear hk3
          gi_wp2
          go_roundw
          case rel => exact ⟨k + 1, hkn2, by rw [HP5.out], by rw [List.range_succ]; exact hJ3, KB3⟩
          case measure => simp [intOf]; omega
        · gi_wp2
          refine bodyPost_ret (results_none rfl _ _ _) rfl ?_
          exact ⟨⟨_, rfl⟩, .inr ⟨_, trivial, hJx3⟩⟩
      · have h5 : ((p : Int) + 5).toNat - p = min 5 (n - p) := by omega
        rw [h5]
        have hp5 : ((5 * (k + 1) : Nat) : Int) = (p : Int) + 5 := by have := HP.out; omega
        have HP5 := Box.mk hp5
        clear hp5 h5
        gi_wp2
        rw [hy, Oper.uponIn_round]
        refine ⟨fun h => (by cases h), hR.mono ?_⟩
        rintro e W3 (⟨rfl, hJ3, hk3⟩ | ⟨rfl, hJx3⟩)
        · have KB3 := Box.mk (show KeepB b1 b2 W W3 from ⟨hk3.1.trans KB.out.1, hk3.2.trans KB.out.2⟩)
          have d2 := (cell_eq (w := W) (w' := W3) (p := ⟨b2, 0, none⟩) KB3.out.2).trans hb2
          clear hk3
          gi_wp2
          go_roundw
          case rel => exact ⟨k + 1, hkn2, by rw [HP5.out], by rw [List.range_succ]; exact hJ3, KB3⟩
          case measure => simp [intOf]; omega
        · gi_wp2
          refine bodyPost_ret (results_none rfl _ _ _) rfl ?_
          exact ⟨⟨_, rfl⟩, .inr ⟨_, trivial, hJx3⟩⟩
    · have hkn := nWords_le hlt hk
      subst hkn
      gi_wp2
      go_end0
      exact ⟨⟨_, rfl⟩, .inl ⟨_, rfl, hJs⟩⟩
end Go.Proofs.Ytgimkipekoabbaa

/-
  The walk of writer.text. No condition.
-/
namespace Go.Proofs.Ytgimkipekoabbaa
open Go.RowKit Go.Shelf
attribute [local go_sem] Oper.semAt_some

theorem isCells_blk {w : World} {g : Nat} {ty : TypeId} {cs : List Value} (h : Blk w g ty cs) : ∃ o, w.heap[g]? = some o ∧ o.isCells = true := ⟨_, h, rfl⟩
theorem WrP.cells {g : Nat} {L : List Int} {w : World} {F : List Nat} (h : WrP g L w F) : ∀ x ∈ F, ∃ o, w.heap[x]? = some o ∧ o.isCells = true := by
  obtain ⟨a, n, cap, hb, hr, hn, hF⟩ := h
  subst hF
  intro x hx
  rcases List.mem_cons.1 hx with rfl | hx
  · exact ⟨_, hb, rfl⟩
  · obtain ⟨hl, hd⟩ := hr
    rcases hd with ⟨hv, _⟩ | ⟨g', c, cur, hv, hbg, hh, rest⟩
    · simp only [Value.slice.injEq] at hv
      obtain ⟨rfl, _⟩ := hv
      simp [Value.ownBlock] at hx
    · simp only [Value.slice.injEq] at hv
      obtain ⟨rfl, _⟩ := hv
      simp [Value.ownBlock] at hx
      subst hx
      exact ⟨_, hh, rfl⟩

/-- What a round of text keeps. -/
def TextI (g : Nat) (L : List Int) (F : List Nat) (s : List UInt8) (W0 : World) (pre : List Nat) (W : World) : Prop :=
  (∃ F', WrP g (L ++ pre.map (wordAt s)) W F' ∧ ∀ x ∈ F', x ∈ F ∨ W0.heap.size ≤ x) ∧ But F W0 W
theorem TextI.own (g : Nat) (L : List Int) (F : List Nat) (s : List UInt8) (W0 : World) : OwnFrom W0.heap.size (TextI g L F s W0) := by
  rintro pre W W' row ⟨⟨F', hW, hF⟩, hB⟩ hg hr
  refine ⟨⟨F', (WrP.stb g _).eq _ _ _ hW (fun k hk => hg.block k ((WrP.stb g _).lt _ _ hW k hk) (fun e => ?_)), hF⟩, hB.grown hg (fun k hk => .inr (hr k hk).1)⟩
  obtain ⟨_, o, ho, hc⟩ := hr k e.symm
  obtain ⟨o2, ho2, hc2⟩ := hW.cells k hk
  rw [ho] at ho2; cases ho2; rw [hc] at hc2; cases hc2
theorem KeepB.refl (b1 b2 : Nat) (W : World) : KeepB b1 b2 W W := ⟨rfl, rfl⟩
theorem KeepB.trans {b1 b2 : Nat} {A B C : World} (h : KeepB b1 b2 A B) (k : KeepB b1 b2 B C) : KeepB b1 b2 A C := ⟨k.1.trans h.1, k.2.trans h.2⟩
theorem KeepB.putObj {b1 b2 : Nat} (W : World) (l : Nat) (o' : Obj) (h1 : l ≠ b1) (h2 : l ≠ b2) : KeepB b1 b2 W (W.putObj l o') :=
  ⟨World.putObj_heap_other (fun e => h1 e.symm), World.putObj_heap_other (fun e => h2 e.symm)⟩
theorem chunk_stops (m b1 b2 gs n cap : Nat) (hn : n ≤ cap) (hbig : n ≤ 1000000) (w : World) (hl1 : b1 < w.heap.size) (hl2 : b2 < w.heap.size) (hb1 : w.cell? ⟨b1, 0, none⟩ = some (.slice (some ⟨gs, 0, none⟩) n cap)) (hb2 : w.cell? ⟨b2, 0, none⟩ = some (.int .i64 5)) :
    SeqStopsK Fence.wide m Try.prog 95 #[.pointer (some ⟨b1, 0, none⟩), .pointer (some ⟨b2, 0, none⟩)] (fun x : Nat => chunkV gs n x) (KeepB b1 b2) (fun xs => xs = List.range (nWords n)) (fun _ => True) (nWords n) w :=
  fun l J Jx W hW hJ _ hY h0 =>
    (chunks_in m l b1 b2 gs n cap hn hbig J Jx hY W ((hW.cell (p := ⟨b1, 0, none⟩) hl1).trans hb1) ((hW.cell (p := ⟨b2, 0, none⟩) hl2).trans hb2) h0
      (fun pre W1 q hj => hJ pre W1 (W1.drewN q) none hj ⟨rfl, rfl, rfl, Nat.le_refl _, fun _ _ _ => rfl⟩ (fun r e => by cases e)))

set_option maxRecDepth 20000 in
set_option maxHeartbeats 4000000 in
theorem text_but (g : Nat) (L : List Int) (F : List Nat) (s : List UInt8) (w : World) (h : WrP g L w F) (hs : s.length ≤ 100000) (hl : L.length + nWords s.length ≤ 1000000) :
    Calls Try.prog 54 #[.pointer (some ⟨g, 0, none⟩), .string ⟨s.toArray⟩] w (RetWr (.tuple #[]) g (L ++ textW s) F w) := by
  have hz : (⟨s.toArray⟩ : ByteArray).size = s.length := by simp [ByteArray.size]
  have HL := Box.mk hl
  clear hl
  refine (callsIn_wide (n := 3)).1 ?_
  refine callsIn_of_wp_marks Try.func54 rfl trivial ?_ rfl
  simp only [Try.ntmps54, List.size_toArray, List.length_cons, List.length_nil, Nat.reduceAdd, Nat.reduceSub, Array.replicate_succ, Array.replicate_zero, List.push_toArray, List.append_toArray, List.nil_append, List.cons_append]
  obtain ⟨w1, hw1⟩ : ∃ w1, w1 = w.alloc (.cells #[.pointer (some ⟨g, 0, none⟩)] 75) := ⟨_, rfl⟩
  have hcv := Lib.run_convert_string_bytes (P := Try.prog) w1 9 63 5 ⟨s.toArray⟩ (u := .string) (by kernel_rfl) (by kernel_rfl) (by kernel_rfl)
  have hbel := Box.mk (bytesWorld_below (w := w1) 5 ⟨s.toArray⟩)
  have HC := Box.mk (fun j (hj : j < s.length) => Lib.bytesWorld_cell w1 5 ⟨s.toArray⟩ j (by rw [hz]; exact hj))
  have HSZ := Box.mk (Lib.bytesWorld_size w1 5 ⟨s.toArray⟩)
  have hge := Box.mk (grownCap_ge w1 s.length 0 5)
  rw [hz] at hcv
  generalize Lib.bytesWorld w1 5 ⟨s.toArray⟩ = W1 at *
  generalize grownCap w1 s.length 0 5 = cap at *
  rw [hw1] at hcv
  gi_wp2
  refine ⟨trivial, ?_⟩
  refine (callsIn_wide.2 (chunk_any _ _ _ _)).mono ?_
  rintro e w' ⟨rfl, rfl⟩
  have hsz : W1.heap.size = w.heap.size + 2 := by rw [HSZ.out, hw1]; simp
  have hB1 : But F w W1 := (((But.refl F w).alloc _).below (hw1 ▸ hbel.out))
  have hbox : W1.cell? ⟨w.heap.size, 0, none⟩ = some (.pointer (some ⟨g, 0, none⟩)) := by
    rw [hbel.out.cell (p := ⟨w.heap.size, 0, none⟩) (by rw [hw1]; simp), hw1]; exact (Blk.new (w := w) rfl rfl).cellOf (i := 0) (cs := [.pointer (some ⟨g, 0, none⟩)]) rfl
  have hbytes : ∀ j, j < s.length → W1.cell? ⟨w.heap.size + 1, j, none⟩ = some (.int .u8 ((s.getD j 0).toNat : Nat)) := fun j hj => by
    have := HC.out j hj; rw [hw1] at this; simpa using this
  have hW1 : WrP g L W1 F := (WrP.stb g L).eq _ _ _ h (fun x hx => by
    have hx1 := (WrP.stb g L).lt _ _ h x hx
    rw [hbel.out.block x (by rw [hw1]; simp; omega), hw1]; exact Below.heap_alloc _ _ _ hx1)
  have hFlt := (WrP.stb g L).lt _ _ h
  obtain ⟨W0, hW0⟩ : ∃ W0, (W1.alloc (.cells #[.slice (some ⟨w.heap.size + 1, 0, none⟩) s.length cap] 63)).alloc (.cells #[.int .i64 5] 3) = W0 := ⟨_, rfl⟩
  rw [hW0]
  have hs0 : W0.heap.size = w.heap.size + 4 := by rw [← hW0]; simp; omega
  have hB10 : Below W1.heap.size W1 W0 := by rw [← hW0]; exact ((Below.refl _ _).alloc (Nat.le_refl _) _).alloc (by simp) _
  have hB0 := Box.mk (hB1.below hB10)
  have HBOX := Box.mk ((hB10.cell (p := ⟨w.heap.size, 0, none⟩) (by simp; omega)).trans hbox)
  have HBY : Box (∀ j, j < s.length → W0.cell? ⟨w.heap.size + 1, j, none⟩ = some (.int .u8 ((s.getD j 0).toNat : Nat))) := ⟨fun j hj => (hB10.cell (p := ⟨w.heap.size + 1, j, none⟩) (by simp; omega)).trans (hbytes j hj)⟩
  have hb1 : W0.cell? ⟨W1.heap.size, 0, none⟩ = some (.slice (some ⟨w.heap.size + 1, 0, none⟩) s.length cap) := by
    rw [← hW0]; exact ((Blk.new (w := W1) (cs := [.slice (some ⟨w.heap.size + 1, 0, none⟩) s.length cap]) rfl rfl).call0 ((Below.refl _ _).alloc (Nat.le_refl _) _)).cellOf (i := 0) rfl
  have hb2 : W0.cell? ⟨W1.heap.size + 1, 0, none⟩ = some (.int .i64 5) := by
    rw [← hW0]; simp
  have HI0 : Box (TextI g L F s W0 [] W0) := ⟨⟨F, (List.append_nil L).symm ▸ (WrP.stb g L).eq _ _ _ hW1 (fun x hx => hB10.block x (by have := hFlt x hx; omega)), fun x hx => .inl hx⟩, But.refl _ _⟩
  have HFL := Box.mk hFlt
  rw [hsz] at hb1 hb2
  clear hbox hbytes hW1 hFlt hB10 hB1 hcv HC HSZ hbel hW0 hw1 h
  gi_wp2
  refine wpIn_rangeFunc_ownG rfl (by omega) (gf := 95) (lb := #[.pointer (some ⟨w.heap.size + 2, 0, none⟩), .pointer (some ⟨w.heap.size + 2 + 1, 0, none⟩)]) rfl trivial (enters_fn Try.func95 (by kernel_rfl) (by kernel_rfl))
    (chunk_stops 2 (w.heap.size + 2) (w.heap.size + 2 + 1) (w.heap.size + 1) s.length cap hge.out (by omega) W0 (by omega) (by omega) hb1 hb2)
    (fun h k => h.trans k) (fun W l o o' hl ho hc hw => KeepB.putObj W l o' (by omega) (by omega)) (Below.refl _ _) (fun _ => rfl)
    (TextI g L F s W0) (fun _ _ _ => False) (TextI.own g L F s W0) (fun _ _ _ _ _ hs _ _ => hs) HI0.out
    (fun x => { tmps := #[.pointer (some ⟨g, 0, none⟩), .string ⟨s.toArray⟩, .pointer (some ⟨w.heap.size, 0, none⟩), undef, .slice (some ⟨w.heap.size + 1, 5 * x, none⟩) (min 5 (s.length - 5 * x)) (min 5 (s.length - 5 * x)), undef, undef, .string ⟨s.toArray⟩, .slice (some ⟨w.heap.size + 1, 0, none⟩) s.length cap, .func (.func 95) #[] #[.pointer (some ⟨w.heap.size + 2, 0, none⟩), .pointer (some ⟨w.heap.size + 2 + 1, 0, none⟩)], .slice (some ⟨w.heap.size + 1, 5 * x, none⟩) (min 5 (s.length - 5 * x)) (min 5 (s.length - 5 * x)), undef, undef, undef, undef, undef, undef, undef, undef, undef, undef, undef, undef, undef, undef, undef, undef, undef, undef, undef, undef, undef], defers := [] }) ?assign ?body ?done ?stop
  case assign =>
    intro l x W K hK
    unfold chunkV
    gi_wp2
    exact hK
  case body =>
    rintro l pre x W hI hN
    obtain ⟨q, hq⟩ : ∃ q, q = 5 * x := ⟨_, rfl⟩
    obtain ⟨c, hc⟩ : ∃ c, c = min 5 (s.length - 5 * x) := ⟨_, rfl⟩
    rw [← hc, ← hq]
    have hc5 : c ≤ 5 := by omega
    have HCQ : Box (c = min 5 (s.length - q) ∧ q = 5 * x) := ⟨by omega, hq⟩
    have HBYW : Box (∀ j, q + j < s.length → W.cell? ⟨w.heap.size + 1, q + j, none⟩ = some (.int .u8 ((s.getD (5 * x + j) 0).toNat : Nat))) := ⟨fun j hj => by
      rw [← hq, cell_eq (w := W0) (w' := W) (hI.2.block _ (by show w.heap.size + 1 < _; omega) (fun hm => by have h1 := HFL.out _ hm; simp at h1; omega))]; exact HBY.out _ hj⟩
    have hboxW : W.cell? ⟨w.heap.size, 0, none⟩ = some (.pointer (some ⟨g, 0, none⟩)) := by
      rw [cell_eq (w := W0) (w' := W) (hI.2.block _ (by show w.heap.size < _; omega) (fun hm => by have h1 := HFL.out _ hm; simp at h1))]; exact HBOX.out
    have HIW := Box.mk hI
    clear hI hc hq hb1 hb2 hsz HI0
    gi_wp2
    gi_loopw [5, 11] (fun v i wr => ∃ k : Nat, k ≤ 5 ∧ i = .int .i64 k ∧ v = .int .i64 (wordTo s x k : Nat) ∧ wr = W) (fun _ i _ => 5 - (intOf i).toNat)
    case atStart => exact ⟨0, by omega, rfl, rfl, rfl⟩
    case round =>
      obtain ⟨k, hk, rfl, rfl, rfl⟩ := hrel
      by_cases hk5 : k < 5
      · have hwlt := wordTo_lt5 s x k hk5
        by_cases hkc : k < c
        · have hby := HBYW.out k (by have := HCQ.out.1; omega)
          have hst : Box (wordTo s x (k + 1) = wordTo s x k * 256 + (s.getD (5 * x + k) 0).toNat) := ⟨rfl⟩
          have hy := (s.getD (5 * x + k) 0).toNat_lt
          generalize (s.getD (5 * x + k) 0).toNat = y at *
          generalize hv : wordTo s x k = v at *
          clear hv
          gi_wp2
          refine ⟨⟨k + 1, by omega, by go_num, ?_, trivial⟩, by simp [intOf]; omega⟩
          rw [show ((v : Int) * 256) = ((v * 256 : Nat) : Int) from by simp, i64_or_byte v y hwlt (by omega), hst.out]
        · have hst : Box (wordTo s x (k + 1) = wordTo s x k * 256) := ⟨by
            have h1 := HCQ.out
            show wordTo s x k * 256 + (s.getD (5 * x + k) 0).toNat = _
            rw [List.getD_eq_getElem?_getD, List.getElem?_eq_none (by omega)]; rfl⟩
          generalize hv : wordTo s x k = v at *
          clear hv
          gi_wp2
          refine ⟨⟨k + 1, by omega, by go_num, ?_, trivial⟩, by simp [intOf]; omega⟩
          rw [hst.out]; simp
      · obtain rfl : k = 5 := by omega
        gi_wp2
        obtain ⟨⟨F', hW, hF'⟩, hB⟩ := HIW.out
        have hFl := (WrP.stb g _).lt _ _ hW
        have hw2 : WrP g (L ++ pre.map (wordAt s)) (wr.alloc (.cells #[.int .i64 (wordTo s x 5 : Nat)] 3)) F' := (WrP.stb g _).eq _ _ _ hW (fun y hy => Below.heap_alloc _ _ _ (hFl y hy))
        have hrd : Rd (wr.alloc (.cells #[.int .i64 (wordTo s x 5 : Nat)] 3)) (some ⟨wr.heap.size, 0, none⟩) 1 1 1 (intVals [wordAt s x]) :=
          Rd.ofOwn (own_new (e := 3) (base := 0) (Blk.new (w := wr) (cs := intVals [wordAt s x]) rfl rfl) (Nat.zero_le _) rfl (by decide))
        refine ⟨trivial, ?_⟩
        refine (CallsIn.inRound l (callsIn_wide.2 (add_but g _ [wordAt s x] F' _ 1 1 _ hw2 hrd (by have := HL.out; simp; omega)))).mono ?_
        rintro e W' ⟨rfl, ⟨F2, hW2, hF2⟩, hB2⟩
        gi_wp2
        have hsz2 : W0.heap.size ≤ wr.heap.size := hB.size
        have hB2' : But F' wr W' := ((But.refl F' wr).alloc _).trans hB2 (fun y hy => .inl hy)
        have hk2 : ∀ b, b < W0.heap.size → w.heap.size ≤ b → W'.heap[b]? = wr.heap[b]? := fun b h1 h2 => hB2'.block b (by omega) (fun hm => by
          rcases hF' b hm with h3 | h3
          · have := HFL.out b h3; omega
          · omega)
        refine ⟨⟨hB2'.size, fun k o _ hk ho => ?_⟩, ⟨hk2 _ (by omega) (by omega), hk2 _ (by omega) (by omega)⟩, ⟨F2, ?_, fun y hy => ?_⟩, ?_⟩
        · have hkl := (Array.getElem?_eq_some_iff.1 hk).1
          rw [hB2'.block k hkl (fun hm => by
            obtain ⟨o2, h1, h2⟩ := hW.cells k hm
            rw [hk] at h1; cases h1; rw [ho] at h2; cases h2), hk]
        · have := hW2; rw [List.append_assoc] at this; simpa using this
        · rcases hF2 y hy with h1 | h1
          · exact hF' y h1
          · simp at h1; exact .inr (by omega)
        · exact hB.trans hB2' (fun y hy => hF' y hy)
  case done =>
    rintro D xs W hD rfl ⟨⟨F', hW, hF'⟩, hB⟩ hK
    gi_wp2
    refine ⟨by simp, .inl ⟨_, _, rfl, run_takeDeferred hK, ?_⟩⟩
    refine ⟨_, results_none rfl _ _ _, rfl, ⟨F', (WrP.stb g _).eq _ _ _ hW (fun y hy => World.putObj_heap_other (fun e => ?_)), fun y hy => ?_⟩, ?_⟩
    · obtain ⟨o2, h1, h2⟩ := hW.cells y hy
      rw [e, hK] at h1; cases h1; cases h2
    · rcases hF' y hy with h1 | h1
      · exact .inl h1
      · exact .inr (by omega)
    · exact (hB0.out.trans hB (fun y hy => .inl hy)).grown (grownBy_putObj' _ _ _) (fun k hk => .inr (by cases hk; omega))
  case stop =>
    rintro D c pre W _ _ h _
    exact h.elim
end Go.Proofs.Ytgimkipekoabbaa

/-
  Plain mathematics of chapter 20: the words of a table. No condition.
-/
namespace Go.Proofs.Ytgimkipekoabbaa
open Go.RowKit

def b2i (b : Bool) : Int := if b then 1 else 0
theorem b2i_le (b : Bool) : 0 ≤ b2i b ∧ b2i b ≤ 1 := by cases b <;> simp [b2i]
/-- The numbers of a list, base 16, the first the lowest. -/
def packI : List Int → Int
  | [] => 0
  | c :: l => c + 16 * packI l
def colH (c : Col) : Int := c.kind + 4 * b2i c.null + 8 * (c.name.length : Int)
def colW (c : Col) : List Int := [colH c] ++ textW c.name
def ixH (x : Ix) : Int := b2i x.uniq + 2 * (x.cols.length : Int) + 32 * (x.name.length : Int)
def ixW (x : Ix) : List Int := [ixH x, packI x.cols] ++ textW x.name
def chkH (x : Chk) : Int := x.col + 16 * x.op
def valW (v : Val) : List Int := if v.kind = 1 then [v.n + 549755813888] else if v.kind = 3 then [v.n] else [(v.s.length : Int)] ++ textW v.s
def chkW (x : Chk) : List Int := [chkH x] ++ valW x.val
def flatW {α : Type} (f : α → List Int) (l : List α) : List Int := (l.map f).flatten
def headW (T : Tab) : Int := (T.cols.length : Int) + 16 * (T.ixs.length : Int) + 256 * (T.chks.length : Int) + 4096 * (T.name.length : Int)
/-- The words of a valid table. -/
def wordsT (T : Tab) : List Int := [headW T] ++ textW T.name ++ flatW colW T.cols ++ flatW ixW T.ixs ++ flatW chkW T.chks

section
variable {α : Type} [Inhabited α]
theorem take_succ_getD (l : List α) (k : Nat) (hk : k < l.length) : l.take (k + 1) = l.take k ++ [l.getD k default] := by
  rw [List.take_succ_eq_append_getElem hk, getD_eq hk]
omit [Inhabited α] in
theorem flatW_append (f : α → List Int) (l m : List α) : flatW f (l ++ m) = flatW f l ++ flatW f m := by simp [flatW]
theorem flatW_succ (f : α → List Int) (l : List α) (k : Nat) (hk : k < l.length) : flatW f (l.take (k + 1)) = flatW f (l.take k) ++ f (l.getD k default) := by
  rw [take_succ_getD l k hk, flatW_append]; simp [flatW]
omit [Inhabited α] in
theorem flatW_zero (f : α → List Int) (l : List α) : flatW f (l.take 0) = [] := by simp [flatW]
omit [Inhabited α] in
theorem flatW_all (f : α → List Int) (l : List α) (k : Nat) (hk : l.length ≤ k) : flatW f (l.take k) = flatW f l := by rw [List.take_of_length_le hk]
theorem flatW_le {f : α → List Int} {l : List α} {c : Nat} (h : ∀ i, i < l.length → (f (l.getD i default)).length ≤ c) (k : Nat) (hk : k ≤ l.length) : (flatW f (l.take k)).length ≤ c * k := by
  induction k with
  | zero => simp [flatW]
  | succ k ih =>
    rw [flatW_succ f l k (by omega), List.length_append]
    have := ih (by omega)
    have := h k (by omega)
    rw [Nat.mul_succ]; omega
end

theorem textW_length (s : List UInt8) : (textW s).length = nWords s.length := textUp_length _ _
theorem nWords_mono {a b : Nat} (h : a ≤ b) : nWords a ≤ nWords b := by unfold nWords; omega

theorem name_len {s : List UInt8} (h : nameB s = true) : 0 < s.length ∧ s.length ≤ 16 := by
  unfold nameB at h
  simp only [Bool.and_eq_true, decide_eq_true_eq] at h
  exact ⟨h.1.1.1.1, h.1.1.1.2⟩
theorem colErr_zero {l : List Col} {i : Nat} (h : colErr l i = 0) : nameB (l.getD i default).name = true ∧ kindB (l.getD i default).kind = true ∧ colTwice l i = false := by
  unfold colErr at h
  split at h
  · cases h
  rename_i h1
  split at h
  · cases h
  rename_i h2
  split at h
  · cases h
  rename_i h3
  exact ⟨by simpa using h1, by simpa using h3, by simpa using h2⟩
theorem ixErr_zero {l : List Ix} {n i : Nat} (h : ixErr l n i = 0) : nameB (l.getD i default).name = true ∧ placesB (l.getD i default).cols n = true ∧ ixTwice l i = false := by
  unfold ixErr at h
  split at h
  · cases h
  rename_i h1
  split at h
  · cases h
  rename_i h2
  split at h
  · cases h
  rename_i h3
  exact ⟨by simpa using h1, by simpa using h3, by simpa using h2⟩
theorem TabOk.col {T : Tab} (h : TabOk T) {i : Nat} (hi : i < T.cols.length) : 0 < (T.cols.getD i default).name.length ∧ (T.cols.getD i default).name.length ≤ 16 ∧ 1 ≤ (T.cols.getD i default).kind ∧ (T.cols.getD i default).kind ≤ 3 := by
  obtain ⟨h1, h2, _⟩ := colErr_zero (firstE_eq_zero h.colsE i hi)
  unfold kindB at h2
  simp only [decide_eq_true_eq] at h2
  exact ⟨(name_len h1).1, (name_len h1).2, h2.1, h2.2⟩
theorem TabOk.ix {T : Tab} (h : TabOk T) {i : Nat} (hi : i < T.ixs.length) : 0 < (T.ixs.getD i default).name.length ∧ (T.ixs.getD i default).name.length ≤ 16 ∧ 0 < (T.ixs.getD i default).cols.length ∧ (T.ixs.getD i default).cols.length ≤ 8 ∧ ∀ k, k < (T.ixs.getD i default).cols.length → 0 ≤ (T.ixs.getD i default).cols.getD k 0 ∧ (T.ixs.getD i default).cols.getD k 0 < 8 := by
  obtain ⟨h1, h2, _⟩ := ixErr_zero (firstE_eq_zero h.ixsE i hi)
  obtain ⟨h3, h4, _⟩ := placesB_true h2
  have h5 := placesB_le h2
  have h6 := h.cols8
  refine ⟨(name_len h1).1, (name_len h1).2, h3, by omega, fun k hk => ?_⟩
  have := h4 _ (List.getElem_mem hk)
  rw [List.getD_eq_getElem?_getD, List.getElem?_eq_getElem hk]
  simp only [Option.getD_some]
  omega
theorem valid_len {v : Val} (h : validB v = true) : v.s.length ≤ 40 ∧ (v.kind = 1 → -549755813888 ≤ v.n ∧ v.n ≤ 549755813887) ∧ (v.kind = 3 → 0 ≤ v.n ∧ v.n ≤ 1) := by
  unfold validB at h
  split at h
  · rename_i hk
    simp only [Bool.and_eq_true, decide_eq_true_eq, List.isEmpty_iff] at h
    rw [h.1.1]
    exact ⟨by simp, fun _ => ⟨h.1.2, h.2⟩, fun h3 => by omega⟩
  rename_i hk1
  split at h
  · rename_i hk
    simp only [Bool.and_eq_true, decide_eq_true_eq, List.isEmpty_iff] at h
    rw [h.1]
    exact ⟨by simp, fun h3 => by omega, fun _ => by rcases h.2 with h | h <;> omega⟩
  rename_i hk3
  split at h
  · simp only [Bool.and_eq_true, decide_eq_true_eq] at h
    exact ⟨h.2, fun h3 => absurd h3 hk1, fun h3 => absurd h3 hk3⟩
  · cases h
theorem TabOk.name16 {T : Tab} (h : TabOk T) : 0 < T.name.length ∧ T.name.length ≤ 16 := name_len h.name

theorem colW_le {T : Tab} (h : TabOk T) (i : Nat) (hi : i < T.cols.length) : (colW (T.cols.getD i default)).length ≤ 5 := by
  have := (h.col hi).2.1
  unfold colW; rw [List.length_append, textW_length]; unfold nWords; simp only [List.length_singleton]; omega
theorem ixW_le {T : Tab} (h : TabOk T) (i : Nat) (hi : i < T.ixs.length) : (ixW (T.ixs.getD i default)).length ≤ 6 := by
  have := (h.ix hi).2.1
  unfold ixW; rw [List.length_append, textW_length]; unfold nWords; simp only [List.length_cons, List.length_nil]; omega
theorem valW_le {v : Val} (h : validB v = true) : (valW v).length ≤ 9 := by
  have := (valid_len h).1
  unfold valW
  split
  · simp
  split
  · simp
  rw [List.length_append, textW_length]; unfold nWords; simp only [List.length_singleton]; omega
theorem chkW_le {T : Tab} (h : TabOk T) (i : Nat) (hi : i < T.chks.length) : (chkW (T.chks.getD i default)).length ≤ 10 := by
  have := valW_le (h.chk hi).2.2.2.2.1
  unfold chkW; rw [List.length_append]; simp only [List.length_singleton]; omega

/-- 'a | b << k' where a has k bits. -/
theorem or_mul (a b : Int) (k : Nat) (m : Int) (hm : m = ((2 ^ k : Nat) : Int)) (ha : 0 ≤ a) (ha2 : a < m) (hb : 0 ≤ b) (hb2 : b * m < 9223372036854775808) (ham : m < 9223372036854775808) : bits .or .i64 a (b * m) = a + b * m := by
  obtain ⟨x, rfl⟩ := Int.eq_ofNat_of_zero_le ha
  obtain ⟨y, rfl⟩ := Int.eq_ofNat_of_zero_le hb
  subst hm
  rw [show ((y : Int) * ((2 ^ k : Nat) : Int)) = ((y * 2 ^ k : Nat) : Int) from by simp] at hb2 ⊢
  rw [i64_or_nat x (y * 2 ^ k) (by omega) (by omega), Nat.or_comm, or_low y x k (by omega)]
  omega

theorem packI_append (l m : List Int) : packI (l ++ m) = packI l + ((16 ^ l.length : Nat) : Int) * packI m := by
  induction l with
  | nil => simp [packI]
  | cons c l ih =>
    rw [List.cons_append, packI, ih, packI, List.length_cons, Nat.pow_succ, Int.mul_add, Int.natCast_mul, Int.mul_comm ((16 ^ l.length : Nat) : Int) ((16 : Nat) : Int), Int.mul_assoc]
    simp [Int.add_assoc]
theorem packI_succ (l : List Int) (k : Nat) (hk : k < l.length) : packI (l.take (k + 1)) = packI (l.take k) + l.getD k 0 * ((16 ^ k : Nat) : Int) := by
  rw [List.take_succ_eq_append_getElem hk, packI_append, List.length_take, Nat.min_eq_left (by omega)]
  rw [List.getD_eq_getElem?_getD, List.getElem?_eq_getElem hk]
  simp [packI, Int.mul_comm]
theorem packI_lt {l : List Int} (h : ∀ k, k < l.length → 0 ≤ l.getD k 0 ∧ l.getD k 0 < 8) (k : Nat) (hk : k ≤ l.length) : 0 ≤ packI (l.take k) ∧ packI (l.take k) < ((16 ^ k : Nat) : Int) := by
  induction k with
  | zero => simp [packI]
  | succ k ih =>
    obtain ⟨h1, h2⟩ := ih (by omega)
    obtain ⟨h3, h4⟩ := h k (by omega)
    rw [packI_succ l k (by omega), Nat.pow_succ]
    have h5 : 0 ≤ l.getD k 0 * ((16 ^ k : Nat) : Int) := Int.mul_nonneg h3 (by omega)
    have h6 : l.getD k 0 * ((16 ^ k : Nat) : Int) ≤ 7 * ((16 ^ k : Nat) : Int) := Int.mul_le_mul_of_nonneg_right (by omega) (by omega)
    rw [Int.natCast_mul]
    omega
theorem packI_drop (l : List Int) (k : Nat) (hk : k < l.length) : packI (l.drop k) = packI (l.drop (k + 1)) * 16 + l.getD k 0 := by
  rw [List.drop_eq_getElem_cons hk, packI, List.getD_eq_getElem?_getD, List.getElem?_eq_getElem hk]
  simp; omega
end Go.Proofs.Ytgimkipekoabbaa

/-
  The walks of slices.Clone. No condition.
-/
namespace Go.Proofs.Ytgimkipekoabbaa
open Go.RowKit

theorem sl_row : SlT Try.prog 37 40 (.agg #[.int .i64 0, .int .i64 0, .string ⟨#[]⟩]) 3 32 := ⟨by kernel_rfl, by kernel_rfl, rfl⟩
theorem sl_cols : SlT Try.prog 24 50 (.agg #[.string ⟨#[]⟩, .int .i64 0, .bool false]) 3 32 := ⟨by kernel_rfl, by kernel_rfl, rfl⟩
theorem sl_ixs : SlT Try.prog 25 55 (.agg #[.string ⟨#[]⟩, .slice none 0 0, .bool false]) 3 48 := ⟨by kernel_rfl, by kernel_rfl, rfl⟩
theorem sl_chks : SlT Try.prog 26 42 (.agg #[.int .i64 0, .int .i64 0, .int .i64 0, .int .i64 0, .string ⟨#[]⟩]) 5 48 := ⟨by kernel_rfl, by kernel_rfl, rfl⟩

/-- What a function returns that makes a slice of its own. -/
def RetOwn (ty : TypeId) (size n : Nat) (xs : List Value) (w : World) (e : Ending) (w' : World) : Prop := Below w.heap.size w w' ∧ ∃ a cap, e = .returned (.slice a n cap) ∧ w'.ownsRow w.heap.size ty size (.slice a n cap) n xs

set_option maxRecDepth 20000 in
set_option maxHeartbeats 1000000 in
theorem clone_row (xs : List Value) (a : Option Addr) (n cap : Nat) (w : World) (hrd : Rd w a n cap 3 xs) (h1 : ∀ u ∈ xs, u.oneCell' = true) (hn : n ≤ 1000000) : Calls Try.prog 67 #[.slice a n cap] w (RetOwn 40 3 n xs w) := by
  have SRC := Box.mk (Src.ofRd (P := Try.prog) (hrd.alloc (.cells #[] 40)) h1)
  have B0 : Blk (w.alloc (.cells #[] 40)) w.heap.size 40 [] := Blk.new rfl rfl
  have HO := Box.mk (own_new (base := w.heap.size) (n := 0) (size := 3) B0 (Nat.le_refl _) rfl (by decide))
  cases a with
  | none =>
    have hx := hrd.hnil rfl
    have hl := hrd.hlen
    rw [hx] at hl
    obtain rfl : n = 0 := by simp at hl; omega
    subst hx
    clear hl hrd h1 SRC B0 HO
    have hq := fun w => Lib.run_eql_slice_nil (P := Try.prog) w 37 40 none 0 cap 0 0 sl_row.ht
    go_enter Try.func67, Try.ntmps67
    go_wp2_with fail
    go_ret
    exact ⟨Below.refl _ _, none, 0, rfl, World.ownsRow_nil _ _ _ _⟩
  | some ad =>
    clear hrd h1 B0
    have hq := fun w => Lib.run_eql_slice_nil (P := Try.prog) w 37 40 (some ad) n cap 0 0 sl_row.ht
    go_enter Try.func67, Try.ntmps67
    go_wp2_with (at_builtin; refine wpList_append_src rfl _ _ 37 37 rfl sl_row (.inl sl_row.ht) rfl HO.out rfl SRC.out (by omega) (by unfold maxLen; omega) (by simp) ?_; intro a3 c3 w3 hown3 hgr3 _)
    go_ret
    rw [List.nil_append, Nat.zero_add] at hown3
    exact ⟨below_grown ((Below.refl _ _).alloc (Nat.le_refl _) _) hgr3 HO.out (Nat.le_refl _) (by simp), a3, c3, rfl, hown3⟩

set_option maxRecDepth 20000 in
set_option maxHeartbeats 1000000 in
theorem clone_cols (xs : List Value) (a : Option Addr) (n cap : Nat) (w : World) (hrd : Rd w a n cap 3 xs) (h1 : ∀ u ∈ xs, u.oneCell' = true) (hn : n ≤ 1000000) : Calls Try.prog 89 #[.slice a n cap] w (RetOwn 50 3 n xs w) := by
  have SRC := Box.mk (Src.ofRd (P := Try.prog) (hrd.alloc (.cells #[] 50)) h1)
  have B0 : Blk (w.alloc (.cells #[] 50)) w.heap.size 50 [] := Blk.new rfl rfl
  have HO := Box.mk (own_new (base := w.heap.size) (n := 0) (size := 3) B0 (Nat.le_refl _) rfl (by decide))
  cases a with
  | none =>
    have hx := hrd.hnil rfl
    have hl := hrd.hlen
    rw [hx] at hl
    obtain rfl : n = 0 := by simp at hl; omega
    subst hx
    clear hl hrd h1 SRC B0 HO
    have hq := fun w => Lib.run_eql_slice_nil (P := Try.prog) w 24 50 none 0 cap 0 0 sl_cols.ht
    go_enter Try.func89, Try.ntmps89
    go_wp2_with fail
    go_ret
    exact ⟨Below.refl _ _, none, 0, rfl, World.ownsRow_nil _ _ _ _⟩
  | some ad =>
    clear hrd h1 B0
    have hq := fun w => Lib.run_eql_slice_nil (P := Try.prog) w 24 50 (some ad) n cap 0 0 sl_cols.ht
    go_enter Try.func89, Try.ntmps89
    go_wp2_with (at_builtin; refine wpList_append_src rfl _ _ 24 24 rfl sl_cols (.inl sl_cols.ht) rfl HO.out rfl SRC.out (by omega) (by unfold maxLen; omega) (by simp) ?_; intro a3 c3 w3 hown3 hgr3 _)
    go_ret
    rw [List.nil_append, Nat.zero_add] at hown3
    exact ⟨below_grown ((Below.refl _ _).alloc (Nat.le_refl _) _) hgr3 HO.out (Nat.le_refl _) (by simp), a3, c3, rfl, hown3⟩

set_option maxRecDepth 20000 in
set_option maxHeartbeats 1000000 in
theorem clone_ixs (xs : List Value) (a : Option Addr) (n cap : Nat) (w : World) (hrd : Rd w a n cap 3 xs) (h1 : ∀ u ∈ xs, u.oneCell' = true) (hn : n ≤ 1000000) : Calls Try.prog 91 #[.slice a n cap] w (RetOwn 55 3 n xs w) := by
  have SRC := Box.mk (Src.ofRd (P := Try.prog) (hrd.alloc (.cells #[] 55)) h1)
  have B0 : Blk (w.alloc (.cells #[] 55)) w.heap.size 55 [] := Blk.new rfl rfl
  have HO := Box.mk (own_new (base := w.heap.size) (n := 0) (size := 3) B0 (Nat.le_refl _) rfl (by decide))
  cases a with
  | none =>
    have hx := hrd.hnil rfl
    have hl := hrd.hlen
    rw [hx] at hl
    obtain rfl : n = 0 := by simp at hl; omega
    subst hx
    clear hl hrd h1 SRC B0 HO
    have hq := fun w => Lib.run_eql_slice_nil (P := Try.prog) w 25 55 none 0 cap 0 0 sl_ixs.ht
    go_enter Try.func91, Try.ntmps91
    go_wp2_with fail
    go_ret
    exact ⟨Below.refl _ _, none, 0, rfl, World.ownsRow_nil _ _ _ _⟩
  | some ad =>
    clear hrd h1 B0
    have hq := fun w => Lib.run_eql_slice_nil (P := Try.prog) w 25 55 (some ad) n cap 0 0 sl_ixs.ht
    go_enter Try.func91, Try.ntmps91
    go_wp2_with (at_builtin; refine wpList_append_src rfl _ _ 25 25 rfl sl_ixs (.inl sl_ixs.ht) rfl HO.out rfl SRC.out (by omega) (by unfold maxLen; omega) (by simp) ?_; intro a3 c3 w3 hown3 hgr3 _)
    go_ret
    rw [List.nil_append, Nat.zero_add] at hown3
    exact ⟨below_grown ((Below.refl _ _).alloc (Nat.le_refl _) _) hgr3 HO.out (Nat.le_refl _) (by simp), a3, c3, rfl, hown3⟩

set_option maxRecDepth 20000 in
set_option maxHeartbeats 1000000 in
theorem clone_chks (xs : List Value) (a : Option Addr) (n cap : Nat) (w : World) (hrd : Rd w a n cap 5 xs) (h1 : ∀ u ∈ xs, u.oneCell' = true) (hn : n ≤ 1000000) : Calls Try.prog 90 #[.slice a n cap] w (RetOwn 42 5 n xs w) := by
  have SRC := Box.mk (Src.ofRd (P := Try.prog) (hrd.alloc (.cells #[] 42)) h1)
  have B0 : Blk (w.alloc (.cells #[] 42)) w.heap.size 42 [] := Blk.new rfl rfl
  have HO := Box.mk (own_new (base := w.heap.size) (n := 0) (size := 5) B0 (Nat.le_refl _) rfl (by decide))
  cases a with
  | none =>
    have hx := hrd.hnil rfl
    have hl := hrd.hlen
    rw [hx] at hl
    obtain rfl : n = 0 := by simp at hl; omega
    subst hx
    clear hl hrd h1 SRC B0 HO
    have hq := fun w => Lib.run_eql_slice_nil (P := Try.prog) w 26 42 none 0 cap 0 0 sl_chks.ht
    go_enter Try.func90, Try.ntmps90
    go_wp2_with fail
    go_ret
    exact ⟨Below.refl _ _, none, 0, rfl, World.ownsRow_nil _ _ _ _⟩
  | some ad =>
    clear hrd h1 B0
    have hq := fun w => Lib.run_eql_slice_nil (P := Try.prog) w 26 42 (some ad) n cap 0 0 sl_chks.ht
    go_enter Try.func90, Try.ntmps90
    go_wp2_with (at_builtin; refine wpList_append_src rfl _ _ 26 26 rfl sl_chks (.inl sl_chks.ht) rfl HO.out rfl SRC.out (by omega) (by unfold maxLen; omega) (by simp) ?_; intro a3 c3 w3 hown3 hgr3 _)
    go_ret
    rw [List.nil_append, Nat.zero_add] at hown3
    exact ⟨below_grown ((Below.refl _ _).alloc (Nat.le_refl _) _) hgr3 HO.out (Nat.le_refl _) (by simp), a3, c3, rfl, hown3⟩

set_option maxRecDepth 20000 in
set_option maxHeartbeats 1000000 in
theorem clone_ints (xs : List Value) (a : Option Addr) (n cap : Nat) (w : World) (hrd : Rd w a n cap 1 xs) (h1 : ∀ u ∈ xs, u.oneCell' = true) (hn : n ≤ 1000000) : Calls Try.prog 70 #[.slice a n cap] w (RetOwn 3 1 n xs w) := by
  have SRC := Box.mk (Src.ofRd (P := Try.prog) (hrd.alloc (.cells #[] 3)) h1)
  have B0 : Blk (w.alloc (.cells #[] 3)) w.heap.size 3 [] := Blk.new rfl rfl
  have HO := Box.mk (own_new (base := w.heap.size) (n := 0) (size := 1) B0 (Nat.le_refl _) rfl (by decide))
  cases a with
  | none =>
    have hx := hrd.hnil rfl
    have hl := hrd.hlen
    rw [hx] at hl
    obtain rfl : n = 0 := by simp at hl; omega
    subst hx
    clear hl hrd h1 SRC B0 HO
    have hq := fun w => Lib.run_eql_slice_nil (P := Try.prog) w 32 3 none 0 cap 0 0 sl_int.ht
    go_enter Try.func70, Try.ntmps70
    go_wp2_with fail
    go_ret
    exact ⟨Below.refl _ _, none, 0, rfl, World.ownsRow_nil _ _ _ _⟩
  | some ad =>
    clear hrd h1 B0
    have hq := fun w => Lib.run_eql_slice_nil (P := Try.prog) w 32 3 (some ad) n cap 0 0 sl_int.ht
    go_enter Try.func70, Try.ntmps70
    go_wp2_with (at_builtin; refine wpList_append_src rfl _ _ 32 32 rfl sl_int (.inl sl_int.ht) rfl HO.out rfl SRC.out (by omega) (by unfold maxLen; omega) (by simp) ?_; intro a3 c3 w3 hown3 hgr3 _)
    go_ret
    rw [List.nil_append, Nat.zero_add] at hown3
    exact ⟨below_grown ((Below.refl _ _).alloc (Nat.le_refl _) _) hgr3 HO.out (Nat.le_refl _) (by simp), a3, c3, rfl, hown3⟩

end Go.Proofs.Ytgimkipekoabbaa
