/-
  The walk of Sum. No condition.
-/
import Derived.Test.YtcngnpkpaliflaaDoorWStSum
namespace Go.Proofs.YtcngnpkpaliflaaDoor
open Go.RowKit

theorem nm31 : (Tryd.f31.name == "runtime.NumGoroutine") = false := by kernel_rfl
theorem bd31 : Tryd.f31.body.isNone = false := by kernel_rfl
theorem nm32 : (Tryd.f32.name == "runtime.NumGoroutine") = false := by kernel_rfl
theorem bd32 : Tryd.f32.body.isNone = false := by kernel_rfl
theorem nm33 : (Tryd.f33.name == "runtime.NumGoroutine") = false := by kernel_rfl
theorem bd33 : Tryd.f33.body.isNone = false := by kernel_rfl

/-- The cells of a stream behind the message m. -/
def Strm (m : List UInt8) (cs : List Value) : Prop := ∃ s held n, Has m s held n ∧ cs = strmVals s held n
theorem Strm.len {m : List UInt8} {cs : List Value} (h : Strm m cs) : cs.length = 73 := by
  obtain ⟨s, held, n, h, rfl⟩ := h; exact strmVals_length h.len
theorem Strm.one {m : List UInt8} {cs : List Value} (h : Strm m cs) : ∀ u ∈ cs, u.oneCell' = true := by
  obtain ⟨s, held, n, h, rfl⟩ := h; exact strmVals_one _ _ _

/-- What a function that returns a stream returns. -/
def RetS (m : List UInt8) (w : World) (e : Ending) (w' : World) : Prop := ∃ cs, Strm m cs ∧ e = .returned (.agg cs.toArray) ∧ Below w.heap.size w w'

theorem begin_s (w : World) : Calls Tryd.prog 31 #[] w (RetS [] w) :=
  (beginSha_any w).mono fun _ _ h => ⟨_, ⟨_, _, _, Has.begin, rfl⟩, h.1, h.2⟩
theorem add_s {m : List UInt8} {cs : List Value} (hS : Strm m cs) (t : List UInt8) (w : World) (ht : t.length ≤ 1099511627776) (hK : Kons w) (h2 : 2 < w.heap.size) :
    Calls Tryd.prog 32 #[.agg cs.toArray, .string ⟨t.toArray⟩] w (RetS (m ++ t) w) := by
  obtain ⟨s, held, n, h, rfl⟩ := hS
  exact (strmAdd_any m s held n t h w ht hK h2).mono fun _ _ h => by
    obtain ⟨s', held', n', h', rfl, hb⟩ := h
    exact ⟨_, ⟨_, _, _, h', rfl⟩, rfl, hb⟩
theorem sum_s {m : List UInt8} {cs : List Value} (hS : Strm m cs) (w : World) (hm : m.length ≤ 1099511627776) (hK : Kons w) (h2 : 2 < w.heap.size) :
    Calls Tryd.prog 33 #[.agg cs.toArray] w (RetV (.agg (byteVals (sha m)).toArray) w) := by
  obtain ⟨s, held, n, h, rfl⟩ := hS
  exact strmSum_any m s held n h w hm hK h2

set_option maxRecDepth 20000 in
set_option maxHeartbeats 1000000 in
theorem sum_any (l : List UInt8) (a : Option Addr) (n cap : Nat) (w : World) (hrd : Rd w a n cap 1 (byteVals l)) (hn : n ≤ 1000000000000) (hK : Kons w) (h2 : 2 < w.heap.size) :
    Calls Tryd.prog 29 #[.slice a n cap] w (RetV (.agg (byteVals (sha l)).toArray) w) := by
  have Hl := Box.mk (show l.length ≤ 1000000000000 from by rw [hrd.blen]; exact hn)
  have HP := Box.mk (padding_length l.length)
  have b2 := Blk.new (w := w) (ty := 47) (cs := zero32) (k := w.heap.size) rfl rfl
  have B2 := (Below.refl w.heap.size w).alloc (Nat.le_refl _) (.cells zero32.toArray 47)
  have z2 : (w.alloc (.cells zero32.toArray 47)).heap.size = w.heap.size + 1 := by simp
  have hrd2 := hrd.alloc (.cells zero32.toArray 47)
  have hK2 : Kons (w.alloc (.cells zero32.toArray 47)) := hK.alloc _
  go_enter Tryd.func29, Tryd.ntmps29
  go_wp2_with (first
    | ((with_reducible show wpList _ _ _ _ _ _); refine wpList_alloc (o := ⟨some 2, .alloc 47, _, _, _, _⟩) rfl 47 rfl zero47 (zc := zero32.toArray) rfl ?_; generalize w.alloc (.cells zero32.toArray 47) = w2 at *))
  refine wp_region_held_drew (S := fun w' => Rd w' a n cap 1 (byteVals l)) (by kernel_rfl) hrd2.drew (fun _ => ?_)
  refine wpAnyH_take (i := 1) (v := ?_) rfl (by kernel_rfl) (by kernel_rfl) (by kernel_rfl) (fun _ _ _ h => h) (yieldsIf_val (by rfl) (fun w' _ => ?_)) hrd2.drew ?_
  rotate_left
  · go_simp
    all_goals with_reducible rfl
  refine wpAnyH_take (i := 2) (v := ?_) rfl (by kernel_rfl) (by kernel_rfl) (by kernel_rfl) (fun _ _ _ h => h) (yieldsIf_val (by rfl) (fun w' hS => ?_)) hrd2.drew ?_
  rotate_left
  · have hst := run_string_rd (P := Tryd.prog) (src := 22) (dst := 9) (e := 5) (by kernel_rfl) (by kernel_rfl) (by kernel_rfl) hS
    go_simp
    all_goals with_reducible rfl
  conv =>
    arg 8
    simp [go_sem]
  refine wpAnyH_ready (rs := [0]) (by kernel_rfl) (by simp) (AllReadyH.cons rfl (fun K' hK' => oper_call (by rfl) 31 [] #[] rfl (vs := []) rfl Tryd.func31 nm31 bd31 (begin_s _) ?_) AllReadyH.nil)
  rintro e w3 ⟨cs3, S3, rfl, hb3⟩
  have b3 := b2.drew.call0 hb3
  have B3 := B2.drew.call0 (Nat.le_refl _) hb3
  have hrd3 := hrd2.drew.call0 hb3
  have hK3 : Kons w3 := Kons.call0 (w := w2.drew) hK2 hb3
  have z3 := hb3.size
  have z3' : w.heap.size + 1 ≤ w3.heap.size := by rw [← z2]; exact z3
  clear b2 B2 hK2 hb3 z3 hrd2
  refine ⟨_, rfl, hK'.out _ _ hrd3 (fun _ => ?_)⟩
  clear hK' K'
  conv =>
    arg 8
    simp [go_sem]
  refine wpAnyH_ready (rs := [3]) (by kernel_rfl) (by simp) (AllReadyH.cons rfl (fun K' hK' => oper_call (by rfl) 32 [.tmp 3, .tmp 5] #[53, 9] rfl (vs := [.agg cs3.toArray, .string ⟨l.toArray⟩]) rfl Tryd.func32 nm32 bd32 (add_s S3 l _ (by have := Hl.out; omega) hK3 (by omega)) ?_) AllReadyH.nil)
  rintro e w4 ⟨cs4, S4, rfl, hb4⟩
  rw [List.nil_append] at S4
  have b4 := b3.call0 hb4
  have B4 := B3.call0 (Nat.le_refl _) hb4
  have hrd4 := hrd3.call0 hb4
  have hK4 := hK3.call0 hb4
  have z4 := hb4.size
  clear b3 B3 hK3 hb4 hrd3 S3
  refine ⟨_, rfl, hK'.out _ _ hrd4 (fun _ => ?_)⟩
  clear hK' K'
  conv =>
    arg 8
    simp [go_sem]
  refine wpAnyH_ready (rs := [4]) (by kernel_rfl) (by simp) (AllReadyH.cons rfl (fun K' hK' => oper_call (by rfl) 33 [.tmp 6] #[53] rfl (vs := [.agg cs4.toArray]) rfl Tryd.func33 nm33 bd33 (sum_s S4 _ (by have := Hl.out; omega) hK4 (by omega)) ?_) AllReadyH.nil)
  rintro e w5 ⟨rfl, hb5⟩
  have b5 := b4.call0 hb5
  have B5 := B4.call0 (Nat.le_refl _) hb5
  have hrd5 := hrd4.call0 hb5
  have hl32 := Box.mk (show (byteVals (sha l)).length = 32 from by rw [byteVals_length, sha_length])
  have ho1 := Box.mk (byteVals_one (sha l))
  clear b4 B4 hK4 hb5 hrd4 S4
  refine ⟨_, rfl, hK'.out _ _ hrd5 (fun _ => ?_)⟩
  clear hK' K'
  generalize byteVals (sha l) = res at *
  conv =>
    arg 8
    simp [go_sem]
  refine wpAnyH_ready (rs := [5]) (by kernel_rfl) (by simp) (AllReadyH.cons rfl (fun K' hK' => oper_store_row (by rfl) 47 (.tmp 2) (.tmp 7) rfl rfl agg47.info b5 rfl rfl (cs := res) rfl hl32.out ho1.out (hK'.out _ _ (hrd.below (below_setRow B5 (Nat.le_refl _) _) (Nat.le_refl _)) (fun _ => ?_))) AllReadyH.nil)
  refine ⟨by kernel_rfl, ?_⟩
  go_wp2_with fail
  exact bodyPost_ret (results_cell1 (g := w.heap.size) (cs := res) rfl _ rfl (b5.row res) (by rw [hl32.out]; exact agg47)) rfl ⟨rfl, below_setRow B5 (Nat.le_refl _) _⟩
end Go.Proofs.YtcngnpkpaliflaaDoor
