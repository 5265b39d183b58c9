/-
  The walk of compress. No condition.
-/
import Derived.Test.YtcngnpkpaliflaaDoorWSched
import Derived.Test.YtcngnpkpaliflaaDoorWNib
import Derived.Test.YtcngnpkpaliflaaDoorHeld
namespace Go.Proofs.YtcngnpkpaliflaaDoor
open Go.RowKit

/-- The round constants lie in memory. -/
def Kons (w : World) : Prop := ∀ j u, (wordVals ((List.range 64).map kAt))[j]? = some u → w.cell? ⟨2, j, none⟩ = some u
theorem Kons.below {w w' : World} {B : Nat} (h : Kons w) (hb : Below B w w') (hB : w.heap.size ≤ B) : Kons w' := fun j u hu => by
  have hc := h j u hu
  have hl := cell_block_lt hc
  rw [hb.cell (p := ⟨2, j, none⟩) (by simp only at hl ⊢; omega)]; exact hc
theorem Kons.call0 {w w' : World} (h : Kons w) (hb : Below w.heap.size w w') : Kons w' := h.below hb (Nat.le_refl _)
theorem Kons.alloc {w : World} (h : Kons w) (o : Obj) : Kons (w.alloc o) := h.call0 ((Below.refl _ _).alloc (Nat.le_refl _) o)
theorem Kons.drew {w : World} (h : Kons w) : Kons w.drew := h

theorem mix1_any (x : UInt32) (w : World) : Calls Tryd.prog 52 #[.int .u32 (x.toNat : Int), .int .i64 6, .int .i64 11, .int .i64 25] w fun e w' => e = .returned (.int .u32 ((rot x 6 ^^^ rot x 11 ^^^ rot x 25).toNat : Int)) ∧ w' = w :=
  (mix_any x 6 11 25 (by omega) (by omega) (by omega) (by omega) (by omega) (by omega) w).mono fun _ _ h => ⟨h.1, h.2.symm⟩
theorem mix2_any (x : UInt32) (w : World) : Calls Tryd.prog 52 #[.int .u32 (x.toNat : Int), .int .i64 2, .int .i64 13, .int .i64 22] w fun e w' => e = .returned (.int .u32 ((rot x 2 ^^^ rot x 13 ^^^ rot x 22).toNat : Int)) ∧ w' = w :=
  (mix_any x 2 13 22 (by omega) (by omega) (by omega) (by omega) (by omega) (by omega) w).mono fun _ _ h => ⟨h.1, h.2.symm⟩
theorem u32_not_word (x : UInt32) : bits .xor .u32 (if IntKind.u32.signed = true then -1 else IntKind.u32.max) (x.toNat : Int) = ((x ^^^ 0xffffffff).toNat : Int) := by
  have h : (if IntKind.u32.signed = true then (-1 : Int) else IntKind.u32.max) = ((4294967295 : Nat) : Int) := by decide
  have hx := x.toNat_lt
  rw [h, u32_xor_nat _ _ (by omega) (by omega), Nat.xor_comm, UInt32.toNat_xor]; rfl
theorem u32_add_wrap (x y : UInt32) : IntKind.u32.wrap ((x.toNat : Int) + (y.toNat : Int)) = ((x + y).toNat : Int) := by
  rw [← u32_add_word]; simp [IntKind.wrap, IntKind.bits, IntKind.signed]
/-- The words of the result, of which the first k and the k from the fifth on are summed up. -/
def sums (s v : S8) (k : Nat) : List Value := wordVals [if 0 < k then v.a else s.a, if 1 < k then v.b else s.b, if 2 < k then v.c else s.c, if 3 < k then v.d else s.d, if 0 < k then v.e else s.e, if 1 < k then v.f else s.f, if 2 < k then v.g else s.g, if 3 < k then v.h else s.h]
theorem zero80 : (Tryd.prog.info? 80).map (·.zero) = some (some (.agg #[.int .u32 0, .int .u32 0, .int .u32 0, .int .u32 0])) := by kernel_rfl
theorem agg50 : AggT Tryd.prog 50 8 := ⟨by kernel_rfl, by kernel_rfl⟩
theorem agg80 : AggT Tryd.prog 80 4 := ⟨by kernel_rfl, by kernel_rfl⟩

set_option maxRecDepth 20000 in
set_option maxHeartbeats 1000000 in
theorem compress_core (s : S8) (b : List UInt8) (res : List Value) (hres : Box (wordVals (comp s b).list = res)) (a : Option Addr) (cap : Nat) (w : World) (hrd : Rd w a 64 cap 1 (byteVals b)) (HKon : Hid (∀ j u, (wordVals ((List.range 64).map kAt))[j]? = some u → w.cell? ((⟨2, 0, none⟩ : Addr).add j) = some u)) (h2 : 2 < w.heap.size) :
    Calls Tryd.prog 47 #[.agg (wordVals s.list).toArray, .slice a 64 cap] w (RetV (.agg res.toArray) w) := by
  obtain ⟨a1, b1, c1, d1, e1, f1, g1, h1⟩ := s
  go_enter Tryd.func47, Tryd.ntmps47
  go_wp2_with fail
  refine (schedule_any b a cap _ ((hrd.alloc _).alloc _)).mono ?_
  rintro e w1 ⟨rfl, hb1⟩
  have hz1 := hb1.size
  simp at hz1
  have hS := (Blk.new (ty := 50) (k := w.heap.size) (w := w) (cs := [.int .u32 (a1.toNat : Int), .int .u32 (b1.toNat : Int), .int .u32 (c1.toNat : Int), .int .u32 (d1.toNat : Int), .int .u32 (e1.toNat : Int), .int .u32 (f1.toNat : Int), .int .u32 (g1.toNat : Int), .int .u32 (h1.toNat : Int)]) rfl rfl).alloc (.cells #[.int .u32 0, .int .u32 0, .int .u32 0, .int .u32 0, .int .u32 0, .int .u32 0, .int .u32 0, .int .u32 0] 50)
  have hS1 := hS.call0 hb1
  have hO1 := (Blk.new (ty := 50) (k := w.heap.size + 1) (cs := [.int .u32 0, .int .u32 0, .int .u32 0, .int .u32 0, .int .u32 0, .int .u32 0, .int .u32 0, .int .u32 0]) (w := w.alloc (.cells #[.int .u32 (a1.toNat : Int), .int .u32 (b1.toNat : Int), .int .u32 (c1.toNat : Int), .int .u32 (d1.toNat : Int), .int .u32 (e1.toNat : Int), .int .u32 (f1.toNat : Int), .int .u32 (g1.toNat : Int), .int .u32 (h1.toNat : Int)] 50)) (by simp) rfl).call0 hb1
  have hB1 := (((Below.refl w.heap.size w).new (Nat.le_refl _) (.cells #[.int .u32 (a1.toNat : Int), .int .u32 (b1.toNat : Int), .int .u32 (c1.toNat : Int), .int .u32 (d1.toNat : Int), .int .u32 (e1.toNat : Int), .int .u32 (f1.toNat : Int), .int .u32 (g1.toNat : Int), .int .u32 (h1.toNat : Int)] 50)).new (Nat.le_refl _) (.cells #[.int .u32 0, .int .u32 0, .int .u32 0, .int .u32 0, .int .u32 0, .int .u32 0, .int .u32 0, .int .u32 0] 50)).call0 (Nat.le_refl _) hb1
  have HW := Lib.hid (show (wordVals (sched b)).length = 64 from by rw [wordVals_length]; exact schedTo_length b 64)
  have H1 := Lib.hid (wordVals_one (sched b))
  clear hb1 hS
  generalize hcs : wordVals (sched b) = cs at *
  have HC := Box.mk hcs; clear hcs
  go_wp2_with ((with_reducible show wpList _ _ _ _ _ _); refine wpList_store_fresh (o := ⟨none, .store 73 (.tmp 5) (.tmp 14), _, _, _, _⟩) (cs := cs) rfl 73 _ _ rfl rfl agg73.info rfl rfl rfl HW.out H1.out ?_)
  have hS2 := hS1.alloc (.cells cs.toArray 73)
  have hlt := hS2.lt
  have hO2 := hO1.alloc (.cells cs.toArray 73)
  have hW2 := Blk.new (w := w1) (ty := 73) (cs := cs) rfl rfl
  have hB2 := hB1.new (Nat.le_refl _) (.cells cs.toArray 73)
  have hz2 : w1.heap.size < (w1.alloc (.cells cs.toArray 73)).heap.size := by simp
  clear hS1 hO1
  generalize w1.alloc (.cells cs.toArray 73) = w2 at *
  generalize w1.heap.size = gw at *
  have ar1 := run_arrayAt (P := Tryd.prog) (arr := 80) (e := 49) (n := 4) (by kernel_rfl) (some ⟨w.heap.size, 0, none⟩) 4 8 (by omega)
  have ar2 := run_arrayAt (P := Tryd.prog) (arr := 80) (e := 49) (n := 4) (by kernel_rfl) (some ⟨w.heap.size, 4, none⟩) 4 4 (by omega)
  go_upto_region 3 with fail
  go_cut [6, 7] from 6 to 20 (fun s6 s7 wx => ∃ p q, s6 = .pointer (some ⟨p, 0, none⟩) ∧ s7 = .pointer (some ⟨q, 0, none⟩) ∧ p ≠ q ∧ gw < p ∧ gw < q ∧ Blk wx p 80 [.int .u32 (a1.toNat : Int), .int .u32 (b1.toNat : Int), .int .u32 (c1.toNat : Int), .int .u32 (d1.toNat : Int)] ∧ Blk wx q 80 [.int .u32 (e1.toNat : Int), .int .u32 (f1.toNat : Int), .int .u32 (g1.toNat : Int), .int .u32 (h1.toNat : Int)] ∧
    Blk wx w.heap.size 50 [.int .u32 (a1.toNat : Int), .int .u32 (b1.toNat : Int), .int .u32 (c1.toNat : Int), .int .u32 (d1.toNat : Int), .int .u32 (e1.toNat : Int), .int .u32 (f1.toNat : Int), .int .u32 (g1.toNat : Int), .int .u32 (h1.toNat : Int)] ∧
    Blk wx (w.heap.size + 1) 50 [.int .u32 0, .int .u32 0, .int .u32 0, .int .u32 0, .int .u32 0, .int .u32 0, .int .u32 0, .int .u32 0] ∧ Blk wx gw 73 cs ∧ Below w.heap.size w wx)
  case first =>
    refine wp_region_held_drew (S := fun w' => Blk w' w.heap.size 50 [.int .u32 (a1.toNat : Int), .int .u32 (b1.toNat : Int), .int .u32 (c1.toNat : Int), .int .u32 (d1.toNat : Int), .int .u32 (e1.toNat : Int), .int .u32 (f1.toNat : Int), .int .u32 (g1.toNat : Int), .int .u32 (h1.toNat : Int)]) (by kernel_rfl) hS2.drew (fun _ => ?_)
    refine wpAnyH_take (i := 0) (v := ?_) rfl (by kernel_rfl) (by kernel_rfl) (by kernel_rfl) (fun _ _ _ h => h) (yieldsIf_val (by rfl) (fun w' _ => ?_)) hS2.drew ?_
    rotate_left
    · go_simp
      all_goals with_reducible rfl
    refine wpAnyH_take (i := 1) (v := ?_) rfl (by kernel_rfl) (by kernel_rfl) (by kernel_rfl) (fun _ _ _ h => h) (yieldsIf_val (by rfl) (fun w' _ => ?_)) hS2.drew ?_
    rotate_left
    · go_simp
      all_goals with_reducible rfl
    refine wpAnyH_take (i := 2) (v := .agg #[.int .u32 (a1.toNat : Int), .int .u32 (b1.toNat : Int), .int .u32 (c1.toNat : Int), .int .u32 (d1.toNat : Int)]) rfl (by kernel_rfl) (by kernel_rfl) (by kernel_rfl) (fun _ _ _ h => h) (yieldsIf_load_agg (by rfl) 80 (.tmp 16) rfl agg80 rfl (cs := [.int .u32 (a1.toNat : Int), .int .u32 (b1.toNat : Int), .int .u32 (c1.toNat : Int), .int .u32 (d1.toNat : Int)]) rfl (fun w' hS => hS.part 0 4)) hS2.drew ?_
    refine wpAnyH_take (i := 3) (v := ?_) rfl (by kernel_rfl) (by kernel_rfl) (by kernel_rfl) (fun _ _ _ h => h) (yieldsIf_val (by rfl) (fun w' _ => ?_)) hS2.drew ?_
    rotate_left
    · go_simp
      all_goals with_reducible rfl
    refine wpAnyH_take (i := 4) (v := ?_) rfl (by kernel_rfl) (by kernel_rfl) (by kernel_rfl) (fun _ _ _ h => h) (yieldsIf_val (by rfl) (fun w' _ => ?_)) hS2.drew ?_
    rotate_left
    · go_simp
      all_goals with_reducible rfl
    refine wpAnyH_take (i := 5) (v := .agg #[.int .u32 (e1.toNat : Int), .int .u32 (f1.toNat : Int), .int .u32 (g1.toNat : Int), .int .u32 (h1.toNat : Int)]) rfl (by kernel_rfl) (by kernel_rfl) (by kernel_rfl) (fun _ _ _ h => h) (yieldsIf_load_agg (by rfl) 80 (.tmp 19) rfl agg80 rfl (cs := [.int .u32 (e1.toNat : Int), .int .u32 (f1.toNat : Int), .int .u32 (g1.toNat : Int), .int .u32 (h1.toNat : Int)]) rfl (fun w' hS => hS.part 4 4)) hS2.drew ?_
    conv =>
      arg 8
      simp [go_sem]
    refine wpAnyH_ready (rs := [6, 7]) (by kernel_rfl) (by simp) (AllReadyH.cons rfl (fun K' hK => oper_alloc (by rfl) 80 rfl zero80 (zc := #[.int .u32 0, .int .u32 0, .int .u32 0, .int .u32 0]) rfl (hK.out _ _ (hS2.drew.alloc _) (fun _ => ?_))) (AllReadyH.cons rfl (fun K' hK => oper_alloc (by rfl) 80 rfl zero80 (zc := #[.int .u32 0, .int .u32 0, .int .u32 0, .int .u32 0]) rfl (hK.out _ _ (hS2.drew.alloc _) (fun _ => ?_))) AllReadyH.nil))
    · refine wpAnyH_ready (rs := [7]) (by kernel_rfl) (by simp) (AllReadyH.cons rfl (fun K' hK => oper_alloc (by rfl) 80 rfl zero80 (zc := #[.int .u32 0, .int .u32 0, .int .u32 0, .int .u32 0]) rfl (hK.out _ _ ((hS2.drew.alloc _).alloc _) (fun _ => ?_))) AllReadyH.nil)
      have m1 := (Blk.new (ty := 80) (cs := [.int .u32 0, .int .u32 0, .int .u32 0, .int .u32 0]) (w := w2.drew) (k := w2.heap.size) rfl rfl).alloc (.cells #[.int .u32 0, .int .u32 0, .int .u32 0, .int .u32 0] 80)
      have m2 := Blk.new (ty := 80) (cs := [.int .u32 0, .int .u32 0, .int .u32 0, .int .u32 0]) (w := w2.drew.alloc (.cells #[.int .u32 0, .int .u32 0, .int .u32 0, .int .u32 0] 80)) (k := (w2.drew.alloc (.cells #[.int .u32 0, .int .u32 0, .int .u32 0, .int .u32 0] 80)).heap.size) rfl rfl
      have n1 := (hS2.drew.alloc (.cells #[.int .u32 0, .int .u32 0, .int .u32 0, .int .u32 0] 80)).alloc (.cells #[.int .u32 0, .int .u32 0, .int .u32 0, .int .u32 0] 80)
      have n2 := (hO2.drew.alloc (.cells #[.int .u32 0, .int .u32 0, .int .u32 0, .int .u32 0] 80)).alloc (.cells #[.int .u32 0, .int .u32 0, .int .u32 0, .int .u32 0] 80)
      have n3 := (hW2.drew.alloc (.cells #[.int .u32 0, .int .u32 0, .int .u32 0, .int .u32 0] 80)).alloc (.cells #[.int .u32 0, .int .u32 0, .int .u32 0, .int .u32 0] 80)
      have n4 := (hB2.drew.new (Nat.le_refl _) (.cells #[.int .u32 0, .int .u32 0, .int .u32 0, .int .u32 0] 80)).new (Nat.le_refl _) (.cells #[.int .u32 0, .int .u32 0, .int .u32 0, .int .u32 0] 80)
      have hp2 : (w2.drew.alloc (.cells #[.int .u32 0, .int .u32 0, .int .u32 0, .int .u32 0] 80)).heap.size = w2.heap.size + 1 := by simp
      generalize hP : (w2.drew.alloc (.cells #[.int .u32 0, .int .u32 0, .int .u32 0, .int .u32 0] 80)).heap.size = P2 at *
      generalize (w2.drew.alloc (.cells #[.int .u32 0, .int .u32 0, .int .u32 0, .int .u32 0] 80)).alloc (.cells #[.int .u32 0, .int .u32 0, .int .u32 0, .int .u32 0] 80) = w5 at *
      conv =>
        arg 8
        simp [go_sem]
      refine wpAnyH_ready (rs := [8]) (by kernel_rfl) (by simp) (AllReadyH.cons rfl (fun K' hK => oper_store_row (by rfl) 80 (.tmp 6) (.tmp 17) rfl rfl agg80.info (g := w2.heap.size) (cur := [.int .u32 0, .int .u32 0, .int .u32 0, .int .u32 0]) m1 rfl rfl (cs := [.int .u32 (a1.toNat : Int), .int .u32 (b1.toNat : Int), .int .u32 (c1.toNat : Int), .int .u32 (d1.toNat : Int)]) rfl rfl (by simp [Value.oneCell']) (hK.out _ _ (n1.rowOther (by omega) _) (fun _ => ?_))) AllReadyH.nil)
      refine wpAnyH_ready (rs := [9]) (by kernel_rfl) (by simp) (AllReadyH.cons rfl (fun K' hK => oper_store_row (by rfl) 80 (.tmp 7) (.tmp 20) rfl rfl agg80.info (g := P2) (cur := [.int .u32 0, .int .u32 0, .int .u32 0, .int .u32 0]) (m2.rowOther (by omega) _) rfl rfl (cs := [.int .u32 (e1.toNat : Int), .int .u32 (f1.toNat : Int), .int .u32 (g1.toNat : Int), .int .u32 (h1.toNat : Int)]) rfl rfl (by simp [Value.oneCell']) (hK.out _ _ ((n1.rowOther (by omega) _).rowOther (by omega) _) (fun _ => ?_))) AllReadyH.nil)
      refine ⟨by kernel_rfl, ?_⟩
      go_wp2_with fail
      go_meet
      exact ⟨w2.heap.size, P2, rfl, rfl, by omega, by omega, by omega, (m1.row _).rowOther (by omega) _, (m2.rowOther (by omega) _).row _, (n1.rowOther (by omega) _).rowOther (by omega) _, (n2.rowOther (by omega) _).rowOther (by omega) _, (n3.rowOther (by omega) _).rowOther (by omega) _, below_setRow (below_setRow n4 (by omega) _) (by omega) _⟩
    · refine wpAnyH_ready (rs := [6]) (by kernel_rfl) (by simp) (AllReadyH.cons rfl (fun K' hK => oper_alloc (by rfl) 80 rfl zero80 (zc := #[.int .u32 0, .int .u32 0, .int .u32 0, .int .u32 0]) rfl (hK.out _ _ ((hS2.drew.alloc _).alloc _) (fun _ => ?_))) AllReadyH.nil)
      have m1 := (Blk.new (ty := 80) (cs := [.int .u32 0, .int .u32 0, .int .u32 0, .int .u32 0]) (w := w2.drew) (k := w2.heap.size) rfl rfl).alloc (.cells #[.int .u32 0, .int .u32 0, .int .u32 0, .int .u32 0] 80)
      have m2 := Blk.new (ty := 80) (cs := [.int .u32 0, .int .u32 0, .int .u32 0, .int .u32 0]) (w := w2.drew.alloc (.cells #[.int .u32 0, .int .u32 0, .int .u32 0, .int .u32 0] 80)) (k := (w2.drew.alloc (.cells #[.int .u32 0, .int .u32 0, .int .u32 0, .int .u32 0] 80)).heap.size) rfl rfl
      have n1 := (hS2.drew.alloc (.cells #[.int .u32 0, .int .u32 0, .int .u32 0, .int .u32 0] 80)).alloc (.cells #[.int .u32 0, .int .u32 0, .int .u32 0, .int .u32 0] 80)
      have n2 := (hO2.drew.alloc (.cells #[.int .u32 0, .int .u32 0, .int .u32 0, .int .u32 0] 80)).alloc (.cells #[.int .u32 0, .int .u32 0, .int .u32 0, .int .u32 0] 80)
      have n3 := (hW2.drew.alloc (.cells #[.int .u32 0, .int .u32 0, .int .u32 0, .int .u32 0] 80)).alloc (.cells #[.int .u32 0, .int .u32 0, .int .u32 0, .int .u32 0] 80)
      have n4 := (hB2.drew.new (Nat.le_refl _) (.cells #[.int .u32 0, .int .u32 0, .int .u32 0, .int .u32 0] 80)).new (Nat.le_refl _) (.cells #[.int .u32 0, .int .u32 0, .int .u32 0, .int .u32 0] 80)
      have hp2 : (w2.drew.alloc (.cells #[.int .u32 0, .int .u32 0, .int .u32 0, .int .u32 0] 80)).heap.size = w2.heap.size + 1 := by simp
      generalize hP : (w2.drew.alloc (.cells #[.int .u32 0, .int .u32 0, .int .u32 0, .int .u32 0] 80)).heap.size = P2 at *
      generalize (w2.drew.alloc (.cells #[.int .u32 0, .int .u32 0, .int .u32 0, .int .u32 0] 80)).alloc (.cells #[.int .u32 0, .int .u32 0, .int .u32 0, .int .u32 0] 80) = w5 at *
      conv =>
        arg 8
        simp [go_sem]
      refine wpAnyH_ready (rs := [8]) (by kernel_rfl) (by simp) (AllReadyH.cons rfl (fun K' hK => oper_store_row (by rfl) 80 (.tmp 6) (.tmp 17) rfl rfl agg80.info (g := P2) (cur := [.int .u32 0, .int .u32 0, .int .u32 0, .int .u32 0]) m2 rfl rfl (cs := [.int .u32 (a1.toNat : Int), .int .u32 (b1.toNat : Int), .int .u32 (c1.toNat : Int), .int .u32 (d1.toNat : Int)]) rfl rfl (by simp [Value.oneCell']) (hK.out _ _ (n1.rowOther (by omega) _) (fun _ => ?_))) AllReadyH.nil)
      refine wpAnyH_ready (rs := [9]) (by kernel_rfl) (by simp) (AllReadyH.cons rfl (fun K' hK => oper_store_row (by rfl) 80 (.tmp 7) (.tmp 20) rfl rfl agg80.info (g := w2.heap.size) (cur := [.int .u32 0, .int .u32 0, .int .u32 0, .int .u32 0]) (m1.rowOther (by omega) _) rfl rfl (cs := [.int .u32 (e1.toNat : Int), .int .u32 (f1.toNat : Int), .int .u32 (g1.toNat : Int), .int .u32 (h1.toNat : Int)]) rfl rfl (by simp [Value.oneCell']) (hK.out _ _ ((n1.rowOther (by omega) _).rowOther (by omega) _) (fun _ => ?_))) AllReadyH.nil)
      refine ⟨by kernel_rfl, ?_⟩
      go_wp2_with fail
      go_meet
      exact ⟨P2, w2.heap.size, rfl, rfl, by omega, by omega, by omega, (m2.row _).rowOther (by omega) _, (m1.rowOther (by omega) _).row _, (n1.rowOther (by omega) _).rowOther (by omega) _, (n2.rowOther (by omega) _).rowOther (by omega) _, (n3.rowOther (by omega) _).rowOther (by omega) _, below_setRow (below_setRow n4 (by omega) _) (by omega) _⟩
  case rest =>
    obtain ⟨p, q, rfl, rfl, hpq, hgp, hgq, bp, bq, bS, bO, bW, hB⟩ := hcut
    have KL := Lib.hid (show (wordVals ((List.range 64).map kAt)).length = 64 from by simp [wordVals])
    have KG : Hid (∀ t, t < 64 → (wordVals ((List.range 64).map kAt))[t]? = some (.int .u32 ((kAt t).toNat : Int))) := fun t ht => by simp [wordVals, ht]
    have HK2 := Lib.hid (fun j u h => (hB.cell (p := (⟨2, 0, none⟩ : Addr).add j) (by rw [add_block]; exact h2)).trans (HKon.out j u h))
    clear HKon hrd hS2 hO2 hW2 hB2 hB1
    generalize wordVals ((List.range 64).map kAt) = ks at *
    go_wp2_with ((with_reducible show wpList _ _ _ _ _ _); refine wpList_load_agg (o := ⟨some 21, _, _, _, _, _⟩) rfl 73 _ rfl agg73 rfl (cs := ks) KL.out HK2.out ?_)
    go_loopw [22] (fun i wr => ∃ (t : Nat) (v : S8), t ≤ 64 ∧ i = .int .i64 t ∧ Box (v = rndTo ⟨a1, b1, c1, d1, e1, f1, g1, h1⟩ (sched b) t) ∧ Blk wr p 80 [.int .u32 (v.a.toNat : Int), .int .u32 (v.b.toNat : Int), .int .u32 (v.c.toNat : Int), .int .u32 (v.d.toNat : Int)] ∧
        Blk wr q 80 [.int .u32 (v.e.toNat : Int), .int .u32 (v.f.toNat : Int), .int .u32 (v.g.toNat : Int), .int .u32 (v.h.toNat : Int)] ∧
        Blk wr w.heap.size 50 [.int .u32 (a1.toNat : Int), .int .u32 (b1.toNat : Int), .int .u32 (c1.toNat : Int), .int .u32 (d1.toNat : Int), .int .u32 (e1.toNat : Int), .int .u32 (f1.toNat : Int), .int .u32 (g1.toNat : Int), .int .u32 (h1.toNat : Int)] ∧
        Blk wr (w.heap.size + 1) 50 [.int .u32 0, .int .u32 0, .int .u32 0, .int .u32 0, .int .u32 0, .int .u32 0, .int .u32 0, .int .u32 0] ∧ Blk wr gw 73 cs ∧ Below w.heap.size w wr)
      (fun i _ => 64 - (intOf i).toNat)
    case atStart => exact ⟨0, ⟨a1, b1, c1, d1, e1, f1, g1, h1⟩, by omega, rfl, ⟨rfl⟩, bp, bq, bS, bO, bW, hB⟩
    case round =>
      clear bp bq bS bO bW hB
      obtain ⟨t, v, ht, rfl, HV, bp, bq, bS, bO, bW, hB⟩ := hrel
      obtain ⟨wo, rfl⟩ : ∃ wo : World, wo = wr := ⟨_, rfl⟩
      obtain ⟨va, vb, vc, vd, ve, vf, vg, vh⟩ := v
      simp only at bp bq
      by_cases hlt64 : t < 64
      · have hkt := KG.out t hlt64
        go_wp2_with ((with_reducible show wpList _ _ _ _ _ _); refine wpList_index_agg (o := ⟨some 25, _, _, _, _, _⟩) rfl 73 _ _ rfl (e := 49) (n := 64) (by kernel_rfl) (by kernel_rfl) (by kernel_rfl) (cs := ks) rfl hlt64 rfl hkt ?_)
        have hwt : wo.cell? ⟨gw, t, none⟩ = some (.int .u32 (((sched b).getD t 0).toNat : Int)) := bW.cellOf (by
          have hl : t < (sched b).length := by rw [show (sched b).length = 64 from schedTo_length b 64]; exact hlt64
          rw [← HC.out]; simp [wordVals, List.getD_eq_getElem?_getD, List.getElem?_eq_getElem hl])
        have HR : Box (rndTo ⟨a1, b1, c1, d1, e1, f1, g1, h1⟩ (sched b) (t + 1) = rnd ⟨va, vb, vc, vd, ve, vf, vg, vh⟩ (kAt t) ((sched b).getD t 0)) := ⟨by rw [HV.out]; rfl⟩
        have C1 := Lib.hid (mix1_any ve)
        have C2 := Lib.hid (mix2_any va)
        have cq0 := bq.cellOf (i := 0) rfl
        have cq1 := bq.cellOf (i := 1) rfl
        have cq2 := bq.cellOf (i := 2) rfl
        have cq3 := bq.cellOf (i := 3) rfl
        have cp0 := bp.cellOf (i := 0) rfl
        have cp1 := bp.cellOf (i := 1) rfl
        have cp2 := bp.cellOf (i := 2) rfl
        have cp3 := bp.cellOf (i := 3) rfl
        have HX : Box (tx ⟨va, vb, vc, vd, ve, vf, vg, vh⟩ (kAt t) ((sched b).getD t 0) = vh + (rot ve 6 ^^^ rot ve 11 ^^^ rot ve 25) + ((ve &&& vf) ^^^ ((ve ^^^ 0xffffffff) &&& vg)) + kAt t + (sched b).getD t 0) := ⟨rfl⟩
        have HY : Box (ty ⟨va, vb, vc, vd, ve, vf, vg, vh⟩ = (rot va 2 ^^^ rot va 13 ^^^ rot va 22) + ((va &&& vb) ^^^ (va &&& vc) ^^^ (vb &&& vc))) := ⟨rfl⟩
        generalize (sched b).getD t 0 = wt at *
        generalize kAt t = kt at *
        generalize rot ve 6 ^^^ rot ve 11 ^^^ rot ve 25 = M1 at *
        generalize rot va 2 ^^^ rot va 13 ^^^ rot va 22 = M2 at *
        have k1 := u32_and_word ve vf
        have k2 := u32_not_word ve
        have k3 := u32_and_word (ve ^^^ 0xffffffff) vg
        have k4 := u32_xor_word (ve &&& vf) ((ve ^^^ 0xffffffff) &&& vg)
        have g1' := u32_and_word va vb
        have g2' := u32_and_word va vc
        have g3' := u32_and_word vb vc
        have g4' := u32_xor_word (va &&& vb) (va &&& vc)
        have g5' := u32_xor_word (va &&& vb ^^^ va &&& vc) (vb &&& vc)
        generalize (va &&& vb ^^^ va &&& vc) ^^^ vb &&& vc = MJ at *
        generalize va &&& vb ^^^ va &&& vc = MK at *
        generalize va &&& vb = B1 at *
        generalize va &&& vc = B2 at *
        generalize vb &&& vc = B3 at *
        generalize (ve &&& vf) ^^^ ((ve ^^^ 0xffffffff) &&& vg) = CH at *
        generalize (ve ^^^ 0xffffffff) &&& vg = A2 at *
        generalize ve ^^^ 0xffffffff = NE at *
        generalize ve &&& vf = A1 at *
        have s1 := u32_add_word vh M1
        have z1 := u32_add_wrap vh M1
        have s2 := u32_add_word (vh + M1) CH
        have z2 := u32_add_wrap (vh + M1) CH
        have s3 := u32_add_word (vh + M1 + CH) kt
        have z3 := u32_add_wrap (vh + M1 + CH) kt
        have s4 := u32_add_word (vh + M1 + CH + kt) wt
        have z4 := u32_add_wrap (vh + M1 + CH + kt) wt
        have s5 := u32_add_word M2 MJ
        have z5 := u32_add_wrap M2 MJ
        have r1 := u32_add_word vd (vh + M1 + CH + kt + wt)
        have r2 := u32_add_word (vh + M1 + CH + kt + wt) (M2 + MJ)
        generalize vh + M1 + CH + kt + wt = X at *
        generalize vh + M1 + CH + kt = N3 at *
        generalize vh + M1 + CH = N2 at *
        generalize vh + M1 = N1 at *
        generalize M2 + MJ = Y at *
        have HN : Box (rndTo ⟨a1, b1, c1, d1, e1, f1, g1, h1⟩ (sched b) (t + 1) = ⟨X + Y, va, vb, vc, vd + X, ve, vf, vg⟩) := ⟨by rw [HR.out]; unfold rnd; rw [HX.out, HY.out]⟩
        generalize X + Y = V at *
        generalize vd + X = U at *
        go_quiet ((go_at_call 52; exact Calls.quiet_of_same (C1.out _)))
        have bp' := bp.drewN nq
        have bq' := bq.drewN nq
        have bS' := bS.drewN nq
        have bO' := bO.drewN nq
        have bW' := bW.drewN nq
        have hB' := below_drewN hB nq
        have cr0 := bp'.cellOf (i := 0) rfl
        have cr1 := bp'.cellOf (i := 1) rfl
        have cr2 := bp'.cellOf (i := 2) rfl
        clear bp bq bS bO bW hB
        generalize wo.drewN nq = wd at *
        go_wp2_with fail
        go_quiet ((go_at_call 52; exact Calls.quiet_of_same (C2.out _)))
        have bp2 := bp'.drewN nq
        have bq2 := bq'.drewN nq
        have bS2 := bS'.drewN nq
        have bO2 := bO'.drewN nq
        have bW2 := bW'.drewN nq
        have hB2 := below_drewN hB' nq
        have ct0 := bp2.cellOf (i := 0) rfl
        have ct1 := bp2.cellOf (i := 1) rfl
        have ct2 := bp2.cellOf (i := 2) rfl
        have ct3 := bp2.cellOf (i := 3) rfl
        have cu0 := bq2.cellOf (i := 0) rfl
        have cu1 := bq2.cellOf (i := 1) rfl
        have cu2 := bq2.cellOf (i := 2) rfl
        clear bp' bq' bS' bO' bW' hB' cr0 cr1 cr2
        generalize wd.drewN nq = wy at *
        have bp3 := bp2.rowOther hpq #[.int .u32 (U.toNat : Int), .int .u32 (ve.toNat : Int), .int .u32 (vf.toNat : Int), .int .u32 (vg.toNat : Int)]
        have cx0 := bp3.cellOf (i := 0) rfl
        have cx1 := bp3.cellOf (i := 1) rfl
        have cx2 := bp3.cellOf (i := 2) rfl
        go_wp2_with (first
          | ((with_reducible show wpList _ _ _ _ _ _); refine wpList_store_row (o := ⟨none, .store 80 (.tmp 7) (.tmp 82), _, _, _, _⟩) rfl 80 _ _ rfl rfl agg80.info bq2 rfl rfl (cs := [.int .u32 (U.toNat : Int), .int .u32 (ve.toNat : Int), .int .u32 (vf.toNat : Int), .int .u32 (vg.toNat : Int)]) rfl rfl (by simp [Value.oneCell']) ?_)
          | ((with_reducible show wpList _ _ _ _ _ _); refine wpList_store_row (o := ⟨none, .store 80 (.tmp 6) (.tmp 92), _, _, _, _⟩) rfl 80 _ _ rfl rfl agg80.info bp3 rfl rfl (cs := [.int .u32 (V.toNat : Int), .int .u32 (va.toNat : Int), .int .u32 (vb.toNat : Int), .int .u32 (vc.toNat : Int)]) rfl rfl (by simp [Value.oneCell']) ?_))
        go_roundw
        case rel => exact ⟨t + 1, ⟨V, va, vb, vc, U, ve, vf, vg⟩, by omega, by go_num, ⟨HN.out.symm⟩, bp3.row _, (bq2.row _).rowOther (Ne.symm hpq) _, (bS2.rowOther (by omega) _).rowOther (by omega) _, (bO2.rowOther (by omega) _).rowOther (by omega) _, (bW2.rowOther (by omega) _).rowOther (by omega) _, below_setRow (below_setRow hB2 (by omega) _) (by omega) _⟩
        case measure => simp [intOf]; omega
      · have h64 : t = 64 := by omega
        subst h64
        have HF : Box (comp ⟨a1, b1, c1, d1, e1, f1, g1, h1⟩ b = ⟨a1 + va, b1 + vb, c1 + vc, d1 + vd, e1 + ve, f1 + vf, g1 + vg, h1 + vh⟩) := ⟨by unfold comp; rw [← HV.out]; rfl⟩
        have z0 := u32_add_wrap a1 va
        have s0 := u32_add_word a1 va
        generalize a1 + va = wa at *
        have z1 := u32_add_wrap b1 vb
        have s1 := u32_add_word b1 vb
        generalize b1 + vb = wb at *
        have z2 := u32_add_wrap c1 vc
        have s2 := u32_add_word c1 vc
        generalize c1 + vc = wc' at *
        have z3 := u32_add_wrap d1 vd
        have s3 := u32_add_word d1 vd
        generalize d1 + vd = wd' at *
        have z4 := u32_add_wrap e1 ve
        have s4 := u32_add_word e1 ve
        generalize e1 + ve = we at *
        have z5 := u32_add_wrap f1 vf
        have s5 := u32_add_word f1 vf
        generalize f1 + vf = wf at *
        have z6 := u32_add_wrap g1 vg
        have s6 := u32_add_word g1 vg
        generalize g1 + vg = wg at *
        have z7 := u32_add_wrap h1 vh
        have s7 := u32_add_word h1 vh
        generalize h1 + vh = wh at *
        go_wp2_with fail
        go_loopw [94] (fun i wr => ∃ k : Int, 0 ≤ k ∧ k ≤ 4 ∧ i = .int .i64 k ∧ Blk wr w.heap.size 50 (sums ⟨a1, b1, c1, d1, e1, f1, g1, h1⟩ ⟨wa, wb, wc', wd', we, wf, wg, wh⟩ k.toNat) ∧ Blk wr p 80 [.int .u32 (va.toNat : Int), .int .u32 (vb.toNat : Int), .int .u32 (vc.toNat : Int), .int .u32 (vd.toNat : Int)] ∧
            Blk wr q 80 [.int .u32 (ve.toNat : Int), .int .u32 (vf.toNat : Int), .int .u32 (vg.toNat : Int), .int .u32 (vh.toNat : Int)] ∧ Blk wr (w.heap.size + 1) 50 [.int .u32 0, .int .u32 0, .int .u32 0, .int .u32 0, .int .u32 0, .int .u32 0, .int .u32 0, .int .u32 0] ∧ Below w.heap.size w wr) (fun i _ => (4 - intOf i).toNat)
        case atStart => exact ⟨0, by omega, by omega, rfl, bS, bp, bq, bO, hB⟩
        case round =>
          clear bS bp bq bO hB bW
          obtain ⟨k, hk0, hk4, rfl, bS, bp, bq, bO, hB⟩ := hrel
          rcases (show k = 0 ∨ k = 1 ∨ k = 2 ∨ k = 3 ∨ k = 4 by omega) with rfl | rfl | rfl | rfl | rfl
          · have bs0 : Blk wr w.heap.size 50 [.int .u32 (a1.toNat : Int), .int .u32 (b1.toNat : Int), .int .u32 (c1.toNat : Int), .int .u32 (d1.toNat : Int), .int .u32 (e1.toNat : Int), .int .u32 (f1.toNat : Int), .int .u32 (g1.toNat : Int), .int .u32 (h1.toNat : Int)] := bS
            have x0 := bs0.cellOf (i := 0) rfl
            have x1 := bp.cellOf (i := 0) rfl
            have y0 := bs0.free 0
            have bs1 := (bs0.set 0 (.int .u32 (wa.toNat : Int))).drew
            have bp1 := (bp.other (p := ⟨w.heap.size, 0, none⟩) (by simp; omega) (.int .u32 (wa.toNat : Int))).drew
            have bq1 := (bq.other (p := ⟨w.heap.size, 0, none⟩) (by simp; omega) (.int .u32 (wa.toNat : Int))).drew
            have bO1 := (bO.other (p := ⟨w.heap.size, 0, none⟩) (by simp) (.int .u32 (wa.toNat : Int))).drew
            have hB1 := (hB.setCell (p := ⟨w.heap.size, 0, none⟩) (Nat.le_refl _) (.int .u32 (wa.toNat : Int))).drew
            go_wp2_with fail
            go_region
            clear x0 x1 y0 bs0 bS
            generalize (wr.setCell ⟨w.heap.size, 0, none⟩ (.int .u32 (wa.toNat : Int))).drew = wx at *
            have x2 := bs1.cellOf (i := 4) rfl
            have x3 := bq1.cellOf (i := 0) rfl
            have y1 := bs1.free 4
            go_wp2_with fail
            go_region
            go_wp2_with fail
            go_roundw
            case rel => exact ⟨1, by omega, by omega, by first | rfl | go_num, (bs1.set 4 _).drew, (bp1.other (by simp; omega) _).drew, (bq1.other (by simp; omega) _).drew, (bO1.other (by simp) _).drew, (hB1.setCell (Nat.le_refl _) _).drew⟩
            case measure => first | (simp [intOf]; done) | (simp [intOf]; omega)
          · have bs0 : Blk wr w.heap.size 50 [.int .u32 (wa.toNat : Int), .int .u32 (b1.toNat : Int), .int .u32 (c1.toNat : Int), .int .u32 (d1.toNat : Int), .int .u32 (we.toNat : Int), .int .u32 (f1.toNat : Int), .int .u32 (g1.toNat : Int), .int .u32 (h1.toNat : Int)] := bS
            have x0 := bs0.cellOf (i := 1) rfl
            have x1 := bp.cellOf (i := 1) rfl
            have y0 := bs0.free 1
            have bs1 := (bs0.set 1 (.int .u32 (wb.toNat : Int))).drew
            have bp1 := (bp.other (p := ⟨w.heap.size, 1, none⟩) (by simp; omega) (.int .u32 (wb.toNat : Int))).drew
            have bq1 := (bq.other (p := ⟨w.heap.size, 1, none⟩) (by simp; omega) (.int .u32 (wb.toNat : Int))).drew
            have bO1 := (bO.other (p := ⟨w.heap.size, 1, none⟩) (by simp) (.int .u32 (wb.toNat : Int))).drew
            have hB1 := (hB.setCell (p := ⟨w.heap.size, 1, none⟩) (Nat.le_refl _) (.int .u32 (wb.toNat : Int))).drew
            go_wp2_with fail
            go_region
            clear x0 x1 y0 bs0 bS
            generalize (wr.setCell ⟨w.heap.size, 1, none⟩ (.int .u32 (wb.toNat : Int))).drew = wx at *
            have x2 := bs1.cellOf (i := 5) rfl
            have x3 := bq1.cellOf (i := 1) rfl
            have y1 := bs1.free 5
            go_wp2_with fail
            go_region
            go_wp2_with fail
            go_roundw
            case rel => exact ⟨2, by omega, by omega, by first | rfl | go_num, (bs1.set 5 _).drew, (bp1.other (by simp; omega) _).drew, (bq1.other (by simp; omega) _).drew, (bO1.other (by simp) _).drew, (hB1.setCell (Nat.le_refl _) _).drew⟩
            case measure => first | (simp [intOf]; done) | (simp [intOf]; omega)
          · have bs0 : Blk wr w.heap.size 50 [.int .u32 (wa.toNat : Int), .int .u32 (wb.toNat : Int), .int .u32 (c1.toNat : Int), .int .u32 (d1.toNat : Int), .int .u32 (we.toNat : Int), .int .u32 (wf.toNat : Int), .int .u32 (g1.toNat : Int), .int .u32 (h1.toNat : Int)] := bS
            have x0 := bs0.cellOf (i := 2) rfl
            have x1 := bp.cellOf (i := 2) rfl
            have y0 := bs0.free 2
            have bs1 := (bs0.set 2 (.int .u32 (wc'.toNat : Int))).drew
            have bp1 := (bp.other (p := ⟨w.heap.size, 2, none⟩) (by simp; omega) (.int .u32 (wc'.toNat : Int))).drew
            have bq1 := (bq.other (p := ⟨w.heap.size, 2, none⟩) (by simp; omega) (.int .u32 (wc'.toNat : Int))).drew
            have bO1 := (bO.other (p := ⟨w.heap.size, 2, none⟩) (by simp) (.int .u32 (wc'.toNat : Int))).drew
            have hB1 := (hB.setCell (p := ⟨w.heap.size, 2, none⟩) (Nat.le_refl _) (.int .u32 (wc'.toNat : Int))).drew
            go_wp2_with fail
            go_region
            clear x0 x1 y0 bs0 bS
            generalize (wr.setCell ⟨w.heap.size, 2, none⟩ (.int .u32 (wc'.toNat : Int))).drew = wx at *
            have x2 := bs1.cellOf (i := 6) rfl
            have x3 := bq1.cellOf (i := 2) rfl
            have y1 := bs1.free 6
            go_wp2_with fail
            go_region
            go_wp2_with fail
            go_roundw
            case rel => exact ⟨3, by omega, by omega, by first | rfl | go_num, (bs1.set 6 _).drew, (bp1.other (by simp; omega) _).drew, (bq1.other (by simp; omega) _).drew, (bO1.other (by simp) _).drew, (hB1.setCell (Nat.le_refl _) _).drew⟩
            case measure => first | (simp [intOf]; done) | (simp [intOf]; omega)
          · have bs0 : Blk wr w.heap.size 50 [.int .u32 (wa.toNat : Int), .int .u32 (wb.toNat : Int), .int .u32 (wc'.toNat : Int), .int .u32 (d1.toNat : Int), .int .u32 (we.toNat : Int), .int .u32 (wf.toNat : Int), .int .u32 (wg.toNat : Int), .int .u32 (h1.toNat : Int)] := bS
            have x0 := bs0.cellOf (i := 3) rfl
            have x1 := bp.cellOf (i := 3) rfl
            have y0 := bs0.free 3
            have bs1 := (bs0.set 3 (.int .u32 (wd'.toNat : Int))).drew
            have bp1 := (bp.other (p := ⟨w.heap.size, 3, none⟩) (by simp; omega) (.int .u32 (wd'.toNat : Int))).drew
            have bq1 := (bq.other (p := ⟨w.heap.size, 3, none⟩) (by simp; omega) (.int .u32 (wd'.toNat : Int))).drew
            have bO1 := (bO.other (p := ⟨w.heap.size, 3, none⟩) (by simp) (.int .u32 (wd'.toNat : Int))).drew
            have hB1 := (hB.setCell (p := ⟨w.heap.size, 3, none⟩) (Nat.le_refl _) (.int .u32 (wd'.toNat : Int))).drew
            go_wp2_with fail
            go_region
            clear x0 x1 y0 bs0 bS
            generalize (wr.setCell ⟨w.heap.size, 3, none⟩ (.int .u32 (wd'.toNat : Int))).drew = wx at *
            have x2 := bs1.cellOf (i := 7) rfl
            have x3 := bq1.cellOf (i := 3) rfl
            have y1 := bs1.free 7
            go_wp2_with fail
            go_region
            go_wp2_with fail
            go_roundw
            case rel => exact ⟨4, by omega, by omega, by first | rfl | go_num, (bs1.set 7 _).drew, (bp1.other (by simp; omega) _).drew, (bq1.other (by simp; omega) _).drew, (bO1.other (by simp) _).drew, (hB1.setCell (Nat.le_refl _) _).drew⟩
            case measure => first | (simp [intOf]; done) | (simp [intOf]; omega)
          · have HR : Box (wordVals [wa, wb, wc', wd', we, wf, wg, wh] = res) := ⟨by rw [← hres.out, HF.out]; rfl⟩
            have bS' : Blk wr w.heap.size 50 (wordVals [wa, wb, wc', wd', we, wf, wg, wh]) := bS
            have Hn : (wordVals [wa, wb, wc', wd', we, wf, wg, wh]).length = 8 := rfl
            have H1' := Lib.hid (wordVals_one [wa, wb, wc', wd', we, wf, wg, wh])
            clear bS bp bq
            rw [HR.out] at bS' Hn H1'
            clear HR HF HV hres H1 z0 z1 z2 z3 z4 z5 z6 z7 s0 s1 s2 s3 s4 s5 s6 s7
            go_wp2_with (first
              | ((with_reducible show wpList _ _ _ _ _ _); refine wpList_load_agg (o := ⟨some 115, _, _, _, _, _⟩) rfl 50 _ rfl agg50 rfl (cs := res) Hn bS'.agg ?_)
              | ((with_reducible show wpList _ _ _ _ _ _); refine wpList_store_row (o := ⟨none, .store 50 (.tmp 4) (.tmp 115), _, _, _, _⟩) rfl 50 _ _ rfl rfl agg50.info bO (by simp) rfl (cs := res) rfl Hn H1'.out ?_))
            exact bodyPost_ret (results_cell1 (g := w.heap.size + 1) (cs := res) rfl _ rfl (bO.row res) (by rw [Hn]; exact agg50)) rfl ⟨rfl, below_setRow hB (by omega) _⟩

theorem compress_any (s : S8) (b : List UInt8) (a : Option Addr) (cap : Nat) (w : World) (hrd : Rd w a 64 cap 1 (byteVals b)) (hK : Kons w) (h2 : 2 < w.heap.size) :
    Calls Tryd.prog 47 #[.agg (wordVals s.list).toArray, .slice a 64 cap] w (RetV (.agg (wordVals (comp s b).list).toArray) w) :=
  compress_core s b _ ⟨rfl⟩ a cap w hrd (Lib.hid fun j u h => by have e := hK j u h; rw [show (⟨2, 0, none⟩ : Addr).add j = ⟨2, j, none⟩ from by simp [Addr.add]; intro h; exact h.symm]; exact e) h2
end Go.Proofs.YtcngnpkpaliflaaDoor
