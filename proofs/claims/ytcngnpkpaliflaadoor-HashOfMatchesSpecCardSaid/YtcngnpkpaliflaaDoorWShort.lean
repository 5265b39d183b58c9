/-
  The walks of the reference's Short and Of. No condition.
-/
import Derived.Test.YtcngnpkpaliflaaDoorWRSum
import Derived.Test.YtcngnpkpaliflaaDoorWInput
namespace Go.Proofs.YtcngnpkpaliflaaDoor
open Go.RowKit

theorem KonsR.alloc {w : World} (h : KonsR w) (h0 : 0 < w.heap.size) (o : Obj) : KonsR (w.alloc o) := h.below ((Below.refl w.heap.size w).alloc (Nat.le_refl _) o) h0
theorem digest_get (m : List UInt8) (i : Nat) (hi : i < 16) : (byteVals (sha m))[i]? = some (.int .u8 (((digest m).getD i 0).toNat : Int)) := by
  have hl := sha_length m
  have h2 : i < (sha m).length := by omega
  simp [byteVals, digest, List.getD_eq_getElem?_getD, hi, h2]

set_option maxRecDepth 20000 in
set_option maxHeartbeats 1000000 in
theorem refShort_any (l : List UInt8) (a : Option Addr) (n cap : Nat) (w : World) (hrd : Rd w a n cap 1 (byteVals l)) (hn : n ≤ 1000000000) (hK : KonsR w) (h0 : 0 < w.heap.size) :
    Calls Tryd.prog 49 #[.slice a n cap] w (RetV (.agg (byteVals (digest l)).toArray) w) := by
  have b1 := Blk.new (w := w) (ty := 58) (cs := zero16) (k := w.heap.size) rfl rfl
  have B1 := (Below.refl w.heap.size w).alloc (Nat.le_refl _) (.cells zero16.toArray 58)
  have hcall := refSum_any l a n cap _ (hrd.alloc (.cells zero16.toArray 58)) hn (hK.alloc h0 _) (by simp)
  have z1 : (w.alloc (.cells zero16.toArray 58)).heap.size = w.heap.size + 1 := by simp
  have HDG := Box.mk (fun i hi => digest_get l i hi)
  have hl32 := Box.mk (show (byteVals (sha l)).length = 32 from by rw [byteVals_length, sha_length])
  have ho1 := Box.mk (byteVals_one (sha l))
  have hd16 := Box.mk (digest_length l)
  clear hrd
  generalize byteVals (sha l) = r32 at *
  generalize digest l = dg at *
  go_enter Tryd.func49, Tryd.ntmps49
  go_wp2_with (first
    | ((with_reducible show wpList _ _ _ _ _ _); refine wpList_alloc (o := ⟨some 2, .alloc 58, _, _, _, _⟩) rfl 58 rfl zero58 (zc := zero16.toArray) rfl ?_))
  refine hcall.mono ?_
  rintro e w2 ⟨rfl, hb2⟩
  have hz := hb2.size
  rw [z1] at hz
  have b2 := b1.call0 hb2
  have B2 := B1.call0 (Nat.le_refl _) hb2
  have b3 := b2.alloc (.cells r32.toArray 47)
  have B3 := B2.new (Nat.le_refl _) (.cells r32.toArray 47)
  have c3 := Blk.new (w := w2) (ty := 47) (cs := r32) (k := w2.heap.size) rfl rfl
  clear hcall hb2 b1 B1 b2 B2
  go_wp2_with (first
    | ((with_reducible show wpList _ _ _ _ _ _); refine wpList_alloc (o := ⟨some 3, .alloc 47, _, _, _, _⟩) rfl 47 rfl zero47 (zc := zero32.toArray) rfl ?_)
    | ((with_reducible show wpList _ _ _ _ _ _); refine wpList_store_fresh (o := ⟨none, .store 47 (.tmp 3) (.tmp 7), _, _, _, _⟩) (cs := r32) rfl 47 _ _ rfl rfl agg47.info rfl rfl rfl hl32.out ho1.out ?_)
    | ((with_reducible show wpList _ _ _ _ _ _); refine wpList_alloc (o := ⟨some 4, .alloc 58, _, _, _, _⟩) rfl 58 rfl zero58 (zc := zero16.toArray) rfl ?_)
    | ((with_reducible show wpList _ _ _ _ _ _); refine wpList_store_fresh (o := ⟨none, .store 58 (.tmp 4) (.tmp 8), _, _, _, _⟩) (cs := zero16) rfl 58 _ _ rfl rfl agg58.info rfl rfl rfl rfl (by decide) ?_))
  have z3 : (w2.alloc (.cells r32.toArray 47)).heap.size = w2.heap.size + 1 := by simp
  have b5 := b3.alloc (.cells zero16.toArray 58)
  have c5 := c3.alloc (.cells zero16.toArray 58)
  have d5 := Blk.new (w := w2.alloc (.cells r32.toArray 47)) (ty := 58) (cs := zero16) (k := w2.heap.size + 1) (by simp) rfl
  have B5 := B3.new (Nat.le_refl _) (.cells zero16.toArray 58)
  clear b3 c3 B3
  go_loopw [5] (fun v wr => ∃ i : Nat, i ≤ 16 ∧ v = .int .i64 i ∧ Blk wr (w2.heap.size + 1) 58 (byteVals (dg.take i) ++ List.replicate (16 - i) (Value.int .u8 0)) ∧ Blk wr w2.heap.size 47 r32 ∧ Blk wr w.heap.size 58 zero16 ∧ Below w.heap.size w wr)
    (fun v _ => 16 - (intOf v).toNat)
  case atStart => exact ⟨0, by omega, rfl, d5, c5, b5, B5⟩
  case round =>
    clear b5 c5 d5 B5
    obtain ⟨i, hi, rfl, d5, c5, b5, B5⟩ := hrel
    by_cases hlt : i < 16
    · have hset := Box.mk (fill_set dg 16 i hd16.out hlt)
      have kq := c5.cellOf (HDG.out i hlt)
      have kf := d5.free i
      obtain ⟨c0, hc0⟩ := (show ∃ u, (byteVals (dg.take i) ++ List.replicate (16 - i) (Value.int .u8 0))[i]? = some u from ⟨_, List.getElem?_eq_getElem (by rw [List.length_append, byteVals_length, List.length_take, hd16.out, List.length_replicate]; omega)⟩)
      have kc := d5.cellOf hc0
      have HC0 := Box.mk hc0; clear hc0
      generalize dg.getD i 0 = x at *
      have d6 := d5.set i (.int .u8 (x.toNat : Int))
      rw [hset.out] at d6
      have c6 := c5.other (p := ⟨w2.heap.size + 1, i, none⟩) (by simp) (.int .u8 (x.toNat : Int))
      have b6 := b5.other (p := ⟨w2.heap.size + 1, i, none⟩) (by simp; omega) (.int .u8 (x.toNat : Int))
      have B6 := B5.setCell (p := ⟨w2.heap.size + 1, i, none⟩) (by simp; omega) (.int .u8 (x.toNat : Int))
      go_wp2_with fail
      go_roundw
      case rel => exact ⟨i + 1, by omega, by go_num, d6, c6, b6, B6⟩
      case measure => simp [intOf]; omega
    · have h16 : i = 16 := by omega
      subst h16
      have hfin : byteVals (dg.take 16) ++ List.replicate (16 - 16) (Value.int .u8 0) = byteVals dg := by
        rw [List.take_of_length_le (by rw [hd16.out]; exact Nat.le_refl _), Nat.sub_self, List.replicate_zero, List.append_nil]
      rw [hfin] at d5
      have hl16 := Box.mk (show (byteVals dg).length = 16 from by rw [byteVals_length, hd16.out])
      have ho2 := Box.mk (byteVals_one dg)
      clear hfin
      generalize byteVals dg = res at *
      go_wp2_with (first
        | ((with_reducible show wpList _ _ _ _ _ _); refine wpList_load_agg (o := ⟨some 18, _, _, _, _, _⟩) rfl 58 _ rfl agg58 rfl (cs := res) hl16.out d5.agg ?_)
        | ((with_reducible show wpList _ _ _ _ _ _); refine wpList_store_row (o := ⟨none, .store 58 (.tmp 2) (.tmp 18), _, _, _, _⟩) rfl 58 _ _ rfl rfl agg58.info b5 rfl rfl (cs := res) rfl hl16.out ho2.out ?_))
      exact bodyPost_ret (results_cell1 (g := w.heap.size) (cs := res) rfl _ rfl (b5.row res) (by rw [hl16.out]; exact agg58)) rfl ⟨rfl, below_setRow B5 (Nat.le_refl _) _⟩

set_option maxRecDepth 20000 in
set_option maxHeartbeats 1000000 in
theorem refOf_any (tag : Int) (l : List (List UInt8)) (a : Option Addr) (n cap : Nat) (w : World) (hrd : Rd w a n cap 1 (bstrVals l)) (hs : (l.map encB).flatten.length ≤ 100000000) (hK : KonsR w) (h0 : 0 < w.heap.size) :
    Calls Tryd.prog 35 #[.int .i64 tag, .slice a n cap] w (RetV (.agg (byteVals (digest (inputOf tag l))).toArray) w) := by
  have b1 := Blk.new (w := w) (ty := 58) (cs := zero16) (k := w.heap.size) rfl rfl
  have B1 := (Below.refl w.heap.size w).alloc (Nat.le_refl _) (.cells zero16.toArray 58)
  have hcall := refInput_any tag l a n cap _ (hrd.alloc (.cells zero16.toArray 58)) (by omega)
  have hK1 := hK.alloc h0 (.cells zero16.toArray 58)
  have hil : (inputOf tag l).length ≤ 1000000000 := by unfold inputOf; rw [List.length_cons]; omega
  have hl16 := Box.mk (show (byteVals (digest (inputOf tag l))).length = 16 from by rw [byteVals_length, digest_length])
  have ho2 := Box.mk (byteVals_one (digest (inputOf tag l)))
  clear hrd
  generalize inputOf tag l = m at *
  go_enter Tryd.func35, Tryd.ntmps35
  go_wp2_with (first
    | ((with_reducible show wpList _ _ _ _ _ _); refine wpList_alloc (o := ⟨some 4, .alloc 58, _, _, _, _⟩) rfl 58 rfl zero58 (zc := zero16.toArray) rfl ?_))
  refine hcall.mono ?_
  rintro e w2 ⟨a2, c2, rfl, hown, hb2⟩
  have hz := hb2.size
  have b2 := b1.call0 hb2
  have B2 := B1.call0 (Nat.le_refl _) hb2
  have hK2 := hK1.below hb2 (by simp)
  go_wp2_with fail
  refine (refShort_any m a2 _ c2 w2 (Rd.ofOwn hown) hil hK2 (by simp at hz; omega)).mono ?_
  rintro e w3 ⟨rfl, hb3⟩
  have b3 := b2.call0 hb3
  have B3 := B2.call0 (Nat.le_refl _) hb3
  generalize byteVals (digest m) = res at *
  go_wp2_with (first
    | ((with_reducible show wpList _ _ _ _ _ _); refine wpList_store_row (o := ⟨none, .store 58 (.tmp 4) (.tmp 8), _, _, _, _⟩) rfl 58 _ _ rfl rfl agg58.info b3 rfl rfl (cs := res) rfl hl16.out ho2.out ?_))
  exact bodyPost_ret (results_cell1 (g := w.heap.size) (cs := res) rfl _ rfl (b3.row res) (by rw [hl16.out]; exact agg58)) rfl ⟨rfl, below_setRow B3 (Nat.le_refl _) _⟩
end Go.Proofs.YtcngnpkpaliflaaDoor
