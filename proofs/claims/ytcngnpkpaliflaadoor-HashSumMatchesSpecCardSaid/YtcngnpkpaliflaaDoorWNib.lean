/-
  The walks of the check, piece by piece: nibble, BeginCrc, Add, Value. No condition.
-/
import Derived.Test.YtcngnpkpaliflaaDoorRows
import Derived.Test.YtcngnpkpaliflaaDoorMore
import Derived.Test.YtcngnpkpaliflaaDoorCrc2
import Derived.Deep.RegionWith
import Derived.StillTailTactics
import Derived.RegionTactic
import Derived.ChangeAlike
import Derived.Deep.CutRange
namespace Go.Proofs.YtcngnpkpaliflaaDoor
open Go.RowKit

/-- The tables of package hash lie in memory. -/
structure Tabs (w : World) : Prop where
  nib : ∀ i, i < 16 → w.cell? ⟨1, i, none⟩ = some (.int .u64 ((nibT.getD i 0 : Nat) : Int))
  big : 3 ≤ w.heap.size

theorem Tabs.below {w w' : World} {B : Nat} (h : Tabs w) (hb : Below B w w') (hB : w.heap.size ≤ B) (hs : w.heap.size ≤ w'.heap.size) : Tabs w' :=
  ⟨fun i hi => by rw [hb.cell (by have := h.big; show 1 < B; omega)]; exact h.nib i hi, Nat.le_trans h.big hs⟩
theorem Tabs.call0 {w w' : World} (h : Tabs w) (hb : Below w.heap.size w w') : Tabs w' := h.below hb (Nat.le_refl _) hb.size
theorem Tabs.alloc {w : World} (h : Tabs w) (o : Obj) : Tabs (w.alloc o) := h.call0 ((Below.refl _ _).alloc (Nat.le_refl _) o)

theorem agg30 : AggT Tryd.prog 30 1 := ⟨by kernel_rfl, by kernel_rfl⟩

set_option maxRecDepth 20000 in
set_option maxHeartbeats 1000000 in
theorem nibble_any (r : BitVec 40) (n : Nat) (hn : n < 256) (w : World) (hT : Tabs w) :
    Calls Tryd.prog 41 #[.agg #[.int .u64 (r.toNat : Int)], .int .u8 (n : Int)] w fun e w' => e = .returned (.agg #[.int .u64 ((stps r (bits4 (n % 16))).toNat : Int)]) ∧ Below w.heap.size w w' := by
  have hr : r.toNat < 1099511627776 := r.isLt
  have hh : r.toNat / 68719476736 < 16 := by omega
  have hk : (r.toNat / 68719476736 ^^^ n) < 256 := Nat.xor_lt_two_pow (n := 8) (by omega) hn
  have hx : bits .xor .u8 ((r.toNat : Int) / 68719476736) (n : Int) = ((r.toNat / 68719476736 ^^^ n : Nat) : Int) := by
    rw [show ((r.toNat : Int) / 68719476736) = ((r.toNat / 68719476736 : Nat) : Int) from by omega, u8_xor_nat _ _ (by omega) hn]
  have hm : (r.toNat / 68719476736 ^^^ n) % 16 = (r.toNat / 68719476736) ^^^ (n % 16) := by
    have := Nat.xor_mod_two_pow (a := r.toNat / 68719476736) (b := n) (n := 4)
    rw [show (2 : Nat) ^ 4 = 16 from rfl, Nat.mod_eq_of_lt hh] at this; exact this
  have hN := Lib.hid (nib_eq r (n % 16) (by omega))
  rw [← hm] at hN
  have hM := Lib.hid hm
  clear hm
  generalize (r.toNat / 68719476736 ^^^ n) = k at *
  have hc := ((hT.alloc (.cells #[.int .u64 (r.toNat : Int)] 30)).alloc (.cells #[.int .u64 0] 30)).nib (k % 16) (by omega)
  have hv : nibT.getD (k % 16) 0 < 1099511627776 := nibT_lt ⟨k % 16, by omega⟩
  generalize nibT.getD (k % 16) 0 = v at *
  generalize (stps r (bits4 (n % 16))).toNat = z at *
  have hy : bits .xor .u64 (bits .and .u64 ((r.toNat : Int) * 16) 1099511627775) (v : Int) = (z : Int) := by
    rw [hN.out, show ((r.toNat : Int) * 16) = ((r.toNat * 16 : Nat) : Int) from by omega, show (1099511627775 : Int) = ((1099511627775 : Nat) : Int) from rfl, u64_and_nat _ _ (by omega) (by omega),
      show r.toNat * 16 &&& 1099511627775 = r.toNat * 16 % 1099511627776 from Nat.and_two_pow_sub_one_eq_mod _ 40, u64_xor_nat _ _ (by omega) (by omega)]
  have hbig := hT.big
  go_enter Tryd.func41, Tryd.ntmps41
  go_wp2_with fail
  go_region
  go_wp2_with fail
  exact bodyPost_ret (v := .agg #[.int .u64 (z : Int)]) (results_cell1 (g := w.heap.size + 1) (cs := [.int .u64 (z : Int)]) rfl _ rfl (heap_at (by simp)) agg30) rfl ⟨rfl, ((((Below.refl _ _).alloc (Nat.le_refl _) _).alloc (by simp) _).drew)⟩
theorem begin_any (w : World) : Calls Tryd.prog 19 #[] w fun e w' => e = .returned (.agg #[.int .u64 (ones40.toNat : Int)]) ∧ Below w.heap.size w w' := by
  go_enter Tryd.func19, Tryd.ntmps19
  go_wp2_with fail
  exact bodyPost_ret (v := .agg #[.int .u64 1099511627775]) (results_cell1 (g := w.heap.size) (cs := [.int .u64 1099511627775]) rfl _ rfl (heap_at rfl) agg30) rfl ⟨rfl, (Below.refl _ _).alloc (Nat.le_refl _) _⟩

set_option maxRecDepth 20000 in
theorem value_any (r : BitVec 40) (w : World) : Calls Tryd.prog 22 #[.agg #[.int .u64 (r.toNat : Int)]] w fun e w' => e = .returned (.int .i64 ((r ^^^ ones40).toNat : Int)) ∧ Below w.heap.size w w' := by
  have hr : r.toNat < 1099511627776 := r.isLt
  have hx : bits .xor .u64 (r.toNat : Int) 1099511627775 = (((r ^^^ ones40).toNat : Nat) : Int) := by
    rw [show (1099511627775 : Int) = ((1099511627775 : Nat) : Int) from rfl, u64_xor_nat _ _ (by omega) (by omega), BitVec.toNat_xor]; rfl
  have hz : (r ^^^ ones40).toNat < 1099511627776 := (r ^^^ ones40).isLt
  generalize (r ^^^ ones40).toNat = z at *
  go_enter Tryd.func22, Tryd.ntmps22
  go_wp2_with fail
  go_ret
  exact ⟨rfl, (Below.refl _ _).alloc (Nat.le_refl _) _⟩
end Go.Proofs.YtcngnpkpaliflaaDoor
