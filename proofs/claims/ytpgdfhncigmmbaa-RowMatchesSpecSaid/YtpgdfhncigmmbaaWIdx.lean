/-
  The walks of IndexFunc and ContainsFunc at bytes and at integers, and of Unpack's literal. No condition.
-/
import Derived.Test.YtpgdfhncigmmbaaWPack
namespace Go.Proofs.Ytpgdfhncigmmbaa
open Go.RowKit

def byteV (c : UInt8) : Value := .int .u8 (c.toNat : Int)
def intV (x : Int) : Value := .int .i64 x

set_option maxRecDepth 20000 in
set_option maxHeartbeats 2000000 in
theorem bidx_any (p : UInt8 → Bool) (g : Nat) (lb : Array Value) (eg : ∀ args w, (callFunc g args).run Try.prog w = .ok (.enter g args) w) (zs : List UInt8) (a : Option Addr) (n cap : Nat) (w : World)
    (hr : Rd w a n cap 1 (byteVals zs)) (hp : PredB g lb byteV p w) :
    Calls Try.prog 67 #[.slice a n cap, .func (.func g) #[] lb] w (RetV (.int .i64 (idxP p zs)) w) := by
  have hln := hr.blen
  have hmax := hr.lenMax
  have R := Box.mk hr; clear hr
  have HP := Box.mk hp; clear hp
  go_enter Try.func67, Try.ntmps67
  go_wp2_with fail
  go_loopg [5, 8] n (fun gg _ s8 wr => ∃ k : Nat, k ≤ n ∧ n - k ≤ gg ∧ s8 = .int .i64 k ∧ Box (Below w.heap.size w wr) ∧ Box (∀ j, j < k → p (zs.getD j default) = false))
  case atStart => exact ⟨0, Nat.zero_le _, by omega, rfl, ⟨Below.refl _ w⟩, ⟨fun j hj => by omega⟩⟩
  case round =>
    obtain ⟨k, hk, hg, rfl, BW, A⟩ := hrel
    by_cases hlt : k < n
    · obtain ⟨b, off, rfl, hc⟩ := (R.out.below BW.out (Nat.le_refl _)).byteN k hlt
      have hcall := HP.out wr (zs.getD k default) BW.out
      cases hq : p (zs.getD k default) with
      | true =>
        have HI := Box.mk (idxP_hit (p := p) (l := zs) (k := k) A.out (by omega) hq)
        rw [hq] at hcall
        have hz : zs.getD k 0 = zs.getD k default := rfl
        rw [hz] at hc
        generalize zs.getD k default = y at *
        clear hq
        simp only [byteV] at hcall
        go_wp2_with fail
        refine hcall.mono ?_
        rintro e w' ⟨rfl, hb'⟩
        clear hcall
        go_wp2_with fail
        go_ret
        exact ⟨by rw [HI.out]; rfl, BW.out.trans (hb'.mono BW.out.size)⟩
      | false =>
        have HI := Box.mk (show ∀ j, j < k + 1 → p (zs.getD j default) = false from fun j hj => by
          by_cases e : j = k
          · subst e; exact hq
          · exact A.out j (by omega))
        rw [hq] at hcall
        have hz : zs.getD k 0 = zs.getD k default := rfl
        rw [hz] at hc
        generalize zs.getD k default = y at *
        clear hq
        simp only [byteV] at hcall
        go_wp2_with fail
        refine hcall.mono ?_
        rintro e w' ⟨rfl, hb'⟩
        clear hcall
        go_wp2_with fail
        go_roundg (n - (k + 1))
        case measure => omega
        case rel => exact ⟨k + 1, by omega, by omega, by go_num, ⟨BW.out.trans (hb'.mono BW.out.size)⟩, HI⟩
    · have hkn : k = n := by omega
      have HI := Box.mk (idxP_miss (p := p) (l := zs) (fun j hj => A.out j (by omega)))
      go_wp2_with fail
      go_ret
      exact ⟨by rw [HI.out]; rfl, BW.out⟩

set_option maxRecDepth 20000 in
set_option maxHeartbeats 2000000 in
theorem bcontains_any (p : UInt8 → Bool) (g : Nat) (lb : Array Value) (eg : ∀ args w, (callFunc g args).run Try.prog w = .ok (.enter g args) w) (zs : List UInt8) (a : Option Addr) (n cap : Nat) (w : World)
    (hr : Rd w a n cap 1 (byteVals zs)) (hp : PredB g lb byteV p w) :
    Calls Try.prog 45 #[.slice a n cap, .func (.func g) #[] lb] w (RetV (.bool (zs.any p)) w) := by
  have HC := Box.mk (bidx_any p g lb eg zs a n cap w hr hp)
  have HD := idxP_nonneg p zs
  generalize idxP p zs = i at *
  generalize zs.any p = d at *
  go_enter Try.func45, Try.ntmps45
  go_wp2_with fail
  refine HC.out.mono ?_
  rintro e w1 ⟨rfl, hb⟩
  go_wp2_with fail
  go_ret
  exact ⟨by first | rfl | rw [HD], hb⟩

set_option maxRecDepth 20000 in
set_option maxHeartbeats 2000000 in
theorem nidx_any (p : Int → Bool) (g : Nat) (lb : Array Value) (eg : ∀ args w, (callFunc g args).run Try.prog w = .ok (.enter g args) w) (zs : List Int) (a : Option Addr) (n cap : Nat) (w : World)
    (hr : Rd w a n cap 1 (intVals zs)) (hp : PredB g lb intV p w) :
    Calls Try.prog 68 #[.slice a n cap, .func (.func g) #[] lb] w (RetV (.int .i64 (idxP p zs)) w) := by
  have hln := hr.ilen
  have hmax := hr.lenMax
  have R := Box.mk hr; clear hr
  have HP := Box.mk hp; clear hp
  go_enter Try.func68, Try.ntmps68
  go_wp2_with fail
  go_loopg [5, 8] n (fun gg _ s8 wr => ∃ k : Nat, k ≤ n ∧ n - k ≤ gg ∧ s8 = .int .i64 k ∧ Box (Below w.heap.size w wr) ∧ Box (∀ j, j < k → p (zs.getD j default) = false))
  case atStart => exact ⟨0, Nat.zero_le _, by omega, rfl, ⟨Below.refl _ w⟩, ⟨fun j hj => by omega⟩⟩
  case round =>
    obtain ⟨k, hk, hg, rfl, BW, A⟩ := hrel
    by_cases hlt : k < n
    · obtain ⟨b, off, rfl, hc⟩ := (R.out.below BW.out (Nat.le_refl _)).intAtD k hlt
      have hcall := HP.out wr (zs.getD k default) BW.out
      cases hq : p (zs.getD k default) with
      | true =>
        have HI := Box.mk (idxP_hit (p := p) (l := zs) (k := k) A.out (by omega) hq)
        rw [hq] at hcall
        have hz : zs.getD k 0 = zs.getD k default := rfl
        rw [hz] at hc
        generalize zs.getD k default = y at *
        clear hq
        simp only [intV] at hcall
        go_wp2_with fail
        refine hcall.mono ?_
        rintro e w' ⟨rfl, hb'⟩
        clear hcall
        go_wp2_with fail
        go_ret
        exact ⟨by rw [HI.out]; rfl, BW.out.trans (hb'.mono BW.out.size)⟩
      | false =>
        have HI := Box.mk (show ∀ j, j < k + 1 → p (zs.getD j default) = false from fun j hj => by
          by_cases e : j = k
          · subst e; exact hq
          · exact A.out j (by omega))
        rw [hq] at hcall
        have hz : zs.getD k 0 = zs.getD k default := rfl
        rw [hz] at hc
        generalize zs.getD k default = y at *
        clear hq
        simp only [intV] at hcall
        go_wp2_with fail
        refine hcall.mono ?_
        rintro e w' ⟨rfl, hb'⟩
        clear hcall
        go_wp2_with fail
        go_roundg (n - (k + 1))
        case measure => omega
        case rel => exact ⟨k + 1, by omega, by omega, by go_num, ⟨BW.out.trans (hb'.mono BW.out.size)⟩, HI⟩
    · have hkn : k = n := by omega
      have HI := Box.mk (idxP_miss (p := p) (l := zs) (fun j hj => A.out j (by omega)))
      go_wp2_with fail
      go_ret
      exact ⟨by rw [HI.out]; rfl, BW.out⟩

set_option maxRecDepth 20000 in
set_option maxHeartbeats 2000000 in
theorem ncontains_any (p : Int → Bool) (g : Nat) (lb : Array Value) (eg : ∀ args w, (callFunc g args).run Try.prog w = .ok (.enter g args) w) (zs : List Int) (a : Option Addr) (n cap : Nat) (w : World)
    (hr : Rd w a n cap 1 (intVals zs)) (hp : PredB g lb intV p w) :
    Calls Try.prog 49 #[.slice a n cap, .func (.func g) #[] lb] w (RetV (.bool (zs.any p)) w) := by
  have HC := Box.mk (nidx_any p g lb eg zs a n cap w hr hp)
  have HD := idxP_nonneg p zs
  generalize idxP p zs = i at *
  generalize zs.any p = d at *
  go_enter Try.func49, Try.ntmps49
  go_wp2_with fail
  refine HC.out.mono ?_
  rintro e w1 ⟨rfl, hb⟩
  go_wp2_with fail
  go_ret
  exact ⟨by first | rfl | rw [HD], hb⟩

/-- The literal in Unpack: the byte is not zero. -/
def nzB (c : UInt8) : Bool := decide (c.toNat ≠ 0)
theorem nz_any (c : UInt8) (w : World) : Calls Try.prog 46 #[.int .u8 (c.toNat : Int)] w (RetV (.bool (nzB c)) w) := by
  unfold nzB
  have hc : ((c.toNat : Int) != 0) = decide (c.toNat ≠ 0) := by
    rw [Bool.eq_iff_iff]; simp
  generalize decide (c.toNat ≠ 0) = d at *
  generalize c.toNat = y at *
  go_enter Try.func46, Try.ntmps46
  go_wp2_with fail
  go_ret
  exact ⟨by first | rfl | rw [hc], Below.refl _ _⟩
theorem nz_pred (w : World) : PredB 46 #[] byteV nzB w := fun W x _ => nz_any x W
end Go.Proofs.Ytpgdfhncigmmbaa
