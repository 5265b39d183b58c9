/-
  The walks of the check of words, and of small functions of the reference. No condition.
-/
import Derived.Test.YtcngnpkpaliflaaDoorWCrc
namespace Go.Proofs.YtcngnpkpaliflaaDoor
open Go.RowKit

/-- The five bytes of a number of 40 bits, and its ten half bytes. -/
def five (m : Nat) : List UInt8 := (List.range 5).map fun k => UInt8.ofNat (m / 2 ^ (32 - 8 * k) % 256)
def nibs (m : Nat) : List Nat := (List.range 10).map fun j => m / 2 ^ (36 - 4 * j) % 16
def feedN (r : BitVec 40) (l : List Nat) : BitVec 40 := l.foldl (fun r x => stps r (bits4 x)) r
theorem five_nibs (r : BitVec 40) (m : Nat) : feedN r (nibs m) = feed r (five m) := by
  have h : ∀ b : Nat, b < 256 → bits8 (UInt8.ofNat b).toNat = bits4 (b / 16) ++ bits4 (b % 16) := fun b hb => by
    rw [show (UInt8.ofNat b).toNat = b from by simp; omega, bits8_split]
  have e : five m = [UInt8.ofNat (m / 4294967296 % 256), UInt8.ofNat (m / 16777216 % 256), UInt8.ofNat (m / 65536 % 256), UInt8.ofNat (m / 256 % 256), UInt8.ofNat (m / 1 % 256)] := rfl
  have f : nibs m = [m / 68719476736 % 16, m / 4294967296 % 16, m / 268435456 % 16, m / 16777216 % 16, m / 1048576 % 16, m / 65536 % 16, m / 4096 % 16, m / 256 % 16, m / 16 % 16, m / 1 % 16] := rfl
  rw [e, f]
  simp only [feed_cons, feed_nil, h _ (Nat.mod_lt _ (by omega : 0 < 256)), stps_append, feedN, List.foldl_cons, List.foldl_nil]
  rw [show m / 4294967296 % 256 / 16 = m / 68719476736 % 16 from by omega, show m / 4294967296 % 256 % 16 = m / 4294967296 % 16 from by omega, show m / 16777216 % 256 / 16 = m / 268435456 % 16 from by omega, show m / 16777216 % 256 % 16 = m / 16777216 % 16 from by omega,
    show m / 65536 % 256 / 16 = m / 1048576 % 16 from by omega, show m / 65536 % 256 % 16 = m / 65536 % 16 from by omega, show m / 256 % 256 / 16 = m / 4096 % 16 from by omega, show m / 256 % 256 % 16 = m / 256 % 16 from by omega, show m / 1 % 256 / 16 = m / 16 % 16 from by omega, show m / 1 % 256 % 16 = m / 1 % 16 from by omega]
theorem feedN_take (r : BitVec 40) (m j : Nat) (hj : j < 10) : stps (feedN r ((nibs m).take j)) (bits4 (m / 2 ^ (36 - 4 * j) % 16)) = feedN r ((nibs m).take (j + 1)) := by
  have hl : j < (nibs m).length := by simp [nibs]; exact hj
  rw [List.take_succ_eq_append_getElem hl, feedN, feedN, List.foldl_append]
  simp [nibs]

/-- The lowest 40 bits, as a number. -/
def low40 (n : Int) : Nat := (n % 1099511627776).toNat
theorem low40_nib (n : Int) (j : Nat) (hj : j < 10) : (n / 2 ^ (36 - 4 * j)) % 16 = ((low40 n / 2 ^ (36 - 4 * j) % 16 : Nat) : Int) := by
  unfold low40
  match j, hj with
  | 0, _ => simp only [Nat.mul_zero, Nat.sub_zero]; omega
  | 1, _ => simp only [Nat.mul_one, Nat.reduceSub]; omega
  | 2, _ => simp only [Nat.reduceMul, Nat.reduceSub]; omega
  | 3, _ => simp only [Nat.reduceMul, Nat.reduceSub]; omega
  | 4, _ => simp only [Nat.reduceMul, Nat.reduceSub]; omega
  | 5, _ => simp only [Nat.reduceMul, Nat.reduceSub]; omega
  | 6, _ => simp only [Nat.reduceMul, Nat.reduceSub]; omega
  | 7, _ => simp only [Nat.reduceMul, Nat.reduceSub]; omega
  | 8, _ => simp only [Nat.reduceMul, Nat.reduceSub]; omega
  | 9, _ => simp only [Nat.reduceMul, Nat.reduceSub]; omega

def fives (l : List Int) : List UInt8 := l.flatMap fun n => five (low40 n)

set_option maxRecDepth 20000 in
set_option maxHeartbeats 4000000 in
theorem words_any (l : List Int) (a : Option Addr) (n cap : Nat) (w : World) (hrd : Rd w a n cap 1 (intVals l)) (hx : Hid (∀ x ∈ l, -9223372036854775808 ≤ x ∧ x ≤ 9223372036854775807)) (hT : Tabs w) :
    Calls Tryd.prog 23 #[.slice a n cap] w (RetV (.int .i64 (crc (fives l) : Int)) w) := by
  have Hl : Hid (l.length = n) := by have := hrd.hlen; rw [intVals_length] at this; show _ = _; omega
  have hmax := hrd.lenMax
  go_enter Tryd.func23, Tryd.ntmps23
  go_wp2_with fail
  refine (begin_any _).mono ?_
  rintro e w1 ⟨rfl, hb1⟩
  have hT1 := hT.call0 hb1
  have hz1 := hb1.size
  go_wp2_with fail
  generalize hg : w1.heap.size = g at *
  have HG := Lib.hid hg; clear hg
  go_loopw [10] (fun i wr => ∃ k : Nat, k ≤ n ∧ i = .int .i64 k ∧ Reg wr g (feed ones40 (fives (l.take k))) ∧ Below w.heap.size w wr ∧ Tabs wr)
    (fun i _ => n - (intOf i).toNat)
  case atStart => exact ⟨0, Nat.zero_le _, rfl, by unfold Reg; exact heap_at HG.out.symm, hb1.new (Nat.le_refl _) _, hT1.alloc _⟩
  case round =>
    clear hT1
    obtain ⟨k, hk, rfl, hR, hB, hTr⟩ := hrel
    obtain ⟨wo, rfl⟩ : ∃ wo : World, wo = wr := ⟨_, rfl⟩
    by_cases hlt : k < n
    · obtain ⟨b, off, rfl, hc⟩ := (hrd.below hB (Nat.le_refl _)).intAt k (by rw [Hl.out]; exact hlt)
      have hS := Lib.hid (show feed ones40 (fives (l.take (k + 1))) = feed (feed ones40 (fives (l.take k))) (five (low40 (l[k]'(by rw [Hl.out]; exact hlt)))) from by
        rw [List.take_succ_eq_append_getElem (by rw [Hl.out]; exact hlt), fives, List.flatMap_append, feed_append]; simp [fives])
      have hxk := hx.out (l[k]'(by rw [Hl.out]; exact hlt)) (List.getElem_mem _)
      generalize (l[k]'(by rw [Hl.out]; exact hlt)) = x at *
      generalize feed ones40 (fives (l.take k)) = r at *
      go_wp2_with fail
      go_loopw [6] (fun i wr => ∃ j : Nat, j ≤ 10 ∧ i = .int .i64 (36 - 4 * (j : Int)) ∧ Reg wr g (feedN r ((nibs (low40 x)).take j)) ∧ Below w.heap.size w wr ∧ Tabs wr)
        (fun i _ => (intOf i + 4).toNat)
      case atStart => exact ⟨0, Nat.zero_le _, rfl, hR, hB, hTr⟩
      case round =>
        clear hR hB hTr hc
        obtain ⟨j, hj, rfl, hR, hB, hTr⟩ := hrel
        by_cases hjt : j < 10
        · have hJ := Lib.hid (feedN_take r (low40 x) j hjt)
          have hq := low40_nib x j hjt
          have hc := hR.cell
          have hq16 : low40 x / 2 ^ (36 - 4 * j) % 16 < 16 := Nat.mod_lt _ (by omega)
          generalize low40 x / 2 ^ (36 - 4 * j) % 16 = y at *
          have ha15 : IntKind.u8.wrap (bits .and .i64 (x / 2 ^ (36 - 4 * (j : Int)).toNat) 15) = (y : Int) := by
            rw [show (36 - 4 * (j : Int)).toNat = 36 - 4 * j from by omega, i64_and15, hq]
            simp [IntKind.wrap, IntKind.bits, IntKind.signed]; omega
          have Ha := Lib.hid ha15; clear ha15
          clear hq
          go_wp2_with fail
          rw [← Nat.mod_eq_of_lt hq16] at hJ
          --REGION [1, 2, 3, 4, 5, (0,), (6, "rw [Ha.out]", "refine (nibble_any _ y (by omega) _ hTr.drew).mono ?_", "rintro e w2 ⟨rfl, hb2⟩", "rw [hJ.out]"), (7, "have hR2 := Reg.below (w := wr.drew) hR hb2 (Nat.le_refl _)", "have hcc := hR2.cell", "have hff := hR2.free", "go_simp")]
          --BEGIN
          refine wp_region_any (by kernel_rfl) ?_
          (change wpAny _ _ _ _ _ _ _ (World.drew _))
          refine wpAny_take (i := 1) (v := ?_) rfl (by kernel_rfl) (by kernel_rfl) (by kernel_rfl) (fun _ _ _ h => h) (Or.inl ⟨by rfl, ?_⟩) ?_
          rotate_left
          · intro w
            go_simp
            all_goals with_reducible rfl
          refine wpAny_take (i := 2) (v := ?_) rfl (by kernel_rfl) (by kernel_rfl) (by kernel_rfl) (fun _ _ _ h => h) (Or.inl ⟨by rfl, ?_⟩) ?_
          rotate_left
          · intro w
            go_simp
            all_goals with_reducible rfl
          refine wpAny_take (i := 3) (v := ?_) rfl (by kernel_rfl) (by kernel_rfl) (by kernel_rfl) (fun _ _ _ h => h) (Or.inl ⟨by rfl, ?_⟩) ?_
          rotate_left
          · intro w
            go_simp
            all_goals with_reducible rfl
          refine wpAny_take (i := 4) (v := ?_) rfl (by kernel_rfl) (by kernel_rfl) (by kernel_rfl) (fun _ _ _ h => h) (Or.inl ⟨by rfl, ?_⟩) ?_
          rotate_left
          · intro w
            go_simp
            all_goals with_reducible rfl
          refine wpAny_take (i := 5) (v := ?_) rfl (by kernel_rfl) (by kernel_rfl) (by kernel_rfl) (fun _ _ _ h => h) (Or.inl ⟨by rfl, ?_⟩) ?_
          rotate_left
          · intro w
            go_simp
            all_goals with_reducible rfl
          refine wpAny_ready (rs := [0]) (by kernel_rfl) (by simp) (AllReady.cons rfl (fun K hK => ?_) AllReady.nil)
          go_simp
          refine hK _ _ ?_
          clear hK K
          refine wpAny_ready (rs := [6]) (by kernel_rfl) (by simp) (AllReady.cons rfl (fun K hK => ?_) AllReady.nil)
          go_simp
          rw [Ha.out]
          refine (nibble_any _ y (by omega) _ hTr.drew).mono ?_
          rintro e w2 ⟨rfl, hb2⟩
          rw [hJ.out]
          refine hK _ _ ?_
          clear hK K
          refine wpAny_ready (rs := [7]) (by kernel_rfl) (by simp) (AllReady.cons rfl (fun K hK => ?_) AllReady.nil)
          go_simp
          have hR2 := Reg.below (w := wr.drew) hR hb2 (Nat.le_refl _)
          have hcc := hR2.cell
          have hff := hR2.free
          go_simp
          refine hK _ _ ?_
          clear hK K
          refine wpAny_done (by kernel_rfl) ?_ _
          --END
          go_wp2_with fail
          go_roundw
          case rel => exact ⟨j + 1, by omega, congrArg (Value.int .i64) (by omega), hR2.set _, (hB.drew.call0 (Nat.le_refl _) hb2).setCell hz1 _, (hTr.drew.call0 hb2).setCell (by have := hT.big; show 3 ≤ g; omega) _⟩
          case measure => simp [intOf]; omega
        · have h10 : j = 10 := by omega
          subst h10
          have hA := Lib.hid (show feedN r ((nibs (low40 x)).take 10) = feed ones40 (fives (l.take (k + 1))) from by rw [hS.out, ← five_nibs]; rfl)
          rw [hA.out] at hR
          go_wp2_with fail
          go_roundw
          case rel => exact ⟨k + 1, by omega, by go_num, hR, hB, hTr⟩
          case measure => simp [intOf]; omega
    · have hkn : k = n := by omega
      subst hkn
      have hA := Lib.hid (show l.take k = l from List.take_of_length_le (by rw [Hl.out]; exact Nat.le_refl _))
      rw [hA.out] at hR
      have hc := hR.cell
      go_wp2_with fail
      refine (value_any _ _).mono ?_
      rintro e w3 ⟨rfl, hb3⟩
      go_wp2_with fail
      go_ret
      exact ⟨rfl, hB.call0 (Nat.le_refl _) hb3⟩
end Go.Proofs.YtcngnpkpaliflaaDoor
