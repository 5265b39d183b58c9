/-
  The walks of HashWordsMatchSpec and HashShifts: each returns true and keeps what was there. No condition.
-/
import Derived.Test.YtcngnpkpaliflaaDoorL1
namespace Go.Proofs.YtcngnpkpaliflaaDoor
open Go.RowKit

theorem sl36 : SlT Tryd.prog 36 3 (.int .i64 0) 1 8 := ⟨by kernel_rfl, by kernel_rfl, rfl⟩

theorem low40_mod (n : Int) : low40 (n % 1099511627776) = low40 n := by
  unfold low40; omega
theorem fives_low (l : List Int) : fives (l.map fun n => n % 1099511627776) = fives l := by
  unfold fives
  rw [List.flatMap_map]
  congr 1
  funext n
  rw [low40_mod]
theorem intVals_snoc (l : List Int) (x : Int) : intVals (l ++ [x]) = intVals l ++ [.int .i64 x] := by simp [intVals]

set_option maxRecDepth 20000 in
set_option maxHeartbeats 1000000 in
theorem wordsSpec_walk (a : Option Addr) (n cap : Nat) (l : List Int) (w : World) (hrd : Rd w a n cap 1 (intVals l)) (hx : ∀ x ∈ l, -9223372036854775808 ≤ x ∧ x ≤ 9223372036854775807) (hM : Mem w) : Calls Tryd.prog 5 #[.slice a n cap] w (RetBool true w) := by
  have hmax := hrd.lenMax
  have HX := Lib.hid hx; clear hx
  have Hl := Box.mk (show l.length = n from by have h := hrd.hlen; rw [intVals_length] at h; omega)
  have hr0 := Box.mk hrd; clear hrd
  by_cases hn : n ≤ 80
  · go_enter Tryd.func5, Tryd.ntmps5
    go_wp2_with fail
    refine (sanity_any w hM).mono ?_
    rintro e w1 ⟨rfl, hb1⟩
    have M1 := hM.call0 hb1
    have r1 := hr0.out.call0 hb1
    have R1 := Box.mk r1; clear r1
    have hz1 := hb1.size
    go_wp2_with fail
    go_loopw [4, 5] (fun v i wr => ∃ (k : Nat) (av : Option Addr) (cv : Nat), k ≤ n ∧ i = .int .i64 k ∧ v = .slice av k cv ∧ wr.ownsRow w1.heap.size 3 1 (.slice av k cv) k (intVals ((l.map fun n => n % 1099511627776).take k)) ∧ Below w1.heap.size w1 wr)
      (fun _ i _ => n - (intOf i).toNat)
    case atStart => exact ⟨0, none, 0, Nat.zero_le _, rfl, rfl, World.ownsRow_nil _ _ _ _, Below.refl _ _⟩
    case round =>
      obtain ⟨k, av, cv, hk, rfl, rfl, hown, hbel⟩ := hrel
      have hsz := hbel.size
      by_cases hlt : k < n
      · obtain ⟨b, off, rfl, hc⟩ := (R1.out.below hbel (Nat.le_refl _)).intAt k (by rw [Hl.out]; exact hlt)
        have hS := Lib.hid (show (l.map fun n => n % 1099511627776).take (k + 1) = (l.map fun n => n % 1099511627776).take k ++ [(l[k]'(by rw [Hl.out]; exact hlt)) % 1099511627776] from by
          rw [List.take_succ_eq_append_getElem (by rw [List.length_map, Hl.out]; exact hlt)]; simp)
        generalize (l[k]'(by rw [Hl.out]; exact hlt)) = x at *
        have hand := i64_and1099511627775 x
        obtain ⟨y, hy⟩ : ∃ y, x % 1099511627776 = y := ⟨_, rfl⟩
        rw [hy] at hand
        have HY := Lib.hid hy; clear hy
        go_wp2_with (at_builtin; refine wpList_append_src rfl _ _ 36 36 rfl sl36 (.inl sl36.ht) rfl (hown.alloc _) rfl (Src.oneNew _ _ _ rfl) (by omega) (by unfold maxLen; omega) (by simp; omega) ?_; intro a1 cap1 w2 hown1 hgr1 _)
        have hb2 := below_grown (hbel.alloc hsz _) hgr1 (hown.alloc _) (Nat.le_refl _) (by simp; omega)
        go_roundw
        case rel => exact ⟨k + 1, a1, cap1, by omega, by go_num, rfl, by rw [hS.out, HY.out, intVals_snoc]; exact hown1, hb2⟩
        case measure => simp [intOf]; omega
      · have hkn : k = n := by omega
        subst hkn
        have hA := Box.mk (show (l.map fun n => n % 1099511627776).take k = l.map fun n => n % 1099511627776 from List.take_of_length_le (by rw [List.length_map, Hl.out]; exact Nat.le_refl _))
        rw [hA.out] at hown
        have M2 := M1.call0 hbel
        have B2 := hb1.call0 (Nat.le_refl _) hbel
        have RW := Box.mk (Rd.ofOwn hown)
        have R2 := Box.mk (R1.out.call0 hbel)
        have hcw := fun (a : Option Addr) (c : Nat) (w : World) (h : Rd w a k c 1 (intVals (l.map fun n => n % 1099511627776))) (hT : Tabs w) => words_any (l.map fun n => n % 1099511627776) a k c w h (Lib.hid (fun x hx => by
          obtain ⟨y, _, rfl⟩ := List.mem_map.1 hx; omega)) hT
        rw [fives_low] at hcw
        have hww := fun (a : Option Addr) (c : Nat) (w : World) (h : Rd w a k c 1 (intVals l)) (hT : Tabs w) => words_any l a k c w h HX hT
        have hrw := fun (a : Option Addr) (c : Nat) (w : World) (h : Rd w a k c 1 (intVals l)) => refWords_any l a k c w h HX (by omega)
        have hfl := Box.mk (fives_length l)
        have hcc := fun (a : Option Addr) (n2 c : Nat) (w : World) (h : Rd w a n2 c 1 (byteVals (fives l))) (hn : n2 ≤ 1099511627776) (hT : Tabs w) => crc40_any (fives l) a n2 c w h hn hT
        have hby := fun (a : Option Addr) (c : Nat) (w : World) (h : Rd w a k c 1 (intVals l)) => bytesOf_any l a k c w h HX (by omega)
        generalize fives l = fl at *
        generalize crc fl = c at *
        clear hown hbel hb1 M1 R1 hA
        go_wp2_with fail
        refine (hww a cap _ R2.out M2.tabs).mono ?_
        rintro e w3 ⟨rfl, hb3⟩
        have M3 := M2.call0 hb3
        have B3 := B2.call0 (Nat.le_refl _) hb3
        have R3 := Box.mk (R2.out.call0 hb3)
        have RW3 := Box.mk (RW.out.call0 hb3)
        clear M2 B2 R2 RW hb3 hww
        go_wp2_with fail
        refine (hrw a cap _ R3.out).mono ?_
        rintro e w4 ⟨rfl, hb4⟩
        have M4 := M3.call0 hb4
        have B4 := B3.call0 (Nat.le_refl _) hb4
        have R4 := Box.mk (R3.out.call0 hb4)
        have RW4 := Box.mk (RW3.out.call0 hb4)
        clear M3 B3 R3 RW3 hb4 hrw
        go_wp2_with fail
        refine (hcw _ _ _ RW4.out M4.tabs).mono ?_
        rintro e w5 ⟨rfl, hb5⟩
        have M5 := M4.call0 hb5
        have B5 := B4.call0 (Nat.le_refl _) hb5
        have R5 := Box.mk (R4.out.call0 hb5)
        clear M4 B4 R4 RW4 hb5 hcw
        go_wp2_with fail
        refine (hby a cap _ R5.out).mono ?_
        intro e w6 hret
        obtain ⟨a6, c6, rfl, R6, hb6⟩ := hret.got
        have M6 := M5.call0 hb6
        have B6 := B5.call0 (Nat.le_refl _) hb6
        clear M5 B5 R5 hb6 hret
        go_wp2_with fail
        refine (hcc _ _ _ _ R6 (by rw [hfl.out, Hl.out]; omega) M6.tabs).mono ?_
        rintro e w7 ⟨rfl, hb7⟩
        have B7 := B6.call0 (Nat.le_refl _) hb7
        clear M6 B6 R6 hb7 hcc
        go_wp2_with fail
        go_ret
        exact ⟨rfl, B7⟩
  · go_enter Tryd.func5, Tryd.ntmps5
    go_wp2_with (go_at_call 15; refine (sanity_any w hM).mono ?_; rintro e w1 ⟨rfl, hb1⟩)
    go_ret
    exact ⟨rfl, hb1⟩
theorem join_nat (a b : Int) (n : Nat) : (join a b n : Int) = ((mulX (8 * n) (lo40 a) ^^^ lo40 b).toNat : Int) := rfl
theorem lo40_toNat (r : BitVec 40) : lo40 ((r.toNat : Nat) : Int) = r := by
  apply BitVec.eq_of_toNat_eq
  have h := lo40_nat (r.toNat : Int)
  have hr : r.toNat < 1099511627776 := r.isLt
  omega
theorem lo40_join (a b : Int) (n : Nat) : lo40 ((join a b n : Nat) : Int) = mulX (8 * n) (lo40 a) ^^^ lo40 b := lo40_toNat _
theorem lo40_zero : lo40 0 = 0#40 := by decide
theorem join_add (a : Int) (n m : Nat) : join (join a 0 n : Int) 0 m = join a 0 (n + m) := by
  unfold join
  rw [lo40_toNat, lo40_zero, BitVec.xor_zero, BitVec.xor_zero, BitVec.xor_zero, ← mulX_add, Nat.mul_add]
theorem join_xor (a b : Int) (n : Nat) : join a b n = join a 0 n ^^^ (lo40 b).toNat := by
  unfold join
  rw [lo40_zero, BitVec.xor_zero, BitVec.toNat_xor]
theorem join_zero (b : Int) (n : Nat) : join 0 b n = (lo40 b).toNat := by
  unfold join
  rw [lo40_zero, mulX_z, BitVec.zero_xor]
theorem i64_xor_nat (x y : Nat) (hx : x < 1099511627776) (hy : y < 1099511627776) : bits .xor .i64 (x : Int) (y : Int) = ((x ^^^ y : Nat) : Int) := by
  have hlt : x ^^^ y < 2 ^ 40 := Nat.xor_lt_two_pow (n := 40) hx hy
  have e : ∀ z : Nat, z < 1099511627776 → (BitVec.ofInt 64 (z : Int)).toNat = z := fun z hz => by
    rw [BitVec.toNat_ofInt]; omega
  show IntKind.i64.wrap ((BitVec.ofInt 64 (x : Int) ^^^ BitVec.ofInt 64 (y : Int)).toNat : Nat) = _
  rw [BitVec.toNat_xor, e x hx, e y hy, IntKind.wrap_i64]
  omega
theorem join_lt (a b : Int) (n : Nat) : join a b n < 1099511627776 := (mulX (8 * n) (lo40 a) ^^^ lo40 b).isLt

set_option maxRecDepth 20000 in
set_option maxHeartbeats 1000000 in
theorem shifts_walk (a b n m : Int) (w : World) (hM : Mem w) : Calls Tryd.prog 8 #[.int .i64 a, .int .i64 b, .int .i64 n, .int .i64 m] w (RetBool true w) := by
  have hn := i64_and1099511627775 n
  have hm := i64_and1099511627775 m
  have hb := i64_and1099511627775 b
  obtain ⟨p, hp⟩ : ∃ p : Nat, n % 1099511627776 = (p : Int) := ⟨(n % 1099511627776).toNat, by omega⟩
  obtain ⟨q, hq⟩ : ∃ q : Nat, m % 1099511627776 = (q : Int) := ⟨(m % 1099511627776).toNat, by omega⟩
  have hp40 : p < 1099511627776 := by omega
  have hq40 : q < 1099511627776 := by omega
  rw [hp] at hn; rw [hq] at hm
  rw [← lo40_nat] at hb
  clear hp hq
  have h1 := fun (w : World) (hT : Tabs w) => join_any a 0 (p + q) (by omega) w hT
  have h2 := fun (w : World) (hT : Tabs w) => join_any a 0 p (by omega) w hT
  have h3 := fun (w : World) (hT : Tabs w) => join_any (join a 0 p : Int) 0 q (by omega) w hT
  have h4 := fun (w : World) (hT : Tabs w) => join_any a b (p + q) (by omega) w hT
  have h5 := fun (w : World) (hT : Tabs w) => join_any 0 b p (by omega) w hT
  rw [join_add] at h3
  rw [join_xor a b] at h4
  rw [join_zero] at h5
  have hx := i64_xor_nat (join a 0 (p + q)) (lo40 b).toNat (join_lt _ _ _) (lo40 b).isLt
  generalize join a 0 (p + q) ^^^ (lo40 b).toNat = jx at *
  generalize join a 0 (p + q) = j1 at *
  generalize join a 0 p = j2 at *
  generalize (lo40 b).toNat = lb at *
  rw [Int.natCast_add] at h1 h4
  go_enter Tryd.func8, Tryd.ntmps8
  go_wp2_with fail
  refine (sanity_any w hM).mono ?_
  rintro e w1 ⟨rfl, hb1⟩
  have M1 := hM.call0 hb1
  go_wp2_with fail
  refine (h1 w1 M1.tabs).mono ?_
  rintro e w2 ⟨rfl, rfl⟩
  go_wp2_with fail
  refine (h2 w1 M1.tabs).mono ?_
  rintro e w2 ⟨rfl, rfl⟩
  go_wp2_with fail
  refine (h3 w1 M1.tabs).mono ?_
  rintro e w2 ⟨rfl, rfl⟩
  go_wp2_with fail
  refine (h4 w1 M1.tabs).mono ?_
  rintro e w2 ⟨rfl, rfl⟩
  go_wp2_with fail
  refine (h5 w1 M1.tabs).mono ?_
  rintro e w2 ⟨rfl, rfl⟩
  go_wp2_with fail
  go_ret
  exact ⟨rfl, hb1⟩
end Go.Proofs.YtcngnpkpaliflaaDoor
