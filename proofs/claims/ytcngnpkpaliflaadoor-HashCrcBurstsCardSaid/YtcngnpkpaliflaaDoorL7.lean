/-
  The walk of HashCrcBursts: it returns true and keeps what was there. No condition.
-/
import Derived.Test.YtcngnpkpaliflaaDoorL5
import Derived.Test.YtcngnpkpaliflaaDoorBurst
namespace Go.Proofs.YtcngnpkpaliflaaDoor
open Go.RowKit

/-- Bit i of a message. -/
def bitAt (m : List UInt8) (i : Nat) : Bool := (m.getD (i / 8) 0).toNat.testBit (7 - i % 8)
theorem bitsOf_get (m : List UInt8) (i : Nat) (hi : i < 8 * m.length) : (bitsOf m)[i]? = some (bitAt m i) := by
  induction m generalizing i with
  | nil => simp at hi
  | cons c m ih =>
    show (bits8 c.toNat ++ bitsOf m)[i]? = _
    rw [List.length_cons] at hi
    by_cases h : i < 8
    · rw [List.getElem?_append_left (by rw [bits8_length]; exact h)]
      have key : ∀ j : Fin 8, (bits8 c.toNat)[j.val]? = some (bitAt (c :: m) j.val) := by
        intro j
        match j with
        | ⟨0, _⟩ => simp [bits8, bitAt]
        | ⟨1, _⟩ => simp [bits8, bitAt]
        | ⟨2, _⟩ => simp [bits8, bitAt]
        | ⟨3, _⟩ => simp [bits8, bitAt]
        | ⟨4, _⟩ => simp [bits8, bitAt]
        | ⟨5, _⟩ => simp [bits8, bitAt]
        | ⟨6, _⟩ => simp [bits8, bitAt]
        | ⟨7, _⟩ => simp [bits8, bitAt]
      exact key ⟨i, h⟩
    · rw [List.getElem?_append_right (by rw [bits8_length]; omega), bits8_length, ih (i - 8) (by omega)]
      unfold bitAt
      rw [show i / 8 = (i - 8) / 8 + 1 from by omega, List.getD_cons_succ, show (i - 8) % 8 = i % 8 from by omega]

/-- A message with bit n turned. -/
def flipAt (m : List UInt8) (n : Nat) : List UInt8 := m.set (n / 8) (m.getD (n / 8) 0 ^^^ UInt8.ofNat (2 ^ (7 - n % 8)))
theorem pow_lt8 (n : Nat) : 2 ^ (7 - n % 8) < 256 := by
  have : 7 - n % 8 ≤ 7 := by omega
  calc 2 ^ (7 - n % 8) ≤ 2 ^ 7 := Nat.pow_le_pow_right (by omega) this
    _ < 256 := by omega
theorem flipAt_length (m : List UInt8) (n : Nat) : (flipAt m n).length = m.length := by simp [flipAt]
theorem flipAt_bit (m : List UInt8) (n i : Nat) (hn : n < 8 * m.length) : bitAt (flipAt m n) i = (bitAt m i ^^ decide (i = n)) := by
  unfold bitAt flipAt
  by_cases h : i / 8 = n / 8
  · rw [h, List.getD_eq_getElem?_getD, List.getElem?_set_self (by omega), Option.getD_some, UInt8.toNat_xor, Nat.testBit_xor]
    congr 1
    have hp : (UInt8.ofNat (2 ^ (7 - n % 8))).toNat = 2 ^ (7 - n % 8) := by rw [UInt8.toNat_ofNat', Nat.mod_eq_of_lt (pow_lt8 n)]
    rw [hp, Nat.testBit_two_pow]
    rw [decide_eq_decide]
    omega
  · have hne : i ≠ n := by rintro rfl; exact h rfl
    rw [List.getD_eq_getElem?_getD, List.getElem?_set_ne (Ne.symm h), ← List.getD_eq_getElem?_getD, decide_eq_false hne, Bool.xor_false]

def flips (l : List UInt8) (f P : Nat) : Nat → List UInt8
  | 0 => l
  | k + 1 => if P.testBit k then flipAt (flips l f P k) (f + k) else flips l f P k
theorem flips_length (l : List UInt8) (f P k : Nat) : (flips l f P k).length = l.length := by
  induction k with
  | zero => rfl
  | succ k ih => rw [flips]; split
                 · rw [flipAt_length, ih]
                 · exact ih
theorem flips_bit (l : List UInt8) (f P k : Nat) (h : f + k ≤ 8 * l.length) (i : Nat) : bitAt (flips l f P k) i = (bitAt l i ^^ (decide (f ≤ i ∧ i < f + k) && P.testBit (i - f))) := by
  induction k with
  | zero => rw [flips, decide_eq_false (by omega)]; simp
  | succ k ih =>
    have ih := ih (by omega)
    by_cases hi : i = f + k
    · subst hi
      rw [decide_eq_true (by omega), Bool.true_and, show f + k - f = k from by omega]
      rw [decide_eq_false (by omega), Bool.false_and, Bool.xor_false] at ih
      rw [flips]
      split
      · rename_i hb
        rw [flipAt_bit _ _ _ (by rw [flips_length]; omega), ih, hb]; simp
      · rename_i hb
        rw [ih]; simp at hb; rw [hb, Bool.xor_false]
    · have e : decide (f ≤ i ∧ i < f + (k + 1)) = decide (f ≤ i ∧ i < f + k) := by rw [decide_eq_decide]; omega
      rw [e, ← ih, flips]
      split
      · rw [flipAt_bit _ _ _ (by rw [flips_length]; omega), decide_eq_false hi, Bool.xor_false]
      · rfl
theorem mask_get (n f P k i : Nat) (h : f + k ≤ 8 * n) (hi : i < 8 * n) : (mask n f P k)[i]? = some (decide (f ≤ i ∧ i < f + k) && P.testBit (i - f)) := by
  unfold mask
  by_cases h1 : i < f
  · rw [List.append_assoc, List.getElem?_append_left (by simp; exact h1), List.getElem?_replicate, if_pos h1, decide_eq_false (by omega)]; rfl
  · rw [List.append_assoc, List.getElem?_append_right (by simp; omega), List.length_replicate]
    by_cases h2 : i < f + k
    · rw [List.getElem?_append_left (by simp; omega), decide_eq_true (by omega), List.getElem?_map, List.getElem?_range (by omega)]; simp
    · rw [List.getElem?_append_right (by simp; omega), decide_eq_false (by omega), List.getElem?_replicate, if_pos (by simp; omega)]; rfl
theorem flips_bits (l : List UInt8) (f P k : Nat) (h : f + k ≤ 8 * l.length) : bitsOf (flips l f P k) = List.zipWith (fun a b => a ^^ b) (bitsOf l) (mask l.length f P k) := by
  apply List.ext_getElem?
  intro i
  by_cases hi : i < 8 * l.length
  · rw [bitsOf_get _ _ (by rw [flips_length]; exact hi), flips_bit l f P k h i, List.getElem?_zipWith, bitsOf_get l i hi, mask_get _ _ _ _ _ h hi]
  · rw [List.getElem?_eq_none (by rw [bitsOf_length, flips_length]; omega), List.getElem?_eq_none (by rw [List.length_zipWith, bitsOf_length]; omega)]
theorem flips_crc (l : List UInt8) (f P k : Nat) (hk : k ≤ 40) (h : f + k ≤ 8 * l.length) : (crc l = crc (flips l f P k)) ↔ anyB P k = false :=
  crc_burst l _ f P k hk (flips_bits l f P k h) h
theorem anyB_succ (P k : Nat) : anyB P (k + 1) = (anyB P k || P.testBit k) := by
  unfold anyB; rw [List.range_succ, List.any_append]; simp

/-- The cell of an own row, and a store into it. -/
theorem own_cell {w : World} {base e n g cap : Nat} {xs : List Value} (h : w.ownsRow base e 1 (.slice (some ⟨g, 0, none⟩) n cap) n xs) {i : Nat} {v : Value} (hv : xs[i]? = some v) : w.cell? ⟨g, i, none⟩ = some v := by
  have hr := (Rd.ofOwn h).hcell _ rfl i v hv
  have hadd : (⟨g, 0, none⟩ : Addr).add i = ⟨g, i, none⟩ := by unfold Addr.add; split <;> simp_all
  rwa [hadd] at hr
theorem own_free {w : World} {base e n g cap i : Nat} {xs : List Value} (h : w.ownsRow base e 1 (.slice (some ⟨g, 0, none⟩) n cap) n xs) : w.frozen? ⟨g, i, none⟩ = false := by
  obtain ⟨hl, hd⟩ := h
  rcases hd with ⟨hv, h0⟩ | ⟨g', c, cur, hv, hb, hh, hnc, hcm, hcs, ht⟩
  · cases hv
  · simp only [Value.slice.injEq, Option.some.injEq, Addr.mk.injEq] at hv
    obtain ⟨⟨rfl, _, _⟩, _, _⟩ := hv
    simp [World.frozen?, hh]
theorem own_set {w : World} {base e n g cap : Nat} {xs : List Value} (h : w.ownsRow base e 1 (.slice (some ⟨g, 0, none⟩) n cap) n xs) (i : Nat) (v : Value) : (w.setCell ⟨g, i, none⟩ v).ownsRow base e 1 (.slice (some ⟨g, 0, none⟩) n cap) n (xs.set i v) := by
  obtain ⟨hl, hd⟩ := h
  rcases hd with ⟨hv, h0⟩ | ⟨g', c, cur, hv, hb, hh, hnc, hcm, hcs, ht⟩
  · cases hv
  · simp only [Value.slice.injEq, Option.some.injEq, Addr.mk.injEq] at hv
    obtain ⟨⟨rfl, _, _⟩, _, rfl⟩ := hv
    have hB : Blk w g e cur.toList := by unfold Blk; simpa using hh
    have hs := hB.set i v
    refine ⟨by rw [List.length_set]; exact hl, .inr ⟨g, cap, (cur.toList.set i v).toArray, rfl, hb, hs, hnc, hcm, by simp [hcs], ?_⟩⟩
    rw [List.toList_toArray]
    rw [List.take_set, ht]

theorem wf_u16_bd {n : Int} (h : (Lit.int .u16 n).wf = true) : 0 ≤ n ∧ n < 65536 := by
  simp [Lit.wf, IntKind.min, IntKind.max, IntKind.signed, IntKind.bits] at h; omega
theorem wf_u64_bd {n : Int} (h : (Lit.int .u64 n).wf = true) : 0 ≤ n ∧ n < 18446744073709551616 := by
  simp [Lit.wf, IntKind.min, IntKind.max, IntKind.signed, IntKind.bits] at h; omega

theorem oper_store1 {P : Program} {w : World} {ops : Array Oper} {o : Oper} {a : Act} {K : Act → World → Prop} {Q : Exit → Act → World → Prop} (hgd : Region.wanted o (yielded ops a.tmps) = true) (ty : TypeId) (x v : Operand) (ho : o.op = .store ty x v) (hdst : o.dst = none)
    (hsz : (P.info? ty).map (·.size) = some 1) {g off : Nat} (hx : a.eval x = .pointer (some ⟨g, off, none⟩)) {u : Value} (hv : a.eval v = u) (hu : u.cells = #[u]) (h1 : u.oneCell' = true) {c : Value} (hc : w.cell? ⟨g, off, none⟩ = some c) (hf : w.frozen? ⟨g, off, none⟩ = false)
    (h : K a (w.setCell ⟨g, off, none⟩ u)) : if Region.wanted o (yielded ops a.tmps) = true then Oper.wp P o a w K Q else K (a.put o.dst undef) w := by
  rw [if_pos hgd]
  obtain ⟨i, hi, hs⟩ := Option.map_eq_some_iff.1 hsz
  have hst : (store ⟨g, off, none⟩ u).run P w = .ok () (w.setCell ⟨g, off, none⟩ u) := by
    rw [run_store P w _ u _ h1, hc]; simp [hf]
  have hadd : (⟨g, off, none⟩ : Addr).add 0 = ⟨g, off, none⟩ := by unfold Addr.add; split <;> simp_all
  have hrun : (Instr.storeAt ty (.pointer (some ⟨g, off, none⟩)) u).run P w = .ok () (w.setCell ⟨g, off, none⟩ u) := by
    simp [Instr.storeAt, Instr.sureAddr, storeVar, sizeOf, typeInfo, hi, hs, hu, storeCells, hadd, hst]
  unfold Oper.wp execOp
  simp only [ho, hx, hv, Sem.run_bind, hrun, Result.andThen_ok, Sem.run_pure]
  have hp : a.put o.dst undef = a := by rw [hdst]; rfl
  show K (a.put o.dst undef) _
  rw [hp]
  exact h

theorem u64_bit (P k : Nat) : bits .and .u64 ((P / 2 ^ k : Nat) : Int) 1 = (((P / 2 ^ k) % 2 : Nat) : Int) := by
  have hc : (BitVec.ofInt 64 1).toNat = 2 ^ 1 - 1 := by decide
  have key : (BitVec.ofInt 64 ((P / 2 ^ k : Nat) : Int) &&& BitVec.ofInt 64 1).toNat = (((P / 2 ^ k : Nat) : Int) % ((2 ^ 64 : Nat) : Int)).toNat % 2 ^ 1 := by
    rw [BitVec.toNat_and, BitVec.toNat_ofInt, hc, Nat.and_two_pow_sub_one_eq_mod]
  show IntKind.u64.wrap ((BitVec.ofInt 64 ((P / 2 ^ k : Nat) : Int) &&& BitVec.ofInt 64 1).toNat : Nat) = _
  rw [key, u64wrap]
  omega

set_option maxRecDepth 20000 in
set_option maxHeartbeats 2000000 in
theorem bursts_walk (a1 : Option Addr) (n cap : Nat) (l : List UInt8) (at_ : Int) (P : Nat) (h0 : 0 ≤ at_) (h1 : at_ < 65536) (_hP : P < 18446744073709551616) (w : World) (hrd : Rd w a1 n cap 1 (byteVals l)) (hM : Mem w) :
    Calls Tryd.prog 10 #[.slice a1 n cap, .int .u16 at_, .int .u64 (P : Int)] w (RetBool true w) := by
  have hmax := hrd.lenMax
  have HL := Box.mk hrd.blen
  have R0 := Box.mk hrd; clear hrd
  by_cases hn0 : n = 0
  · subst hn0
    go_enter Tryd.func10, Tryd.ntmps10
    go_wp2_with (go_at_call 15; refine (sanity_any w hM).mono ?_; rintro e w1 ⟨rfl, hb1⟩)
    go_ret
    exact ⟨rfl, hb1⟩
  · have hn1 : 1 ≤ n := by omega
    have hne : ((n : Int) == 0) = false := by simp; omega
    by_cases hn : n ≤ 400
    · obtain ⟨f, hf⟩ : ∃ f : Nat, at_ % (8 * (n : Int)) = (f : Int) := ⟨(at_ % (8 * (n : Int))).toNat, by have := Int.emod_nonneg at_ (show (8 * (n : Int)) ≠ 0 by omega); omega⟩
      have hf8 : f < 8 * n := by have := Int.emod_lt_of_pos at_ (show 0 < 8 * (n : Int) by omega); omega
      clear hn0
      go_enter Tryd.func10, Tryd.ntmps10
      go_wp2_with fail
      refine (sanity_any w hM).mono ?_
      rintro e w1 ⟨rfl, hb1⟩
      have hz1 := hb1.size
      have hown0 := own_new (w := w1.alloc (.cells #[] 5)) (g := w1.heap.size) (base := w1.heap.size) (e := 5) (size := 1) (n := 0) (cs := []) (Blk.new rfl rfl) (Nat.le_refl _) rfl (by unfold maxLen; omega)
      have R1 := Box.mk ((R0.out.call0 hb1).alloc (.cells #[] 5))
      go_wp2_with (first
        | ((with_reducible show wpList _ _ _ _ _ _); refine wpList_append_src (o := ⟨some 25, _, _, _, _, _⟩) rfl (.tmp 23) (.tmp 24) 22 22 rfl sl22 (.inl sl22.ht) rfl hown0 rfl (Src.ofRd R1.out (byteVals_one _)) (by omega) (by unfold maxLen; omega) (by simp) ?_; intro a8 c8 w2 hown2 hgr2 _))
      try simp only [hf]
      have B2 := below_grown ((Below.refl w1.heap.size w1).alloc (Nat.le_refl _) (.cells #[] 5)) hgr2 hown0 (Nat.le_refl _) (by simp)
      rw [Nat.zero_add, List.nil_append] at hown2
      try simp only [Nat.zero_add]
      clear hgr2 hown0 R1
      have BB := hb1.call0 (Nat.le_refl _) B2
      obtain ⟨g8, rfl, hg8⟩ : ∃ g, a8 = some ⟨g, 0, none⟩ ∧ w1.heap.size ≤ g := by
        obtain ⟨_, hd⟩ := hown2
        rcases hd with ⟨hv, h0⟩ | ⟨g, c, cur, hv, hb, _⟩
        · omega
        · simp only [Value.slice.injEq] at hv; exact ⟨g, hv.1, hb⟩
      go_loopw [10, 11] (fun s v wr => ∃ k : Nat, k ≤ 40 ∧ f + k ≤ 8 * n ∧ v = .int .i64 k ∧ s = .bool (anyB P k) ∧ wr.ownsRow w1.heap.size 5 1 (.slice (some ⟨g8, 0, none⟩) n c8) n (byteVals (flips l f P k)) ∧ Below w1.heap.size w1 wr)
        (fun _ v _ => 40 - (intOf v).toNat)
      case atStart => exact ⟨0, by omega, by omega, rfl, rfl, hown2, B2⟩
      case round =>
        clear hown2 B2 BB
        obtain ⟨k, hk, hfk, rfl, rfl, hown, B⟩ := hrel
        by_cases hc : k < 40 ∧ f + k < 8 * n
        · obtain ⟨hk40, hfk8⟩ := hc
          have hcond : ((f : Int) + (k : Int) < 8 * (n : Int)) := by omega
          have hb := u64_bit P k
          have hfl := flips_length l f P k
          cases hbit : P.testBit k
          · have hS := Lib.hid (show flips l f P (k + 1) = flips l f P k from by rw [flips, hbit]; simp)
            have hA := Lib.hid (show anyB P (k + 1) = anyB P k from by rw [anyB_succ, hbit, Bool.or_false])
            have hm : P / 2 ^ k % 2 = 0 := by rw [Nat.testBit_eq_decide_div_mod_eq] at hbit; simp at hbit; omega
            rw [hm] at hb
            clear hm hbit hfl
            rw [Int.natCast_ediv, Int.natCast_pow, show ((2 : Nat) : Int) = 2 from rfl, show ((0 : Nat) : Int) = 0 from rfl] at hb
            go_wp2_with fail
            go_roundw
            case rel => exact ⟨k + 1, by omega, by omega, by go_num, by rw [hA.out], by rw [hS.out]; exact hown, B⟩
            case measure => simp [intOf]; omega
          · have hS := Lib.hid (show flips l f P (k + 1) = flipAt (flips l f P k) (f + k) from by rw [flips, hbit]; simp)
            have hA := Lib.hid (show anyB P (k + 1) = true from by rw [anyB_succ, hbit, Bool.or_true])
            have hm : P / 2 ^ k % 2 = 1 := by rw [Nat.testBit_eq_decide_div_mod_eq] at hbit; simpa using hbit
            rw [hm] at hb
            clear hm hbit
            rw [Int.natCast_ediv, Int.natCast_pow, show ((2 : Nat) : Int) = 2 from rfl, show ((1 : Nat) : Int) = 1 from rfl] at hb
            obtain ⟨q, hq⟩ : ∃ q, (f + k) / 8 = q := ⟨_, rfl⟩
            obtain ⟨r, hr⟩ : ∃ r, (f + k) % 8 = r := ⟨_, rfl⟩
            have hq8 : q < n := by omega
            have hr8 : r < 8 := by omega
            have hcell := own_cell hown (i := q) (v := .int .u8 (((flips l f P k).getD q 0).toNat : Int)) (by
              rw [byteVals, List.getElem?_map, List.getElem?_eq_getElem (by rw [hfl, HL.out]; exact hq8)]; simp [List.getD, List.getElem?_eq_getElem (show q < (flips l f P k).length by rw [hfl, HL.out]; exact hq8)])
            have hfree := own_free (i := q) hown
            have hown3 := own_set hown q (.int .u8 (((flips l f P k).getD q 0 ^^^ UInt8.ofNat (2 ^ (7 - r))).toNat : Int))
            have hset : (byteVals (flips l f P k)).set q (.int .u8 (((flips l f P k).getD q 0 ^^^ UInt8.ofNat (2 ^ (7 - r))).toNat : Int)) = byteVals (flipAt (flips l f P k) (f + k)) := by
              unfold flipAt; rw [hq, hr]; simp [byteVals, List.map_set]
            rw [hset, ← hS.out] at hown3
            have hx8 : ((flips l f P k).getD q 0).toNat < 256 := ((flips l f P k).getD q 0).toNat_lt
            have hp8 : 2 ^ (7 - r) < 256 := by rw [← hr]; exact pow_lt8 (f + k)
            have hxor : bits .xor .u8 ((((flips l f P k).getD q 0).toNat : Nat) : Int) ((2 ^ (7 - r) : Nat) : Int) = (((flips l f P k).getD q 0 ^^^ UInt8.ofNat (2 ^ (7 - r))).toNat : Int) := by
              rw [u8_xor_nat _ _ hx8 hp8, UInt8.toNat_xor, UInt8.toNat_ofNat', Nat.mod_eq_of_lt hp8]
            have hsh : IntKind.u8.wrap ((2 : Int) ^ (7 - r)) = ((2 ^ (7 - r) : Nat) : Int) := by rw [u8wrap, show ((2 : Int) ^ (7 - r)) = ((2 ^ (7 - r) : Nat) : Int) from by simp]; exact (fun (z : Nat) (h : z < 256) => (by omega : ((z : Int) % 256 = (z : Int)))) _ hp8
            generalize ((flips l f P k).getD q 0 ^^^ UInt8.ofNat (2 ^ (7 - r))).toNat = y at *
            generalize ((flips l f P k).getD q 0).toNat = x at *
            generalize hz2 : 2 ^ (7 - r) = z at *
            clear hz2
            have t1 : ((f : Int) + (k : Int)).tdiv 8 = (q : Int) := by rw [Int.tdiv_eq_ediv_of_nonneg (by omega)]; omega
            have t2 : ((f : Int) + (k : Int)).tmod 8 = (r : Int) := by rw [Int.tmod_eq_emod_of_nonneg (by omega)]; omega
            have B3 := B.setCell (p := ⟨g8, q, none⟩) hg8 (.int .u8 (y : Int))
            clear hset hfl hq hr
            go_wp2_with fail
            have hw8 : IntKind.i64.wrap (7 - (r : Int)) = ((7 - r : Nat) : Int) := by rw [IntKind.wrap_i64]; omega
            have hwq : IntKind.i64.wrap (q : Int) = (q : Int) := by rw [IntKind.wrap_i64]; omega
            have hwr : IntKind.i64.wrap (r : Int) = (r : Int) := by rw [IntKind.wrap_i64]; omega
            have hqn : (q : Int) < (n : Int) := by omega
            refine wp_region_any (by kernel_rfl) ?_
            (change wpAny _ _ _ _ _ _ _ (World.drew _))
            refine wpAny_take (i := 0) (v := ?_) rfl (by kernel_rfl) (by kernel_rfl) (by kernel_rfl) (fun _ _ _ h => h) (Or.inl ⟨by rfl, ?_⟩) ?_
            rotate_left
            · intro w
              go_simp
              all_goals with_reducible rfl
            refine wpAny_take (i := 1) (v := ?_) rfl (by kernel_rfl) (by kernel_rfl) (by kernel_rfl) (fun _ _ _ h => h) (Or.inl ⟨by rfl, ?_⟩) ?_
            rotate_left
            · intro w
              go_simp
              all_goals with_reducible rfl
            refine wpAny_take (i := 2) (v := ?_) rfl (by kernel_rfl) (by kernel_rfl) (by kernel_rfl) (fun _ _ _ h => h) (Or.inl ⟨by rfl, ?_⟩) ?_
            rotate_left
            · intro w
              go_simp
              all_goals with_reducible rfl
            refine wpAny_take (i := 3) (v := ?_) rfl (by kernel_rfl) (by kernel_rfl) (by kernel_rfl) (fun _ _ _ h => h) (Or.inl ⟨by rfl, ?_⟩) ?_
            rotate_left
            · intro w
              go_simp
              all_goals with_reducible rfl
            refine wpAny_take (i := 4) (v := ?_) rfl (by kernel_rfl) (by kernel_rfl) (by kernel_rfl) (fun _ _ _ h => h) (Or.inl ⟨by rfl, ?_⟩) ?_
            rotate_left
            · intro w
              go_simp
              all_goals with_reducible rfl
            refine wpAny_take (i := 5) (v := ?_) rfl (by kernel_rfl) (by kernel_rfl) (by kernel_rfl) (fun _ _ _ h => h) (Or.inl ⟨by rfl, ?_⟩) ?_
            rotate_left
            · intro w
              go_simp
              all_goals with_reducible rfl
            refine wpAny_take (i := 6) (v := ?_) rfl (by kernel_rfl) (by kernel_rfl) (by kernel_rfl) (fun _ _ _ h => h) (Or.inl ⟨by rfl, ?_⟩) ?_
            rotate_left
            · intro w
              go_simp
              all_goals with_reducible rfl
            refine wpAny_take (i := 8) (v := ?_) rfl (by kernel_rfl) (by kernel_rfl) (by kernel_rfl) (fun _ _ _ h => h) (Or.inl ⟨by rfl, ?_⟩) ?_
            rotate_left
            · intro w
              go_simp
              all_goals with_reducible rfl
            refine wpAny_take (i := 9) (v := ?_) rfl (by kernel_rfl) (by kernel_rfl) (by kernel_rfl) (fun _ _ _ h => h) (Or.inl ⟨by rfl, ?_⟩) ?_
            rotate_left
            · intro w
              go_simp
              all_goals with_reducible rfl
            refine wpAny_take (i := 10) (v := ?_) rfl (by kernel_rfl) (by kernel_rfl) (by kernel_rfl) (fun _ _ _ h => h) (Or.inl ⟨by rfl, ?_⟩) ?_
            rotate_left
            · intro w
              go_simp
              all_goals with_reducible rfl
            refine wpAny_take (i := 11) (v := ?_) rfl (by kernel_rfl) (by kernel_rfl) (by kernel_rfl) (fun _ _ _ h => h) (Or.inl ⟨by rfl, ?_⟩) ?_
            rotate_left
            · intro w
              go_simp
              all_goals with_reducible rfl
            conv =>
              arg 7
              simp [go_sem]
            refine wpAny_ready (rs := [7]) (by kernel_rfl) (by simp) (AllReady.cons rfl (fun K hK' => oper_load1 rfl 5 (.tmp 59) rfl (by kernel_rfl) rfl (v := .int .u8 (x : Int)) hcell (hK' _ _ ?_)) AllReady.nil)
            clear hK' K
            conv =>
              arg 7
              simp [go_sem]
            refine wpAny_take (i := 12) (v := ?_) rfl (by kernel_rfl) (by kernel_rfl) (by kernel_rfl) (fun _ _ _ h => h) (Or.inl ⟨by rfl, ?_⟩) ?_
            rotate_left
            · intro w
              go_simp
              all_goals with_reducible rfl
            refine wpAny_take (i := 13) (v := ?_) rfl (by kernel_rfl) (by kernel_rfl) (by kernel_rfl) (fun _ _ _ h => h) (Or.inl ⟨by rfl, ?_⟩) ?_
            rotate_left
            · intro w
              go_simp
              all_goals with_reducible rfl
            conv =>
              arg 7
              simp [go_sem]
            refine wpAny_ready (rs := [14]) (by kernel_rfl) (by simp) (AllReady.cons rfl (fun K hK' => oper_store1 rfl 5 (.tmp 66) (.tmp 65) rfl rfl sz5 rfl (u := .int .u8 (y : Int)) rfl rfl rfl hcell hfree (hK' _ _ ?_)) AllReady.nil)
            clear hK' K
            refine wpAny_done (by kernel_rfl) ?_ _
            go_wp2_with fail
            go_roundw
            case rel => exact ⟨k + 1, by omega, by omega, by go_num, by rw [hA.out], hown3, B3.drew⟩
            case measure => simp [intOf]; omega
        · have hcrc := flips_crc l f P k hk (by rw [HL.out]; exact hfk)
          have hfl := Box.mk (show (flips l f P k).length = n from by rw [flips_length]; exact HL.out)
          have R2 := Box.mk (R0.out.call0 (hb1.call0 (Nat.le_refl _) B))
          have RF := Box.mk (Rd.ofOwn hown)
          have BB := hb1.call0 (Nat.le_refl _) B
          have M2 := hM.call0 BB
          have q1 := fun (w : World) (h : Rd w a1 n cap 1 (byteVals l)) (hT : Tabs w) => crc40_any l a1 n cap w h (by omega) hT
          have q2 := fun (w : World) (h : Rd w (some ⟨g8, 0, none⟩) n c8 1 (byteVals (flips l f P k))) (hT : Tabs w) => crc40_any (flips l f P k) _ n c8 w h (by omega) hT
          clear hown B hb1
          cases hany : anyB P k
          all_goals
            rw [hany] at hcrc
            first
            | (have heq : crc (flips l f P k) = crc l := (hcrc.2 rfl).symm
               rw [heq] at q2
               clear heq hcrc)
            | (have hne2 : ((crc l : Int) == (crc (flips l f P k) : Int)) = false := by
                 have : ¬ crc l = crc (flips l f P k) := fun h => by have := hcrc.1 h; cases this
                 simp; omega
               clear hcrc)
            generalize crc (flips l f P k) = y2 at *
            generalize crc l = y1 at *
            by_cases h40 : k < 40
            all_goals
              go_wp2_with fail
              refine (q1 _ R2.out M2.tabs).mono ?_
              rintro e w3 ⟨rfl, hb3⟩
              have M3 := M2.call0 hb3
              have RF3 := RF.out.call0 hb3
              have B3 := BB.call0 (Nat.le_refl _) hb3
              go_wp2_with fail
              refine (q2 _ RF3 M3.tabs).mono ?_
              rintro e w4 ⟨rfl, hb4⟩
              have B4 := B3.call0 (Nat.le_refl _) hb4
              go_wp2_with fail
              go_ret
              exact ⟨rfl, B4⟩
    · have hn' : 400 < n := by omega
      go_enter Tryd.func10, Tryd.ntmps10
      go_wp2_with (go_at_call 15; refine (sanity_any w hM).mono ?_; rintro e w1 ⟨rfl, hb1⟩)
      go_ret
      exact ⟨rfl, hb1⟩
end Go.Proofs.YtcngnpkpaliflaaDoor
