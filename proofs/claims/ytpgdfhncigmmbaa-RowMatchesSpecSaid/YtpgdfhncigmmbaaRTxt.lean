/-
  The walks of the reference's Long, word, Pack and Unpack. No condition.
-/
import Derived.Test.YtpgdfhncigmmbaaRSame
namespace Go.Proofs.Ytpgdfhncigmmbaa
open Go.RowKit

theorem rlong_any (n : Nat) (hn : n ≤ 4611686018427387904) (w : World) : Calls Try.prog 47 #[.int .i64 n] w fun e w' => e = .returned (.int .i64 (nWords n : Nat)) ∧ w' = w := by
  obtain ⟨r, hr⟩ : ∃ r, n % 5 = r := ⟨_, rfl⟩
  obtain ⟨d, hd⟩ : ∃ d, n / 5 = d := ⟨_, rfl⟩
  have q1 : (n : Int) % 5 = (r : Int) := by omega
  have q2 : (n : Int).tmod 5 = (r : Int) := by rw [Int.tmod_eq_emod_of_nonneg (by omega)]; exact q1
  have q3 : (n : Int) / 5 = (d : Int) := by omega
  by_cases h0 : r = 0
  · have HN := Box.mk (show nWords n = d from by unfold nWords; omega)
    have t1 : ((r : Int) == 0) = true := by simp [h0]
    clear hr hd h0
    go_enter Try.func47, Try.ntmps47
    go_wp2_with fail
    go_ret
    exact ⟨by rw [HN.out]; rfl, rfl⟩
  · have HN := Box.mk (show nWords n = d + 1 from by unfold nWords; omega)
    have t1 : ((r : Int) == 0) = false := by simp [h0]
    have hdb : d ≤ 4611686018427387904 := by omega
    clear hr hd h0
    go_enter Try.func47, Try.ntmps47
    go_wp2_with fail
    go_ret
    exact ⟨by rw [HN.out]; rfl, rfl⟩
def wordB (n : Int) : Bool := decide (0 ≤ n) && decide (n ≤ 1099511627775)
theorem wordB_true {n : Int} (h : wordB n = true) : 0 ≤ n ∧ n < lim40 := by unfold wordB at h; unfold lim40; simp at h; omega
theorem wordB_false {n : Int} (h : wordB n = false) : n < 0 ∨ lim40 ≤ n := by
  unfold wordB at h; unfold lim40
  by_cases h0 : 0 ≤ n
  · rw [decide_eq_true h0, Bool.true_and, decide_eq_false_iff_not] at h; omega
  · omega
theorem rword_any (n : Int) (w : World) : Calls Try.prog 42 #[.int .i64 n] w fun e w' => e = .returned (.bool (wordB n)) ∧ w' = w := by
  unfold wordB
  by_cases h : 0 ≤ n
  · have h1 : decide (0 ≤ n) = true := decide_eq_true h
    clear h
    go_enter Try.func42, Try.ntmps42
    go_wp2_with fail
    go_ret
    exact ⟨by rw [h1, Bool.true_and]; rfl, rfl⟩
  · have h1 : decide (0 ≤ n) = false := decide_eq_false h
    clear h
    go_enter Try.func42, Try.ntmps42
    go_wp2_with fail
    go_ret
    exact ⟨by rw [h1, Bool.false_and]; rfl, rfl⟩
theorem rword_is {n : Int} {b : Bool} (h : wordB n = b) (w : World) : Calls Try.prog 42 #[.int .i64 n] w fun e w' => e = .returned (.bool b) ∧ w' = w := by
  subst h; exact rword_any n w

set_option maxRecDepth 20000 in
set_option maxHeartbeats 4000000 in
theorem rpack_any (s : List UInt8) (w : World) (hs : s.length ≤ 1000) : Calls Try.prog 23 #[.string ⟨s.toArray⟩] w (RetL (textW s) w) := by
  have hz : (⟨s.toArray⟩ : ByteArray).size = s.length := str_size s
  go_enter Try.func23, Try.ntmps23
  go_wp2_with fail
  go_loopw [3, 4] (fun v i wr => ∃ (k : Nat) (a : Option Addr) (c : Nat), k ≤ nWords s.length ∧ i = .int .i64 ((5 * k : Nat) : Int) ∧ v = .slice a k c ∧ Box (Own w.heap.size wr [RowP 3 1 a k c (intVals (textUp s k))] ∧ Below w.heap.size w wr)) (fun _ i _ => s.length + 5 - (intOf i).toNat)
  case atStart => exact ⟨0, none, 0, Nat.zero_le _, rfl, rfl, ⟨(Own.start w).nilRow _ _, Below.refl _ _⟩⟩
  case round =>
    obtain ⟨k, a, c, hk, rfl, rfl, HB⟩ := hrel
    by_cases hlt : 5 * k < s.length
    · have hkn := lt_nWords hlt
      obtain ⟨p, hp⟩ : ∃ p, p = 5 * k := ⟨_, rfl⟩
      have HP := Box.mk hp
      rw [← hp] at hlt ⊢
      have hpb : p ≤ 1000 := by omega
      clear hp
      go_wp2_with fail
      go_loopw [5, 6] (fun v i wr2 => ∃ j : Nat, j ≤ 5 ∧ i = .int .i64 ((p : Int) + (j : Int)) ∧ v = .int .i64 (wordTo s k j : Nat) ∧ wr2 = wr) (fun _ i _ => p + 5 - (intOf i).toNat)
      case atStart => exact ⟨0, by omega, by simp, rfl, rfl⟩
      case round =>
        obtain ⟨j, hj, rfl, rfl, rfl⟩ := hrel
        by_cases hj5 : j < 5
        · have hw := wordTo_lt5 s k j hj5
          have HW := Box.mk (show wordTo s k (j + 1) = wordTo s k j * 256 + (s.getD (5 * k + j) 0).toNat from rfl)
          rw [← HP.out] at HW
          generalize wordTo s k j = z at *
          by_cases hin : p + j < s.length
          · have hix := fun wx => run_index_str (P := Try.prog) (t := 9) (by kernel_rfl) s .i64 (p + j) hin wx
            have hb := (s.getD (p + j) 0).toNat_lt
            generalize (s.getD (p + j) 0).toNat = b at *
            have hix2 : ∀ wx, (Instr.index 9 (.string ⟨s.toArray⟩) (.int .i64 ((p : Int) + (j : Int)))).run Try.prog wx = .ok (.int .u8 b) wx := fun wx => by
              have h := hix wx
              rw [show ((p + j : Nat) : Int) = (p : Int) + (j : Int) from by omega] at h
              exact h
            have t1 : decide ((p : Int) + (j : Int) < (s.length : Int)) = true := decide_eq_true (by omega)
            clear hix
            go_wp2_with fail
            exact ⟨⟨j + 1, by omega, by go_num, by rw [HW.out]; go_num, trivial⟩, by simp [intOf]; omega⟩
          · have h0 : (s.getD (p + j) 0).toNat = 0 := by rw [List.getD_eq_getElem?_getD, List.getElem?_eq_none (by omega)]; rfl
            rw [h0, Nat.add_zero] at HW
            have t1 : decide ((p : Int) + (j : Int) < (s.length : Int)) = false := decide_eq_false (by omega)
            clear h0
            go_wp2_with fail
            exact ⟨⟨j + 1, by omega, by go_num, by rw [HW.out]; go_num, trivial⟩, by simp [intOf]; omega⟩
        · obtain rfl : j = 5 := by omega
          have HWA := Box.mk (show ((wordTo s k 5 : Nat) : Int) = wordAt s k from rfl)
          rw [HWA.out]
          generalize hza : wordAt s k = z at *
          have HTS := Box.mk (show intVals (textUp s (k + 1)) = intVals (textUp s k) ++ [.int .i64 z] from by rw [textUp_succ, hza]; simp [intVals])
          have HOA := Box.mk (And.intro (HB.out.1.new [.int .i64 z] 3) (HB.out.2.alloc HB.out.2.size (.cells #[.int .i64 z] 3)))
          have hnw : nWords s.length ≤ 201 := by unfold nWords; omega
          go_wp2_with (at_builtin; refine wpList_append_src rfl _ _ 29 29 rfl sl_int (.inl sl_int.ht) rfl (HOA.out.1.row 0 rfl) rfl (Src.oneNew _ _ _ rfl) (by omega) (by unfold maxLen; omega) (by simp) ?_; intro a3 c3 w3 hown3 hgr3 hnew3; have HG := Box.mk (HOA.out.1.grown 0 rfl hown3 hgr3 hnew3); clear hown3 hgr3 hnew3)
          refine ⟨⟨k + 1, a3, c3, by omega, ?_, rfl, ⟨by rw [HTS.out]; exact HG.out.1.drop 1, HOA.out.2.trans HG.out.2⟩⟩, by simp [intOf]; omega⟩
          have := HP.out
          rw [show ((5 * (k + 1) : Nat) : Int) = (p : Int) + 5 from by omega]
    · have hkn := nWords_le (n := s.length) (by omega) hk
      have hX : textUp s k = textW s := by unfold textW; rw [hkn]
      have hl : (textW s).length = k := by rw [textW_length, hkn]
      rw [hX] at HB
      have HL := Box.mk hl
      have t1 : ¬ ((5 * k : Nat) : Int) < (s.length : Int) := by omega
      clear hl hX hkn
      go_wp2_with fail
      go_ret
      refine ⟨HB.out.2, a, c, by rw [HL.out]; rfl, ?_⟩
      rw [HL.out]; exact HB.out.1.rowB 0 rfl
theorem oper_lit5 {P : Program} {w : World} {ops : Array Oper} {o : Oper} {a : Act} {K : Act → World → Prop} {Q : Exit → Act → World → Prop} (hgd : Region.wanted o (yielded ops a.tmps) = true) (t : TypeId) (x0 x1 x2 x3 x4 : Operand) (ho : o.op = .buildSlice t 5 #[(0, x0), (1, x1), (2, x2), (3, x3), (4, x4)])
    {e : TypeId} {z0 : Value} {bytes : Nat} (hT : SlT P t e z0 1 bytes) {v0 v1 v2 v3 v4 : Value} (h0 : (a.eval x0).cells = #[v0]) (h1 : (a.eval x1).cells = #[v1]) (h2 : (a.eval x2).cells = #[v2]) (h3 : (a.eval x3).cells = #[v3]) (h4 : (a.eval x4).cells = #[v4])
    (h : K (a.put o.dst (.slice (some ⟨w.heap.size, 0, none⟩) 5 5)) (w.alloc (.cells #[v0, v1, v2, v3, v4] e))) : if Region.wanted o (yielded ops a.tmps) = true then Oper.wp P o a w K Q else K (a.put o.dst undef) w := by
  rw [if_pos hgd]
  obtain ⟨i, hi, hz, hsz, hby⟩ := info_parts hT.info
  have hrun : (Instr.buildSlice t 5 #[(0, a.eval x0), (1, a.eval x1), (2, a.eval x2), (3, a.eval x3), (4, a.eval x4)]).run P w = .ok (.slice (some ⟨w.heap.size, 0, none⟩) 5 5) (w.alloc (.cells #[v0, v1, v2, v3, v4] e)) := by
    simp [Instr.buildSlice, run_underlying hT.ht, sizeOf, typeInfo, zeroValue, hi, hz, hsz, Instr.fill, h0, h1, h2, h3, h4, newRow, hT.hz]
    rw [show Array.range 5 = #[0, 1, 2, 3, 4] from rfl]; simp
  unfold Oper.wp execOp
  simp only [ho, List.map_toArray, List.map_cons, List.map_nil, Sem.run_bind, hrun, Result.andThen_ok, Sem.run_pure]
  exact h
theorem bytes5 (x : Int) : byteVals (bytesTo x 5) = [.int .u8 ((byteAt x 0).toNat : Int), .int .u8 ((byteAt x 1).toNat : Int), .int .u8 ((byteAt x 2).toNat : Int), .int .u8 ((byteAt x 3).toNat : Int), .int .u8 ((byteAt x 4).toNat : Int)] := rfl
theorem u8_one (b0 b1 b2 b3 b4 : Int) : ∀ u ∈ [Value.int .u8 b0, .int .u8 b1, .int .u8 b2, .int .u8 b3, .int .u8 b4], u.oneCell' = true := by
  intro u hu; simp at hu; rcases hu with rfl | rfl | rfl | rfl | rfl <;> rfl
theorem rd_cellsT {w : World} {g n : Nat} {ty : TypeId} {cs : List Value} (h : Blk w g ty cs) (hl : cs.length = n * 1) (hm : n ≤ maxLen) : Rd w (some ⟨g, 0, none⟩) n n 1 cs := Rd.ofOwn (own_new h (Nat.le_refl _) hl hm)
theorem u8w (x : Int) : IntKind.u8.wrap x = x % 256 := by simp [IntKind.wrap, IntKind.bits, IntKind.signed]

set_option maxRecDepth 100000 in
set_option maxHeartbeats 4000000 in
theorem runpack_any {l : List Int} {m : Int} {a : Option Addr} {n c : Nat} {w : World} (hr : Rd w a n c 1 (intVals l)) (hl : n ≤ 1000) (hm : m ≤ 9223372036854775807) : Calls Try.prog 22 #[.slice a n c, .int .i64 m] w (RetU (unpackT l m) w) := by
  generalize hO : unpackT l m = O
  have HO := Box.mk hO
  clear hO
  have hln := hr.ilen
  have hcap := hr.hcap
  have HR := Box.mk hr
  clear hr
  by_cases hm0 : m < 0
  · have hX := HO.out.symm.trans (if_pos hm0)
    subst hX
    go_enter Try.func22, Try.ntmps22
    go_wp2_with fail
    go_ret2
    exact ⟨rfl, Below.refl _ _⟩
  · obtain ⟨M, rfl⟩ := Int.eq_ofNat_of_zero_le (show 0 ≤ m by omega)
    have HM := Box.mk (show O = (rdT M l).map (·.1) from HO.out.symm.trans (if_neg hm0))
    clear HO hm0
    have hM0 : 0 ≤ (M : Int) := by omega
    by_cases hM5 : n < M / 5
    · have hX := unpack_none HM.out (rdT_none (k := M / 5) (rdB_short (by omega)) (by unfold nWords; omega))
      subst hX
      have ht : (n : Int) < (M : Int) / 5 := by omega
      go_enter Try.func22, Try.ntmps22
      go_wp2_with fail
      go_ret2
      exact ⟨rfl, Below.refl _ _⟩
    · have ht : (M : Int) / 5 ≤ (n : Int) := by omega
      have hMs : M ≤ 6000 := by omega
      have HL := Box.mk (fun w => rlong_any M (by omega) w)
      have hNW : nWords M ≤ 1300 := by unfold nWords; omega
      have HNW := Box.mk (show nWords M = (M + 4) / 5 from rfl)
      go_enter Try.func22, Try.ntmps22
      go_wp2_with fail
      refine (HL.out _).mono ?_
      rintro e w1 ⟨rfl, rfl⟩
      by_cases hN : n < nWords M
      · have hX := unpack_none HM.out (rdT_none (k := nWords M) (rdB_short (by omega)) (Nat.le_refl _))
        subst hX
        have ht2 : (n : Int) < (nWords M : Int) := by omega
        generalize nWords M = N at *
        go_wp2_with fail
        go_ret2
        exact ⟨rfl, Below.refl _ _⟩
      · have hN2 : nWords M ≤ n := by omega
        have ht2 : (nWords M : Int) ≤ (n : Int) := by omega
        obtain ⟨N, hNN⟩ : ∃ N, N = nWords M := ⟨_, rfl⟩
        rw [← hNN] at HL hNW HNW hN hN2 ht2 ⊢
        have HNN := Box.mk hNN
        clear hNN hN
        have hN0 : 0 ≤ (N : Int) := by omega
        have tN : decide (n < N) = false := decide_eq_false (by omega)
        go_wp2_with fail
        clear tN
        go_loopw [6, 7] (fun v i wr => ∃ (k : Nat) (a2 : Option Addr) (c2 : Nat) (b : List UInt8) (lk : List Int), k ≤ N ∧ i = .int .i64 k ∧ v = .slice a2 (5 * k) c2 ∧ Box (rdB l k = some (b, lk) ∧ Own w1.heap.size wr [RowP 5 1 a2 (5 * k) c2 (byteVals b)] ∧ Below w1.heap.size w1 wr)) (fun _ i _ => N - (intOf i).toNat)
        case atStart => exact ⟨0, none, 0, [], l, Nat.zero_le _, rfl, rfl, ⟨rfl, (Own.start w1).nilRow _ _, Below.refl _ _⟩⟩
        case round =>
          obtain ⟨k, a2, c2, b, lk, hk, rfl, rfl, HB⟩ := hrel
          by_cases hlt : k < N
          · have hkl : k < l.length := by omega
            obtain ⟨g, off, rfl, hc0⟩ := HR.out.intAtD k (by omega)
            have HC0 := Box.mk hc0
            have hc := (HB.out.2.2.cell (p := ⟨g, off + k, none⟩) (cell_block_lt hc0)).trans hc0
            have HLK := Box.mk (rd_at_drop HB.out.1 hkl)
            generalize l.getD k 0 = x at *
            clear hc0
            go_wp2_with fail
            refine (HL.out _).mono ?_
            rintro e w4 ⟨rfl, rfl⟩
            cases hwb : wordB x with
            | false =>
              have hX := unpack_none HM.out (rdT_none (rdB_stop HB.out.1 (by rw [HLK.out]; exact rdW_out (wordB_false hwb))) (by have := HNN.out; omega))
              subst hX
              go_wp2_with fail
              refine (rword_is hwb _).mono ?_
              rintro e w5 ⟨rfl, rfl⟩
              clear hwb
              go_wp2_with fail
              go_ret2
              exact ⟨rfl, HB.out.2.2⟩
            | true =>
              obtain ⟨hx1, hx3⟩ := wordB_true hwb
              have HNX := Box.mk (rdB_next HB.out.1 (show rdW lim40 lk = some (x, l.drop (k + 1)) from by rw [HLK.out]; exact rdW_cons hx1 hx3))
              unfold lim40 at hx3
              go_wp2_with fail
              refine (rword_is hwb _).mono ?_
              rintro e w5 ⟨rfl, rfl⟩
              clear hwb HLK hc
              obtain ⟨p, hp⟩ : ∃ p, p = 5 * k := ⟨_, rfl⟩
              rw [← hp] at HB ⊢
              have HPP := Box.mk hp
              have hpn : p ≤ 7000 := by omega
              clear hp
              have e0 : (x / 4294967296) % 256 = ((byteAt x 0).toNat : Int) := byteAt_int x 0 hx1
              have e1 : (x / 16777216) % 256 = ((byteAt x 1).toNat : Int) := byteAt_int x 1 hx1
              have e2 : (x / 65536) % 256 = ((byteAt x 2).toNat : Int) := byteAt_int x 2 hx1
              have e3 : (x / 256) % 256 = ((byteAt x 3).toNat : Int) := byteAt_int x 3 hx1
              have e4 : x % 256 = ((byteAt x 4).toNat : Int) := by have h := byteAt_int x 4 hx1; simpa using h
              have HB5 := Box.mk (bytes5 x)
              generalize ((byteAt x 0).toNat : Int) = b0 at *
              generalize ((byteAt x 1).toNat : Int) = b1 at *
              generalize ((byteAt x 2).toNat : Int) = b2 at *
              generalize ((byteAt x 3).toNat : Int) = b3 at *
              generalize ((byteAt x 4).toNat : Int) = b4 at *
              have HE := Box.mk (And.intro e0 (And.intro e1 (And.intro e2 (And.intro e3 e4))))
              clear e0 e1 e2 e3 e4
              go_upto_region 10 with fail
              have HS0 : Below w1.heap.size w1 w5.drew := HB.out.2.2.drew
              have HO5 := Box.mk HB.out.2.1.drew
              refine wp_region_held_drew (S := fun w' => Below w1.heap.size w1 w') (by kernel_rfl) HS0 (fun _ => ?_)
              refine wpAnyH_take (i := 0) (v := ?_) rfl (by kernel_rfl) (by kernel_rfl) (by kernel_rfl) (fun _ _ _ h => h) (yieldsIf_val (by rfl) (fun w' hS => ?_)) HS0 ?_
              rotate_left
              · skip
                go_simp
                all_goals with_reducible rfl
              conv =>
                arg 8
                simp [go_sem]
              refine wpAnyH_take (i := 1) (v := ?_) rfl (by kernel_rfl) (by kernel_rfl) (by kernel_rfl) (fun _ _ _ h => h) (yieldsIf_val (by rfl) (fun w' hS => ?_)) HS0 ?_
              rotate_left
              · skip
                go_simp
                all_goals with_reducible rfl
              conv =>
                arg 8
                simp [go_sem]
              refine wpAnyH_take (i := 2) (v := ?_) rfl (by kernel_rfl) (by kernel_rfl) (by kernel_rfl) (fun _ _ _ h => h) (yieldsIf_val (by rfl) (fun w' hS => ?_)) HS0 ?_
              rotate_left
              · skip
                go_simp
                all_goals with_reducible rfl
              conv =>
                arg 8
                simp [go_sem]
              refine wpAnyH_take (i := 3) (v := ?_) rfl (by kernel_rfl) (by kernel_rfl) (by kernel_rfl) (fun _ _ _ h => h) (yieldsIf_val (by rfl) (fun w' hS => ?_)) HS0 ?_
              rotate_left
              · skip
                have q0 : (0 : Int) ≤ (k : Int) := by omega
                have q1 : (k : Int) < (n : Int) := by omega
                go_simp
                all_goals with_reducible rfl
              conv =>
                arg 8
                simp [go_sem]
              refine wpAnyH_take (i := 4) (v := ?_) rfl (by kernel_rfl) (by kernel_rfl) (by kernel_rfl) (fun _ _ _ h => h) (yieldsIf_val (by rfl) (fun w' hS => ?_)) HS0 ?_
              rotate_left
              · skip
                have q := (hS.cell (p := ⟨g, off + k, none⟩) (cell_block_lt HC0.out)).trans HC0.out
                go_simp
                all_goals with_reducible rfl
              conv =>
                arg 8
                simp [go_sem]
              refine wpAnyH_take (i := 5) (v := ?_) rfl (by kernel_rfl) (by kernel_rfl) (by kernel_rfl) (fun _ _ _ h => h) (yieldsIf_val (by rfl) (fun w' hS => ?_)) HS0 ?_
              rotate_left
              · skip
                go_simp
                all_goals with_reducible rfl
              conv =>
                arg 8
                simp [go_sem]
              refine wpAnyH_take (i := 6) (v := ?_) rfl (by kernel_rfl) (by kernel_rfl) (by kernel_rfl) (fun _ _ _ h => h) (yieldsIf_val (by rfl) (fun w' hS => ?_)) HS0 ?_
              rotate_left
              · skip
                have q : IntKind.u8.wrap (x / 4294967296) = b0 := by rw [u8w]; exact HE.out.1
                go_simp
                all_goals with_reducible rfl
              conv =>
                arg 8
                simp [go_sem]
              refine wpAnyH_take (i := 7) (v := ?_) rfl (by kernel_rfl) (by kernel_rfl) (by kernel_rfl) (fun _ _ _ h => h) (yieldsIf_val (by rfl) (fun w' hS => ?_)) HS0 ?_
              rotate_left
              · skip
                go_simp
                all_goals with_reducible rfl
              conv =>
                arg 8
                simp [go_sem]
              refine wpAnyH_take (i := 8) (v := ?_) rfl (by kernel_rfl) (by kernel_rfl) (by kernel_rfl) (fun _ _ _ h => h) (yieldsIf_val (by rfl) (fun w' hS => ?_)) HS0 ?_
              rotate_left
              · skip
                go_simp
                all_goals with_reducible rfl
              conv =>
                arg 8
                simp [go_sem]
              refine wpAnyH_take (i := 9) (v := ?_) rfl (by kernel_rfl) (by kernel_rfl) (by kernel_rfl) (fun _ _ _ h => h) (yieldsIf_val (by rfl) (fun w' hS => ?_)) HS0 ?_
              rotate_left
              · skip
                have q0 : (0 : Int) ≤ (k : Int) := by omega
                have q1 : (k : Int) < (n : Int) := by omega
                go_simp
                all_goals with_reducible rfl
              conv =>
                arg 8
                simp [go_sem]
              refine wpAnyH_take (i := 10) (v := ?_) rfl (by kernel_rfl) (by kernel_rfl) (by kernel_rfl) (fun _ _ _ h => h) (yieldsIf_val (by rfl) (fun w' hS => ?_)) HS0 ?_
              rotate_left
              · skip
                have q := (hS.cell (p := ⟨g, off + k, none⟩) (cell_block_lt HC0.out)).trans HC0.out
                go_simp
                all_goals with_reducible rfl
              conv =>
                arg 8
                simp [go_sem]
              refine wpAnyH_take (i := 11) (v := ?_) rfl (by kernel_rfl) (by kernel_rfl) (by kernel_rfl) (fun _ _ _ h => h) (yieldsIf_val (by rfl) (fun w' hS => ?_)) HS0 ?_
              rotate_left
              · skip
                go_simp
                all_goals with_reducible rfl
              conv =>
                arg 8
                simp [go_sem]
              refine wpAnyH_take (i := 12) (v := ?_) rfl (by kernel_rfl) (by kernel_rfl) (by kernel_rfl) (fun _ _ _ h => h) (yieldsIf_val (by rfl) (fun w' hS => ?_)) HS0 ?_
              rotate_left
              · skip
                have q : IntKind.u8.wrap (x / 16777216) = b1 := by rw [u8w]; exact HE.out.2.1
                go_simp
                all_goals with_reducible rfl
              conv =>
                arg 8
                simp [go_sem]
              refine wpAnyH_take (i := 13) (v := ?_) rfl (by kernel_rfl) (by kernel_rfl) (by kernel_rfl) (fun _ _ _ h => h) (yieldsIf_val (by rfl) (fun w' hS => ?_)) HS0 ?_
              rotate_left
              · skip
                go_simp
                all_goals with_reducible rfl
              conv =>
                arg 8
                simp [go_sem]
              refine wpAnyH_take (i := 14) (v := ?_) rfl (by kernel_rfl) (by kernel_rfl) (by kernel_rfl) (fun _ _ _ h => h) (yieldsIf_val (by rfl) (fun w' hS => ?_)) HS0 ?_
              rotate_left
              · skip
                go_simp
                all_goals with_reducible rfl
              conv =>
                arg 8
                simp [go_sem]
              refine wpAnyH_take (i := 15) (v := ?_) rfl (by kernel_rfl) (by kernel_rfl) (by kernel_rfl) (fun _ _ _ h => h) (yieldsIf_val (by rfl) (fun w' hS => ?_)) HS0 ?_
              rotate_left
              · skip
                have q0 : (0 : Int) ≤ (k : Int) := by omega
                have q1 : (k : Int) < (n : Int) := by omega
                go_simp
                all_goals with_reducible rfl
              conv =>
                arg 8
                simp [go_sem]
              refine wpAnyH_take (i := 16) (v := ?_) rfl (by kernel_rfl) (by kernel_rfl) (by kernel_rfl) (fun _ _ _ h => h) (yieldsIf_val (by rfl) (fun w' hS => ?_)) HS0 ?_
              rotate_left
              · skip
                have q := (hS.cell (p := ⟨g, off + k, none⟩) (cell_block_lt HC0.out)).trans HC0.out
                go_simp
                all_goals with_reducible rfl
              conv =>
                arg 8
                simp [go_sem]
              refine wpAnyH_take (i := 17) (v := ?_) rfl (by kernel_rfl) (by kernel_rfl) (by kernel_rfl) (fun _ _ _ h => h) (yieldsIf_val (by rfl) (fun w' hS => ?_)) HS0 ?_
              rotate_left
              · skip
                go_simp
                all_goals with_reducible rfl
              conv =>
                arg 8
                simp [go_sem]
              refine wpAnyH_take (i := 18) (v := ?_) rfl (by kernel_rfl) (by kernel_rfl) (by kernel_rfl) (fun _ _ _ h => h) (yieldsIf_val (by rfl) (fun w' hS => ?_)) HS0 ?_
              rotate_left
              · skip
                have q : IntKind.u8.wrap (x / 65536) = b2 := by rw [u8w]; exact HE.out.2.2.1
                go_simp
                all_goals with_reducible rfl
              conv =>
                arg 8
                simp [go_sem]
              refine wpAnyH_take (i := 19) (v := ?_) rfl (by kernel_rfl) (by kernel_rfl) (by kernel_rfl) (fun _ _ _ h => h) (yieldsIf_val (by rfl) (fun w' hS => ?_)) HS0 ?_
              rotate_left
              · skip
                go_simp
                all_goals with_reducible rfl
              conv =>
                arg 8
                simp [go_sem]
              refine wpAnyH_take (i := 20) (v := ?_) rfl (by kernel_rfl) (by kernel_rfl) (by kernel_rfl) (fun _ _ _ h => h) (yieldsIf_val (by rfl) (fun w' hS => ?_)) HS0 ?_
              rotate_left
              · skip
                go_simp
                all_goals with_reducible rfl
              conv =>
                arg 8
                simp [go_sem]
              refine wpAnyH_take (i := 21) (v := ?_) rfl (by kernel_rfl) (by kernel_rfl) (by kernel_rfl) (fun _ _ _ h => h) (yieldsIf_val (by rfl) (fun w' hS => ?_)) HS0 ?_
              rotate_left
              · skip
                have q0 : (0 : Int) ≤ (k : Int) := by omega
                have q1 : (k : Int) < (n : Int) := by omega
                go_simp
                all_goals with_reducible rfl
              conv =>
                arg 8
                simp [go_sem]
              refine wpAnyH_take (i := 22) (v := ?_) rfl (by kernel_rfl) (by kernel_rfl) (by kernel_rfl) (fun _ _ _ h => h) (yieldsIf_val (by rfl) (fun w' hS => ?_)) HS0 ?_
              rotate_left
              · skip
                have q := (hS.cell (p := ⟨g, off + k, none⟩) (cell_block_lt HC0.out)).trans HC0.out
                go_simp
                all_goals with_reducible rfl
              conv =>
                arg 8
                simp [go_sem]
              refine wpAnyH_take (i := 23) (v := ?_) rfl (by kernel_rfl) (by kernel_rfl) (by kernel_rfl) (fun _ _ _ h => h) (yieldsIf_val (by rfl) (fun w' hS => ?_)) HS0 ?_
              rotate_left
              · skip
                go_simp
                all_goals with_reducible rfl
              conv =>
                arg 8
                simp [go_sem]
              refine wpAnyH_take (i := 24) (v := ?_) rfl (by kernel_rfl) (by kernel_rfl) (by kernel_rfl) (fun _ _ _ h => h) (yieldsIf_val (by rfl) (fun w' hS => ?_)) HS0 ?_
              rotate_left
              · skip
                have q : IntKind.u8.wrap (x / 256) = b3 := by rw [u8w]; exact HE.out.2.2.2.1
                go_simp
                all_goals with_reducible rfl
              conv =>
                arg 8
                simp [go_sem]
              refine wpAnyH_take (i := 25) (v := ?_) rfl (by kernel_rfl) (by kernel_rfl) (by kernel_rfl) (fun _ _ _ h => h) (yieldsIf_val (by rfl) (fun w' hS => ?_)) HS0 ?_
              rotate_left
              · skip
                go_simp
                all_goals with_reducible rfl
              conv =>
                arg 8
                simp [go_sem]
              refine wpAnyH_take (i := 26) (v := ?_) rfl (by kernel_rfl) (by kernel_rfl) (by kernel_rfl) (fun _ _ _ h => h) (yieldsIf_val (by rfl) (fun w' hS => ?_)) HS0 ?_
              rotate_left
              · skip
                go_simp
                all_goals with_reducible rfl
              conv =>
                arg 8
                simp [go_sem]
              refine wpAnyH_take (i := 27) (v := ?_) rfl (by kernel_rfl) (by kernel_rfl) (by kernel_rfl) (fun _ _ _ h => h) (yieldsIf_val (by rfl) (fun w' hS => ?_)) HS0 ?_
              rotate_left
              · skip
                have q0 : (0 : Int) ≤ (k : Int) := by omega
                have q1 : (k : Int) < (n : Int) := by omega
                go_simp
                all_goals with_reducible rfl
              conv =>
                arg 8
                simp [go_sem]
              refine wpAnyH_take (i := 28) (v := ?_) rfl (by kernel_rfl) (by kernel_rfl) (by kernel_rfl) (fun _ _ _ h => h) (yieldsIf_val (by rfl) (fun w' hS => ?_)) HS0 ?_
              rotate_left
              · skip
                have q := (hS.cell (p := ⟨g, off + k, none⟩) (cell_block_lt HC0.out)).trans HC0.out
                go_simp
                all_goals with_reducible rfl
              conv =>
                arg 8
                simp [go_sem]
              refine wpAnyH_take (i := 29) (v := ?_) rfl (by kernel_rfl) (by kernel_rfl) (by kernel_rfl) (fun _ _ _ h => h) (yieldsIf_val (by rfl) (fun w' hS => ?_)) HS0 ?_
              rotate_left
              · skip
                have q : IntKind.u8.wrap (x) = b4 := by rw [u8w]; exact HE.out.2.2.2.2
                go_simp
                all_goals with_reducible rfl
              conv =>
                arg 8
                simp [go_sem]
              conv =>
                arg 8
                simp [go_sem]
              refine wpAnyH_ready (rs := [30]) (by kernel_rfl) (by simp) (AllReadyH.cons rfl (fun K' hK' => oper_lit5 (by rfl) 75 (.tmp 45) (.tmp 51) (.tmp 57) (.tmp 63) (.tmp 68) rfl sl_u8 (v0 := .int .u8 b0) (v1 := .int .u8 b1) (v2 := .int .u8 b2) (v3 := .int .u8 b3) (v4 := .int .u8 b4) rfl rfl rfl rfl rfl ?_) AllReadyH.nil)
              have HO6 := Box.mk (And.intro (HO5.out.new [.int .u8 b0, .int .u8 b1, .int .u8 b2, .int .u8 b3, .int .u8 b4] 5) (HS0.alloc HS0.size (.cells [.int .u8 b0, .int .u8 b1, .int .u8 b2, .int .u8 b3, .int .u8 b4].toArray 5)))
              have HT1 := HO6.out.2
              refine hK'.out _ _ HT1 (fun _ => ?_)
              clear hK' K'
              conv =>
                arg 8
                simp [go_sem]
              conv =>
                arg 8
                simp [go_sem]
              have SRC := Box.mk (Src.ofRd (P := Try.prog) (rd_cellsT (n := 5) (HO6.out.1.blk 1 rfl).1 rfl (by unfold maxLen; omega)) (u8_one _ _ _ _ _))
              refine wpAnyH_ready (rs := [31]) (by kernel_rfl) (by simp) (AllReadyH.cons rfl (fun K' hK' => oper_append2 (by rfl) (.tmp 39) (.tmp 69) 75 75 rfl sl_u8 (.inl sl_u8.ht) rfl (HO6.out.1.row 0 rfl) rfl SRC.out (by omega) (by unfold maxLen; omega) (by omega) ?_) AllReadyH.nil)
              intro a7 c7 w7 hown7 hgr7 hnew7
              have HG := Box.mk (by have h := HO6.out.1.grown 0 rfl hown7 hgr7 hnew7; exact And.intro h.1 (HO6.out.2.trans h.2))
              have HT2 := HG.out.2
              refine hK'.out _ _ HT2 (fun _ => ?_)
              clear hK' K'
              conv =>
                arg 8
                simp [go_sem]
              refine wpAnyH_take (i := 32) (v := ?_) rfl (by kernel_rfl) (by kernel_rfl) (by kernel_rfl) (fun _ _ _ h => h) (yieldsIf_val (by rfl) (fun w' hS => ?_)) HT2 ?_
              rotate_left
              · skip
                go_simp
                all_goals with_reducible rfl
              conv =>
                arg 8
                simp [go_sem]
              refine ⟨by kernel_rfl, ?_⟩
              conv =>
                arg 5
                simp [go_sem]
              go_wp2_with fail
              have hp := HPP.out
              have e5 : p + 5 = 5 * (k + 1) := by omega
              have HF := HG.out
              rw [e5] at HF ⊢
              refine ⟨⟨k + 1, a7, c7, _, _, by omega, by go_num, rfl, ⟨HNX.out, ?_, HF.2⟩⟩, ?_⟩
              · rw [byteVals_append, HB5.out]; exact HF.1.drop 1
              · simp [intOf]; omega
          · obtain rfl : k = N := by omega
            have hk2 := HNN.out
            obtain ⟨q, hq⟩ : ∃ q, q = 5 * k := ⟨_, rfl⟩
            rw [← hq] at HB ⊢
            have hq2 : q ≤ 7000 := by omega
            have hMq : M ≤ q := by have := HNW.out; omega
            rw [hk2] at HB
            clear hk2
            have HRB := Box.mk (Rd.ofOwn (HB.out.2.1.row 0 rfl))
            have hbl := HRB.out.blen
            have hcap2 := HRB.out.hcap
            have hcm := HRB.out.hmax
            unfold maxLen at hcm
            have HQ := Box.mk hq
            have HPR := Box.mk (HRB.out.pre M hMq)
            rw [show (byteVals b).take M = byteVals (b.take M) from by simp [byteVals, List.map_take]] at HPR
            clear hq
            go_wp2_with fail
            refine (HL.out _).mono ?_
            rintro e w4 ⟨rfl, rfl⟩
            go_wp2_with fail
            go_loopw [9] (fun i wr2 => ∃ j : Nat, M ≤ j ∧ j ≤ q ∧ i = .int .i64 j ∧ Box (∀ i, M ≤ i → i < j → (b.getD i 0).toNat = 0) ∧ wr2 = w4) (fun i _ => q - (intOf i).toNat)
            case atStart => exact ⟨M, Nat.le_refl _, hMq, rfl, ⟨fun i h1 h2 => by omega⟩, rfl⟩
            case round =>
              obtain ⟨j, hj1, hj, rfl, HZ, rfl⟩ := hrel
              by_cases hjq : j < q
              · obtain ⟨g2, off2, rfl, hcb⟩ := HRB.out.byteN j hjq
                by_cases hy0 : (b.getD j 0).toNat = 0
                · rw [hy0] at hcb
                  have HZ2 := Box.mk (show ∀ i, M ≤ i → i < j + 1 → (b.getD i 0).toNat = 0 from fun i h1 h2 => by
                    by_cases e : i = j
                    · subst e; exact hy0
                    · exact HZ.out i h1 (by omega))
                  clear hy0
                  go_wp2_with fail
                  exact ⟨⟨j + 1, by omega, by omega, by go_num, HZ2, trivial⟩, by simp [intOf]; omega⟩
                · have hany : (b.drop M).any nzB = true := by
                    rw [List.any_eq_true]
                    refine ⟨b[j]'(by omega), ?_, ?_⟩
                    · rw [List.mem_iff_getElem]
                      exact ⟨j - M, by rw [List.length_drop]; omega, by rw [List.getElem_drop]; congr 1; omega⟩
                    · unfold nzB
                      rw [List.getD_eq_getElem?_getD, List.getElem?_eq_getElem (by omega)] at hy0
                      exact decide_eq_true hy0
                  have hX := unpack_none HM.out (rdT_any HB.out.1 hany)
                  subst hX
                  have hyn : (((b.getD j 0).toNat : Int) != 0) = true := by simp only [bne_iff_ne, ne_eq]; omega
                  clear hany
                  generalize (b.getD j 0).toNat = yy at *
                  clear hy0
                  go_wp2_with fail
                  go_ret2
                  exact ⟨rfl, HB.out.2.2⟩
              · obtain rfl : j = q := by omega
                have hany : (b.drop M).any nzB = false := by
                  rw [List.any_eq_false]
                  intro y hy
                  obtain ⟨i, hi, rfl⟩ := List.mem_iff_getElem.1 hy
                  rw [List.length_drop] at hi
                  have := HZ.out (M + i) (by omega) (by omega)
                  rw [List.getD_eq_getElem?_getD, List.getElem?_eq_getElem (by omega)] at this
                  rw [List.getElem_drop]
                  unfold nzB
                  simpa using this
                have hX := unpack_some HM.out (rdT_fine HB.out.1 hany)
                subst hX
                have hcv := run_string_rd (P := Try.prog) (src := 75) (dst := 9) (e := 5) (by kernel_rfl) (by kernel_rfl) (by kernel_rfl) HPR.out
                clear hany
                go_wp2_with fail
                go_ret2
                exact ⟨rfl, HB.out.2.2⟩
end Go.Proofs.Ytpgdfhncigmmbaa
