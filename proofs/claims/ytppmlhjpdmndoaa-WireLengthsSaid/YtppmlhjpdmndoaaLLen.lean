/-
  The walk of WireLengths: it returns true and keeps what was there. No condition.
-/
import Derived.Test.YtppmlhjpdmndoaaWSanity
import Derived.Test.YtppmlhjpdmndoaaArg
import Derived.Test.YtppmlhjpdmndoaaLCanon
import Derived.Deep.RegionWith
import Derived.Deep.CutRange
import Derived.BigQuiet
namespace Go.Proofs.Ytppmlhjpdmndoaa
open Go.RowKit

theorem encN_mono (z : Nat) : ∀ y, y ≤ z → (encN y).length ≤ (encN z).length := by
  induction z using Nat.strongRecOn with
  | ind z ih =>
    intro y hy
    by_cases h : y < 128
    · rw [encN_small h]
      by_cases h2 : z < 128
      · rw [encN_small h2]; simp
      · rw [encN_big h2]; simp
    · rw [encN_big h, encN_big (z := z) (by omega)]
      have := ih (z / 128) (by omega) (y / 128) (by omega)
      simpa using this

theorem encN_pair (i : Nat) : (encN (2 * i + 1)).length = (encN (2 * i)).length := by
  by_cases h : 2 * i < 128
  · rw [encN_small h, encN_small (by omega)]; rfl
  · rw [encN_big h, encN_big (z := 2 * i + 1) (by omega), show (2 * i + 1) / 128 = 2 * i / 128 from by omega]; rfl

/-- The distance from -1/2, rounded down. -/
def far (n : Int) : Nat := (max n (-1 - n)).toNat
theorem enc_far (n : Int) : (enc n).length = (encN (2 * far n)).length := by
  unfold enc zig far
  by_cases h : n < 0
  · rw [if_pos h, show (2 * (-1 - n) + 1).toNat = 2 * (max n (-1 - n)).toNat + 1 from by omega, encN_pair]
  · rw [if_neg h, show (2 * n).toNat = 2 * (max n (-1 - n)).toNat from by omega]
theorem far_mono {m n : Int} (h : far m ≤ far n) : (enc m).length ≤ (enc n).length := by
  rw [enc_far, enc_far]; exact encN_mono _ _ (by omega)
theorem far_one (n : Int) : (enc n).length = 1 ↔ far n < 64 := by
  rw [enc_far]
  by_cases h : 2 * far n < 128
  · rw [encN_small h]; simp; omega
  · rw [encN_big h]
    have : 0 < (encN (2 * far n / 128)).length := by
      by_cases h2 : 2 * far n / 128 < 128
      · rw [encN_small h2]; simp
      · rw [encN_big h2]; simp
    simp only [List.length_cons]; omega
theorem far_neg (n : Int) : far (-1 - n) = far n := by unfold far; omega

theorem enc_prefix {m n : Int} (h1 : -9223372036854775808 ≤ m) (h2 : m ≤ 9223372036854775807) (h3 : -9223372036854775808 ≤ n) (h4 : n ≤ 9223372036854775807)
    (h : (enc m).take (min (enc m).length (enc n).length) = (enc n).take (min (enc m).length (enc n).length)) : m = n := by
  have key : ∀ x y : Int, -9223372036854775808 ≤ x → x ≤ 9223372036854775807 → -9223372036854775808 ≤ y → y ≤ 9223372036854775807 → (enc x).length ≤ (enc y).length → enc x = (enc y).take (enc x).length → x = y := by
    intro x y hx1 hx2 hy1 hy2 hl he
    have hx := getI_enc x [] hx1 hx2
    rw [List.append_nil] at hx
    rcases Nat.lt_or_ge (enc x).length (enc y).length with hlt | hge
    · have ht := getI_trunc y (enc x).length hy1 hy2 hlt
      rw [← he, hx] at ht
      simp at ht
    · have hy := getI_enc y [] hy1 hy2
      rw [List.append_nil] at hy
      rw [List.take_of_length_le hge] at he
      rw [he, hy] at hx
      simp at hx
      exact hx.symm
  rcases Nat.le_total (enc m).length (enc n).length with hl | hl
  · rw [Nat.min_eq_left hl, List.take_length] at h
    exact key m n h1 h2 h3 h4 hl h
  · rw [Nat.min_eq_right hl, List.take_length] at h
    exact (key n m h3 h4 h1 h2 hl h.symm).symm

theorem enc_test (m n : Int) (h1 : -9223372036854775808 ≤ m) (h2 : m ≤ 9223372036854775807) (h3 : -9223372036854775808 ≤ n) (h4 : n ≤ 9223372036854775807) :
    (((enc m).take (min (enc m).length (enc n).length) == (enc n).take (min (enc m).length (enc n).length)) == (m == n)) = true := by
  by_cases h : m = n
  · subst h; simp
  · have : ¬ (enc m).take (min (enc m).length (enc n).length) = (enc n).take (min (enc m).length (enc n).length) := fun e => h (enc_prefix h1 h2 h3 h4 e)
    rw [beq_eq_false_iff_ne.2 this, beq_eq_false_iff_ne.2 h]; rfl

/-- Behind a head whose order is forced: the rest only reads, so one walk in the order of the text. -/
theorem wpAny_rest {P : Program} {md : Region.Mode} {Q : Exit → Act → World → Prop} {opl l : List Oper} {k fuel : Nat} {listed : Array Bool} {a : Act} {w : World} (hf : opl.drop k = l)
    (hs : Region.noSelect opl.toArray = true) (hB : Region.lexFrom md opl.toArray l.length k listed = true) (hfu : l.length = fuel)
    (h : wpQuiet P opl.toArray (fun w' => w' = w) (fun a' => Q .normal a' w) l a) : wpAny P md opl.toArray Q fuel listed a w := by
  subst hfu
  refine wpAny_of_quiet (C := fun w' => w' = w) (Q := fun a' => Q .normal a' w) (fun a' w' hw h => by cases hw; exact h) _ _ _ _ rfl ?_
  refine wpAnyQ_lex hs l k listed a (fun j => ?_) hB h
  subst hf
  simp

set_option maxRecDepth 20000 in
set_option maxHeartbeats 2000000 in
theorem len_walk (m n : Int) (h1 : -9223372036854775808 ≤ m) (h2 : m ≤ 9223372036854775807) (h3 : -9223372036854775808 ≤ n) (h4 : n ≤ 9223372036854775807) (w : World) :
    Calls Try.prog 5 #[.int .i64 m, .int .i64 n] w fun e w' => e = .returned (.bool true) ∧ Below w.heap.size w w' := by
  have hT := Lib.hid (enc_test m n h1 h2 h3 h4)
  have hm := far_mono (m := m) (n := n)
  have hn := far_mono (m := n) (n := m)
  have ho := far_one m
  have hneg : (enc (-1 - m)).length = (enc m).length := by rw [enc_far, enc_far, far_neg]
  have Hneg := Lib.hid hneg
  clear hneg
  have l1 := enc_len m h1 h2
  have l2 := enc_len n h3 h4
  have f1 : (far m : Int) = max m (-1 - m) := by unfold far; omega
  have f2 : (far n : Int) = max n (-1 - n) := by unfold far; omega
  have F1 := Lib.hid f1
  have F2 := Lib.hid f2
  clear f1 f2
  have hM := Lib.hid hm
  have hN := Lib.hid hn
  have hO := Lib.hid ho
  clear hm hn ho
  go_enter Try.func5, Try.ntmps5
  go_upto_region 1 with fail
  go_cut [5, 6] from 10 to 13 (fun s5 s6 wx => ∃ a1 c1 a2 c2, s5 = .slice a1 (enc m).length c1 ∧ s6 = .slice a2 (enc n).length c2 ∧ Rd wx a1 (enc m).length c1 1 (byteVals (enc m)) ∧ Rd wx a2 (enc n).length c2 1 (byteVals (enc n)) ∧ Below w.heap.size w wx)
  case first =>
    go_wp2_with fail
    refine (int_v rfl h1 h2).mono ?_
    rintro e w1 ⟨a1, c1, rfl, R1, hb1⟩
    go_wp2_with fail
    refine (int_v rfl h3 h4).mono ?_
    rintro e w2 ⟨a2, c2, rfl, R2, hb2⟩
    go_wp2_with fail
    go_meet
    exact ⟨a1, c1, a2, c2, rfl, rfl, R1.call0 hb2, R2, hb1.call0 (Nat.le_refl _) hb2⟩
  case rest =>
    obtain ⟨a1, c1, a2, c2, rfl, rfl, R1, R2, B⟩ := hcut
    have S1 := R1.hcap
    have S2 := R2.hcap
    have T1 := R1.hmax
    have T2 := R2.hmax
    obtain ⟨i, hi⟩ : ∃ i : Int, i = max m (-1 - m) := ⟨_, rfl⟩
    obtain ⟨k, hk⟩ : ∃ k : Int, k = max n (-1 - n) := ⟨_, rfl⟩
    have Hi := Lib.hid hi
    have Hk := Lib.hid hk
    clear hi hk
    go_upto_region 2 with fail
    go_cut [7, 8] from 14 to 21 (fun s7 s8 wx => s7 = .int .i64 i ∧ s8 = .int .i64 k ∧ wx = wc)
    case first =>
      go_wp2_with fail
      all_goals
        go_meet
        refine ⟨congrArg _ ?_, congrArg _ ?_, rfl⟩
        · have := Hi.out; omega
        · have := Hk.out; omega
    case rest =>
      obtain ⟨rfl, rfl, rfl⟩ := hcut
      have Lm : i ≤ k → (enc m).length ≤ (enc n).length := fun h => hM.out (by have := F1.out; have := F2.out; have := Hi.out; have := Hk.out; omega)
      have Ln : k ≤ i → (enc n).length ≤ (enc m).length := fun h => hN.out (by have := F1.out; have := F2.out; have := Hi.out; have := Hk.out; omega)
      have Lo : (enc m).length = 1 ↔ i < 64 := hO.out.trans (by have := F1.out; have := Hi.out; omega)
      have HLm := Lib.hid Lm
      have HLn := Lib.hid Ln
      have HLo := Lib.hid Lo
      clear Lm Ln Lo F1 F2 hM hN hO Hi Hk
      go_upto_region 3 with fail
      go_cut [66] from 22 to 66 (fun s66 wx => s66 = .bool false ∧ wx = wc)
      case first =>
        obtain ⟨l11, l12⟩ := l1
        obtain ⟨l21, l22⟩ := l2
        have z1 : (((enc m).length : Int) == 0) = false := by simp; intro h; rw [h] at l12; simp at l12
        have z2 : (((enc n).length : Int) == 0) = false := by simp; intro h; rw [h] at l22; simp at l22
        by_cases g1 : i < 64
        all_goals
          have g2 := HLo.out
          simp only [g1, iff_true, iff_false] at g2
          have g3 : (((enc m).length : Int) == 1) = decide (i < 64) := by simp [g1]; omega
          rcases Int.lt_trichotomy i k with g4 | g4 | g4
          · have g5 := HLm.out (by omega)
            have g6 : ¬ k ≤ i := by omega
            have g7 : i ≤ k := by omega
            clear g2
            have G4 := Lib.hid g4
            clear g4
            go_wp2_with fail
            all_goals
              go_meet
              refine ⟨?_, rfl⟩
              first | rfl | (congr 1; simp; omega) | (congr 1; simp)
          · have g5 := HLm.out (by omega)
            have g6 := HLn.out (by omega)
            subst g4
            clear g2
            go_wp2_with fail
            all_goals
              go_meet
              refine ⟨?_, rfl⟩
              first | rfl | (congr 1; simp; omega) | (congr 1; simp)
          · have g5 := HLn.out (by omega)
            have g6 : ¬ i ≤ k := by omega
            have g7 : k ≤ i := by omega
            clear g2
            have G4 := Lib.hid g4
            clear g4
            go_wp2_with fail
            all_goals
              go_meet
              refine ⟨?_, rfl⟩
              first | rfl | (congr 1; simp; omega) | (congr 1; simp)
      case rest =>
        obtain ⟨rfl, rfl⟩ := hcut
        have L1 := Lib.hid l1
        have L2 := Lib.hid l2
        clear l1 l2
        go_upto_region 5 with fail
        go_cut [9] from 67 to 71 (fun s9 wx => s9 = .int .i64 ((min (enc m).length (enc n).length : Nat) : Int) ∧ wx = wc)
        case first =>
          go_wp2_with fail
          all_goals
            go_meet
            refine ⟨congrArg _ (by omega), rfl⟩
        case rest =>
          obtain ⟨rfl, rfl⟩ := hcut
          obtain ⟨p, hp⟩ : ∃ p : Nat, p = min (enc m).length (enc n).length := ⟨_, rfl⟩
          rw [← hp] at hT ⊢
          have P1 : p ≤ (enc m).length := by omega
          have P2 : p ≤ (enc n).length := by omega
          have HP := Lib.hid hp
          clear hp
          have Ra := R1.pre p P1
          have Rb := R2.pre p P2
          rw [show List.take p (byteVals (enc m)) = byteVals ((enc m).take p) from by simp [byteVals, List.map_take]] at Ra
          rw [show List.take p (byteVals (enc n)) = byteVals ((enc n).take p) from by simp [byteVals, List.map_take]] at Rb
          have W1 : -9223372036854775808 ≤ -1 - m := by omega
          have W2 : -1 - m ≤ 9223372036854775807 := by omega
          have Hw := Lib.hid (IntWalk.i64_in (-1 - m) ⟨W1, W2⟩)
          have P3 := Nat.le_trans P1 S1
          have P4 := Nat.le_trans P2 S2
          have Hb : Hid (∀ {w1 w2 : World}, Below wc.drew.heap.size wc.drew w1 → Below w1.heap.size w1 w2 → Below wc.heap.size wc w2) := fun hb1 hb2 => (((Below.refl wc.heap.size wc).drew).call0 (Nat.le_refl _) hb1).call0 (Nat.le_refl _) hb2
          have Hs : Hid (∀ {w1 w2 : World}, Below wc.drew.heap.size wc.drew w1 → Below w1.heap.size w1 w2 → (convert 28 9 (.slice a1 p c1)).run Try.prog w2 = .ok (.string ⟨((enc m).take p).toArray⟩) w2) := fun hb1 hb2 =>
            run_string_rd (P := Try.prog) (src := 28) (dst := 9) (e := 5) (by kernel_rfl) (by kernel_rfl) (by kernel_rfl) (Ra.call0 (Hb.out hb1 hb2))
          have Ht : Hid (∀ {w1 w2 : World}, Below wc.drew.heap.size wc.drew w1 → Below w1.heap.size w1 w2 → (convert 28 9 (.slice a2 p c2)).run Try.prog w2 = .ok (.string ⟨((enc n).take p).toArray⟩) w2) := fun hb1 hb2 =>
            run_string_rd (P := Try.prog) (src := 28) (dst := 9) (e := 5) (by kernel_rfl) (by kernel_rfl) (by kernel_rfl) (Rb.call0 (Hb.out hb1 hb2))
          clear Ra Rb R1 R2
          go_upto_region 6 with fail
          refine wp_region_any (by kernel_rfl) ?_
          (change wpAny _ _ _ _ _ _ _ (World.drew _))
          refine wpAny_ready (rs := [0]) (by kernel_rfl) (by simp) (AllReady.cons rfl (fun K hK => ?_) AllReady.nil)
          go_simp
          refine (sanity_any _).mono ?_
          rintro e w1 ⟨rfl, hb1⟩
          refine hK _ _ ?_
          clear hK K
          refine wpAny_take (i := 1) (v := ?_) rfl (by kernel_rfl) (by kernel_rfl) (by kernel_rfl) (fun _ _ _ h => h) (Or.inl ⟨by rfl, ?_⟩) ?_
          rotate_left
          · intro w
            go_simp
            all_goals with_reducible rfl
          refine wpAny_take (i := 2) (v := ?_) rfl (by kernel_rfl) (by kernel_rfl) (by kernel_rfl) (fun _ _ _ h => h) (Or.inl ⟨by rfl, ?_⟩) ?_
          rotate_left
          · intro w
            go_simp
            all_goals with_reducible rfl
          refine wpAny_take (i := 3) (v := ?_) rfl (by kernel_rfl) (by kernel_rfl) (by kernel_rfl) (fun _ _ _ h => h) (Or.inl ⟨by rfl, ?_⟩) ?_
          rotate_left
          · intro w
            go_simp
            all_goals with_reducible rfl
          refine wpAny_take (i := 6) (v := ?_) rfl (by kernel_rfl) (by kernel_rfl) (by kernel_rfl) (fun _ _ _ h => h) (Or.inl ⟨by rfl, ?_⟩) ?_
          rotate_left
          · intro w
            go_simp
            all_goals with_reducible rfl
          refine wpAny_take (i := 7) (v := ?_) rfl (by kernel_rfl) (by kernel_rfl) (by kernel_rfl) (fun _ _ _ h => h) (Or.inl ⟨by rfl, ?_⟩) ?_
          rotate_left
          · intro w
            go_simp
            all_goals with_reducible rfl
          refine wpAny_ready (rs := [4]) (by kernel_rfl) (by simp) (AllReady.cons rfl (fun K hK => ?_) AllReady.nil)
          go_simp
          rw [Hw.out]
          refine (int_v rfl W1 W2).mono ?_
          rintro e w2 ⟨a3, c3, rfl, R3, hb2⟩
          rw [Hneg.out]
          refine hK _ _ ?_
          clear hK K R3
          refine wpAny_take (i := 5) (v := ?_) rfl (by kernel_rfl) (by kernel_rfl) (by kernel_rfl) (fun _ _ _ h => h) (Or.inl ⟨by rfl, ?_⟩) ?_
          rotate_left
          · intro w
            go_simp
            all_goals with_reducible rfl
          have hs1 := Hs.out hb1 hb2
          have hs2 := Ht.out hb1 hb2
          refine wpAny_rest (k := 8) rfl (by kernel_rfl) (by kernel_rfl) rfl ?_
          simp only [List.drop_succ_cons, List.drop_zero]
          conv =>
            arg 6
            simp [go_sem]
          repeat (go_big_quiet_step (fail))
          refine wpQuiet_nil ?_
          clear hs1 hs2
          have BB := B.call0 (Nat.le_refl _) (Hb.out hb1 hb2)
          clear Hb Hs Ht hb1 hb2 B
          go_wp2_with fail
          go_ret
          refine ⟨?_, BB⟩
          exact congrArg (fun b => Ending.returned (Value.bool b)) hT.out
end Go.Proofs.Ytppmlhjpdmndoaa
