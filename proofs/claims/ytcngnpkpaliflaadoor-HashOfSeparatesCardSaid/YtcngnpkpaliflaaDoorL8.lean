/-
  The walk of HashOfSeparates: it returns true and keeps what was there. No condition.
-/
import Derived.Test.YtcngnpkpaliflaaDoorWInput
import Derived.Deep.CutBlock
import Derived.Deep.CutRange
namespace Go.Proofs.YtcngnpkpaliflaaDoor
open Go.RowKit

/-- The same tags, and the same parts so far. -/
def sameB (s t : Int) (l m : List (List UInt8)) (i : Nat) : Bool := decide (s = t ∧ l.length = m.length ∧ l.take i = m.take i)
theorem sameB_zero (s t : Int) (l m : List (List UInt8)) : sameB s t l m 0 = decide (s = t ∧ l.length = m.length) := by simp [sameB]
theorem sameB_succ (s t : Int) (l m : List (List UInt8)) (i : Nat) (hi : i < l.length) (h : sameB s t l m i = true) : sameB s t l m (i + 1) = decide (l.getD i [] = m.getD i []) := by
  have h' := of_decide_eq_true h
  obtain ⟨h1, h2, h3⟩ := h'
  unfold sameB
  rw [decide_eq_decide]
  have e1 : l.getD i [] = l[i] := by rw [List.getD_eq_getElem?_getD, List.getElem?_eq_getElem hi]; rfl
  have e2 : m.getD i [] = m[i]'(by omega) := by rw [List.getD_eq_getElem?_getD, List.getElem?_eq_getElem (by omega)]; rfl
  rw [e1, e2, List.take_succ_eq_append_getElem hi, List.take_succ_eq_append_getElem (show i < m.length by omega), h3]
  constructor
  · intro h; have := List.append_cancel_left h.2.2; simpa using this
  · intro h; exact ⟨h1, h2, by rw [h]⟩
theorem sameB_end (s t : Int) (l m : List (List UInt8)) (i : Nat) (h : i = l.length ∨ sameB s t l m i = false) : sameB s t l m i = decide (s = t ∧ l = m) := by
  unfold sameB at *
  rcases h with h | h
  · subst h
    rw [decide_eq_decide]
    constructor
    · rintro ⟨h1, h2, h3⟩
      exact ⟨h1, by rw [List.take_of_length_le (Nat.le_refl _), List.take_of_length_le (by omega)] at h3; exact h3⟩
    · rintro ⟨h1, h2⟩; exact ⟨h1, by rw [h2], by rw [h2]⟩
  · rw [h]
    symm
    have hn := of_decide_eq_false h
    exact decide_eq_false (fun ⟨h1, h2⟩ => hn ⟨h1, by rw [h2], by rw [h2]⟩)

theorem few_len {l : List (List UInt8)} (h : fewB l = true) : l.length ≤ 12 ∧ (l.map encB).flatten.length ≤ 10000 := by
  have h' : l.length ≤ 12 ∧ ∀ s ∈ l, s.length ≤ 400 := of_decide_eq_true h
  refine ⟨h'.1, ?_⟩
  have key : ∀ (m : List (List UInt8)), (∀ s ∈ m, s.length ≤ 400) → (m.map encB).flatten.length ≤ 410 * m.length := by
    intro m
    induction m with
    | nil => intro _; simp
    | cons x m ih =>
      intro h
      rw [List.map_cons, List.flatten_cons, List.length_append, List.length_cons]
      have h1 := h x (by simp)
      have h2 := ih (fun s hs => h s (by simp [hs]))
      have h3 := (enc_len (x.length : Int) (by omega) (by omega)).1
      have h4 : (encB x).length = (enc (x.length : Int)).length + x.length := by unfold encB; rw [List.length_append]
      omega
  have := key l h'.2
  omega

theorem eg58 : Tryd.prog.eqGuardType Tryd.prog.depth 58 = false := by kernel_rfl
theorem ar58 : Tryd.prog.underlying 58 = some (.array 16 5) := by kernel_rfl
theorem digest_length (m : List UInt8) : (digest m).length = 16 := by rw [digest, List.length_take, sha_length]; rfl

/-- The first i bytes of the hashes are the same. -/
def clashB (x y : List UInt8) (i : Nat) : Bool := decide ((sha x).take i = (sha y).take i)
theorem clashB_succ (x y : List UInt8) (i : Nat) (hi : i < 16) : clashB x y (i + 1) = (clashB x y i && decide ((sha x).getD i 0 = (sha y).getD i 0)) := by
  unfold clashB
  have l1 := sha_length x
  have l2 := sha_length y
  rw [List.take_succ_eq_append_getElem (by omega), List.take_succ_eq_append_getElem (by omega), ← Bool.decide_and, decide_eq_decide]
  have e1 : (sha x).getD i 0 = (sha x)[i]'(by omega) := by rw [List.getD_eq_getElem?_getD, List.getElem?_eq_getElem (by omega)]; rfl
  have e2 : (sha y).getD i 0 = (sha y)[i]'(by omega) := by rw [List.getD_eq_getElem?_getD, List.getElem?_eq_getElem (by omega)]; rfl
  rw [e1, e2]
  constructor
  · intro h
    obtain ⟨h1, h2⟩ := List.append_inj h (by simp; omega)
    exact ⟨h1, by simpa using h2⟩
  · rintro ⟨h1, h2⟩; rw [h1, h2]
theorem clashB_end (x y : List UInt8) : clashB x y 16 = (digest x == digest y) := by
  unfold clashB digest
  rw [Bool.eq_iff_iff]; simp

theorem u8_beq (x y : UInt8) : ((x.toNat : Int) == (y.toNat : Int)) = decide (x = y) := by
  rw [Bool.eq_iff_iff]
  simp only [beq_iff_eq, decide_eq_true_eq]
  constructor
  · intro h; exact UInt8.toNat_inj.1 (by omega)
  · intro h; rw [h]

set_option maxRecDepth 20000 in
set_option maxHeartbeats 40000000 in
theorem separates_walk (s t : Int) (hs0 : 0 ≤ s) (hs : s < 256) (ht0 : 0 ≤ t) (ht : t < 256) (a1 a2 : Option Addr) (n1 n2 c1 c2 : Nat) (l m : List (List UInt8)) (w : World) (r1 : Rd w a1 n1 c1 1 (bstrVals l)) (r2 : Rd w a2 n2 c2 1 (bstrVals m))
    (hl : ∀ s ∈ l, s.length ≤ 9223372036854775807) (hm : ∀ s ∈ m, s.length ≤ 9223372036854775807) (hM : Mem w) :
    Calls Tryd.prog 14 #[.agg #[.int .u8 s, .int .u8 t], .slice a1 n1 c1, .slice a2 n2 c2] w (RetBool true w) := by
  have m1 := r1.lenMax
  have m2 := r2.lenMax
  have L1 := Box.mk (show l.length = n1 from by have h := r1.hlen; rw [bstrVals_length] at h; omega)
  have L2 := Box.mk (show m.length = n2 from by have h := r2.hlen; rw [bstrVals_length] at h; omega)
  have f1 := fun (w : World) (h : Rd w a1 n1 c1 1 (bstrVals l)) => few_any l a1 n1 c1 w h (Lib.hid hl)
  have f2 := fun (w : World) (h : Rd w a2 n2 c2 1 (bstrVals m)) => few_any m a2 n2 c2 w h (Lib.hid hm)
  clear hl hm
  have b3 := Blk.new (w := w) (ty := 62) (cs := [.int .u8 s, .int .u8 t]) (k := w.heap.size) rfl rfl
  have B0 := (Below.refl w.heap.size w).alloc (Nat.le_refl _) (.cells #[.int .u8 s, .int .u8 t] 62)
  have M0 := hM.alloc (.cells #[.int .u8 s, .int .u8 t] 62)
  have R1 := Box.mk (r1.alloc (.cells #[.int .u8 s, .int .u8 t] 62)); have R2 := Box.mk (r2.alloc (.cells #[.int .u8 s, .int .u8 t] 62))
  clear r1 r2
  cases hf1 : fewB l
  · rw [hf1] at f1
    go_enter Tryd.func14, Tryd.ntmps14
    go_wp2_with fail
    refine (sanity_any _ M0).mono ?_
    rintro e w1 ⟨rfl, hb1⟩
    have B1 := B0.call0 (Nat.le_refl _) hb1
    go_wp2_with fail
    refine (f1 w1 (R1.out.call0 hb1)).mono ?_
    rintro e wq ⟨rfl, rfl⟩
    go_wp2_with fail
    go_ret
    exact ⟨rfl, B1⟩
  · cases hf2 : fewB m
    · rw [hf1] at f1
      rw [hf2] at f2
      go_enter Tryd.func14, Tryd.ntmps14
      go_wp2_with fail
      refine (sanity_any _ M0).mono ?_
      rintro e w1 ⟨rfl, hb1⟩
      have B1 := B0.call0 (Nat.le_refl _) hb1
      go_wp2_with fail
      refine (f1 w1 (R1.out.call0 hb1)).mono ?_
      rintro e wq ⟨rfl, rfl⟩
      go_wp2_with fail
      refine (f2 w1 (R2.out.call0 hb1)).mono ?_
      rintro e wq ⟨rfl, rfl⟩
      go_wp2_with fail
      go_ret
      exact ⟨rfl, B1⟩
    · obtain ⟨h12, hle1⟩ := few_len hf1
      obtain ⟨k12, hle2⟩ := few_len hf2
      rw [hf1] at f1
      rw [hf2] at f2
      have hn1 : n1 ≤ 12 := by rw [← L1.out]; exact h12
      have hn2 : n2 ≤ 12 := by rw [← L2.out]; exact k12
      clear hf1 hf2 h12 k12
      have hst : ((s == t) = true ∧ ((n1 : Int) == (n2 : Int)) = true ∧ sameB s t l m 0 = true) ∨ ((s == t) = true ∧ ((n1 : Int) == (n2 : Int)) = false ∧ sameB s t l m 0 = false) ∨ ((s == t) = false ∧ sameB s t l m 0 = false) := by
        rw [sameB_zero, L1.out, L2.out]
        by_cases h1 : s = t
        · by_cases h2 : n1 = n2
          · left; simp [h1, h2]
          · right; left; refine ⟨by simp [h1], by simp; omega, by simp [h1, h2]⟩
        · right; right; simp [h1]
      go_enter Tryd.func14, Tryd.ntmps14
      go_wp2_with fail
      refine (sanity_any _ M0).mono ?_
      rintro e w1 ⟨rfl, hb1⟩
      have M1 := M0.call0 hb1
      have B1 := B0.call0 (Nat.le_refl _) hb1
      have b31 := b3.call0 hb1
      have S1 := Box.mk (R1.out.call0 hb1); have S2 := Box.mk (R2.out.call0 hb1)
      have k0 := b31.cellOf (i := 0) rfl
      have k1 := b31.cellOf (i := 1) rfl
      clear hb1 M0 B0 b3 R1 R2
      go_wp2_with fail
      refine (f1 w1 S1.out).mono ?_
      rintro e wq ⟨rfl, rfl⟩
      go_wp2_with fail
      refine (f2 w1 S2.out).mono ?_
      rintro e wq ⟨rfl, rfl⟩
      clear f1 f2
      go_upto_region 4 with fail
      go_cut [8] from 28 to 39 (fun s8 wx => s8 = .bool (sameB s t l m 0) ∧ w1 = wx)
      case first =>
        rcases hst with ⟨e1, e2, e3⟩ | ⟨e1, e2, e3⟩ | ⟨e1, e3⟩
        all_goals
          go_wp2_with fail
          go_meet
          exact ⟨by rw [e3], rfl⟩
      case rest =>
        obtain ⟨rfl, rfl⟩ := hcut
        clear hst
        go_upto_block 0 with fail
        go_cut [8, 9] from 40 to 57 (fun s8 s9 wx => s8 = .bool (decide (s = t ∧ l = m)) ∧ Below w1.heap.size w1 wx)
        case first =>
          go_wp2_with fail
          go_loopw [8, 9] (fun v i wr => ∃ k : Nat, k ≤ n1 ∧ i = .int .i64 k ∧ v = .bool (sameB s t l m k) ∧ Below w1.heap.size w1 wr)
            (fun _ i _ => n1 - (intOf i).toNat)
          case atStart => exact ⟨0, Nat.zero_le _, rfl, rfl, Below.refl _ _⟩
          case round =>
            obtain ⟨k, hk, rfl, rfl, B⟩ := hrel
            cases hsb : sameB s t l m k
            · have hE0 := sameB_end s t l m k (.inr hsb)
              rw [hsb] at hE0
              have hE := Box.mk hE0; clear hE0
              by_cases hlt0 : k < n1
              all_goals
                go_wp2_with fail
                go_meet
                exact ⟨by rw [← hE.out], B⟩
            · by_cases hlt : k < n1
              · have hn12 : n1 = n2 := by have h := (of_decide_eq_true hsb).2.1; rw [L1.out, L2.out] at h; exact h
                obtain ⟨g1, o1, rfl, hc1⟩ := (S1.out.below B (Nat.le_refl _)).strAt k (by rw [L1.out]; exact hlt)
                obtain ⟨g2, o2, rfl, hc2⟩ := (S2.out.below B (Nat.le_refl _)).strAt k (by rw [L2.out]; omega)
                have hsu := Box.mk (sameB_succ s t l m k (by rw [L1.out]; exact hlt) hsb)
                have hx1 : l.getD k [] = l[k]'(by rw [L1.out]; exact hlt) := by rw [List.getD_eq_getElem?_getD, List.getElem?_eq_getElem (by rw [L1.out]; exact hlt)]; rfl
                have hx2 : m.getD k [] = m[k]'(by rw [L2.out]; omega) := by rw [List.getD_eq_getElem?_getD, List.getElem?_eq_getElem (by rw [L2.out]; omega)]; rfl
                rw [← hx1] at hc1; rw [← hx2] at hc2
                clear hx1 hx2
                generalize l.getD k [] = x at *
                generalize m.getD k [] = y at *
                have hb1 : (k : Int) < (n1 : Int) := by omega
                have hb2 : (k : Int) < (n2 : Int) := by omega
                go_wp2_with fail
                go_quiet (fail)
                go_wp2_with fail
                go_roundw
                case rel => exact ⟨k + 1, by omega, by go_num, by rw [hsu.out]; congr 1; rw [Bool.eq_iff_iff]; simp, below_drewN B nq⟩
                case measure => simp [intOf]; omega
              · have hkn : k = n1 := by omega
                have hE0 := sameB_end s t l m k (.inl (by rw [L1.out]; exact hkn))
                rw [hsb] at hE0
                have hE := Box.mk hE0; clear hE0
                go_wp2_with fail
                go_meet
                exact ⟨by rw [← hE.out], B⟩
        case rest =>
          obtain ⟨rfl, B⟩ := hcut
          cases hdec : decide (s = t ∧ l = m)
          · have hne : ¬ (s = t ∧ l = m) := of_decide_eq_false hdec
            have hXY : inputOf s l ≠ inputOf t m := fun h => hne (input_inj hs0 hs ht0 ht l m h)
            have BB := B1.call0 (Nat.le_refl _) B
            have z3 := b31.call0 B
            have T1 := Box.mk (S1.out.call0 B); have T2 := Box.mk (S2.out.call0 B)
            have d0 := z3.cellOf (i := 0) rfl
            clear B hne
            have i1 := fun (w : World) (h : Rd w a1 n1 c1 1 (bstrVals l)) => refInput_any s l a1 n1 c1 w h (by omega)
            have i2 := fun (w : World) (h : Rd w a2 n2 c2 1 (bstrVals m)) => refInput_any t m a2 n2 c2 w h (by omega)
            have of1 := fun (w : World) (h : Rd w a1 n1 c1 1 (bstrVals l)) (hM : Mem w) => of_any s l a1 n1 c1 w h (by omega) hM.kons hM.big
            have of2 := fun (w : World) (h : Rd w a2 n2 c2 1 (bstrVals m)) (hM : Mem w) => of_any t m a2 n2 c2 w h (by omega) hM.kons hM.big
            have lx : (inputOf s l).length ≤ 10001 := by unfold inputOf; rw [List.length_cons]; omega
            have ly : (inputOf t m).length ≤ 10001 := by unfold inputOf; rw [List.length_cons]; omega
            generalize inputOf s l = X at *
            generalize inputOf t m = Y at *
            go_wp2_with fail
            refine (i1 _ T1.out).mono ?_
            intro e w2 hret
            obtain ⟨ax, cx, rfl, RX, hb2⟩ := hret.got
            have B2 := BB.call0 (Nat.le_refl _) hb2
            have z4 := z3.call0 hb2
            have U1 := Box.mk (T1.out.call0 hb2); have U2 := Box.mk (T2.out.call0 hb2); have UX := Box.mk RX
            have d1 := z4.cellOf (i := 1) rfl
            clear BB z3 T1 T2 RX hb2 hret d0 i1
            go_wp2_with fail
            refine (i2 _ U2.out).mono ?_
            intro e w3 hret
            obtain ⟨ay, cy, rfl, RY, hb3⟩ := hret.got
            have B3 := B2.call0 (Nat.le_refl _) hb3
            have z5 := z4.call0 hb3
            have V1 := Box.mk (U1.out.call0 hb3); have V2 := Box.mk (U2.out.call0 hb3); have VX := Box.mk (UX.out.call0 hb3); have VY := Box.mk RY
            have e0 := z5.cellOf (i := 0) rfl
            clear B2 z4 U1 U2 UX RY hb3 hret d1 i2
            go_wp2_with fail
            refine (of1 _ V1.out (hM.call0 B3)).mono ?_
            rintro e w4 ⟨rfl, hb4⟩
            have hdl1 := Box.mk (show (byteVals (digest X)).length = 16 from by rw [byteVals_length, digest_length])
            have ho1 := Box.mk (byteVals_one (digest X))
            have B4 := (B3.call0 (Nat.le_refl _) hb4).new (Nat.le_refl _) (.cells (byteVals (digest X)).toArray 58)
            have z6 := (z5.call0 hb4).alloc (.cells (byteVals (digest X)).toArray 58)
            have bD := Blk.new (w := w4) (ty := 58) (cs := byteVals (digest X)) (k := w4.heap.size) rfl rfl
            have W2 := Box.mk ((V2.out.call0 hb4).alloc (.cells (byteVals (digest X)).toArray 58)); have WX := Box.mk ((VX.out.call0 hb4).alloc (.cells (byteVals (digest X)).toArray 58)); have WY := Box.mk ((VY.out.call0 hb4).alloc (.cells (byteVals (digest X)).toArray 58))
            have e1 := z6.cellOf (i := 1) rfl
            clear B3 z5 V1 V2 VX VY hb4 e0 of1
            go_wp2_with (first
              | ((with_reducible show wpList _ _ _ _ _ _); refine wpList_alloc (o := ⟨some 12, .alloc 58, _, _, _, _⟩) rfl 58 rfl zero58 (zc := zero16.toArray) rfl ?_)
              | ((with_reducible show wpList _ _ _ _ _ _); refine wpList_store_fresh (o := ⟨none, .store 58 (.tmp 12) (.tmp 81), _, _, _, _⟩) (cs := byteVals (digest X)) rfl 58 _ _ rfl rfl agg58.info rfl rfl rfl hdl1.out ho1.out ?_; generalize w4.alloc (.cells (byteVals (digest X)).toArray 58) = w5 at *))
            generalize w4.heap.size = gD at *
            refine (of2 _ W2.out (hM.call0 B4)).mono ?_
            rintro e w6 ⟨rfl, hb6⟩
            have hdl2 := Box.mk (show (byteVals (digest Y)).length = 16 from by rw [byteVals_length, digest_length])
            have ho2 := Box.mk (byteVals_one (digest Y))
            have B6 := (B4.call0 (Nat.le_refl _) hb6).new (Nat.le_refl _) (.cells (byteVals (digest Y)).toArray 58)
            have bD6 := (bD.call0 hb6).alloc (.cells (byteVals (digest Y)).toArray 58)
            have bE := Blk.new (w := w6) (ty := 58) (cs := byteVals (digest Y)) (k := w6.heap.size) rfl rfl
            have XX := Box.mk ((WX.out.call0 hb6).alloc (.cells (byteVals (digest Y)).toArray 58)); have XY := Box.mk ((WY.out.call0 hb6).alloc (.cells (byteVals (digest Y)).toArray 58))
            clear B4 z6 W2 WX WY hb6 e1 of2 bD
            go_wp2_with (first
              | ((with_reducible show wpList _ _ _ _ _ _); refine wpList_alloc (o := ⟨some 13, .alloc 58, _, _, _, _⟩) rfl 58 rfl zero58 (zc := zero16.toArray) rfl ?_)
              | ((with_reducible show wpList _ _ _ _ _ _); refine wpList_store_fresh (o := ⟨none, .store 58 (.tmp 13) (.tmp 86), _, _, _, _⟩) (cs := byteVals (digest Y)) rfl 58 _ _ rfl rfl agg58.info rfl rfl rfl hdl2.out ho2.out ?_; generalize w6.alloc (.cells (byteVals (digest Y)).toArray 58) = w7 at *))
            generalize w6.heap.size = gE at *
            refine (sum_any X ax X.length cx w7 XX.out (by omega) (hM.call0 B6).kons (hM.call0 B6).big).mono ?_
            rintro e w8 ⟨rfl, hb8⟩
            have hsl1 := Box.mk (show (byteVals (sha X)).length = 32 from by rw [byteVals_length, sha_length])
            have ho3 := Box.mk (byteVals_one (sha X))
            have B8 := (B6.call0 (Nat.le_refl _) hb8).new (Nat.le_refl _) (.cells (byteVals (sha X)).toArray 47)
            have bD8 := (bD6.call0 hb8).alloc (.cells (byteVals (sha X)).toArray 47)
            have bE8 := (bE.call0 hb8).alloc (.cells (byteVals (sha X)).toArray 47)
            have bG := Blk.new (w := w8) (ty := 47) (cs := byteVals (sha X)) (k := w8.heap.size) rfl rfl
            have YX := Box.mk ((XX.out.call0 hb8).alloc (.cells (byteVals (sha X)).toArray 47)); have YY := Box.mk ((XY.out.call0 hb8).alloc (.cells (byteVals (sha X)).toArray 47))
            clear B6 bD6 bE XX XY hb8
            go_wp2_with (first
              | ((with_reducible show wpList _ _ _ _ _ _); refine wpList_alloc (o := ⟨some 14, .alloc 47, _, _, _, _⟩) rfl 47 rfl zero47 (zc := zero32.toArray) rfl ?_)
              | ((with_reducible show wpList _ _ _ _ _ _); refine wpList_store_fresh (o := ⟨none, .store 47 (.tmp 14) (.tmp 88), _, _, _, _⟩) (cs := byteVals (sha X)) rfl 47 _ _ rfl rfl agg47.info rfl rfl rfl hsl1.out ho3.out ?_; generalize w8.alloc (.cells (byteVals (sha X)).toArray 47) = w9 at *))
            generalize w8.heap.size = gG at *
            refine (sum_any Y ay Y.length cy w9 YY.out (by omega) (hM.call0 B8).kons (hM.call0 B8).big).mono ?_
            rintro e w10 ⟨rfl, hb10⟩
            have hsl2 := Box.mk (show (byteVals (sha Y)).length = 32 from by rw [byteVals_length, sha_length])
            have ho4 := Box.mk (byteVals_one (sha Y))
            have B10 := (B8.call0 (Nat.le_refl _) hb10).new (Nat.le_refl _) (.cells (byteVals (sha Y)).toArray 47)
            have bD10 := (bD8.call0 hb10).alloc (.cells (byteVals (sha Y)).toArray 47)
            have bE10 := (bE8.call0 hb10).alloc (.cells (byteVals (sha Y)).toArray 47)
            have bG10 := (bG.call0 hb10).alloc (.cells (byteVals (sha Y)).toArray 47)
            have bH := Blk.new (w := w10) (ty := 47) (cs := byteVals (sha Y)) (k := w10.heap.size) rfl rfl
            have ZX := Box.mk ((YX.out.call0 hb10).alloc (.cells (byteVals (sha Y)).toArray 47)); have ZY := Box.mk ((YY.out.call0 hb10).alloc (.cells (byteVals (sha Y)).toArray 47))
            clear B8 bD8 bE8 bG YX YY hb10
            go_wp2_with (first
              | ((with_reducible show wpList _ _ _ _ _ _); refine wpList_alloc (o := ⟨some 15, .alloc 47, _, _, _, _⟩) rfl 47 rfl zero47 (zc := zero32.toArray) rfl ?_)
              | ((with_reducible show wpList _ _ _ _ _ _); refine wpList_store_fresh (o := ⟨none, .store 47 (.tmp 15) (.tmp 90), _, _, _, _⟩) (cs := byteVals (sha Y)) rfl 47 _ _ rfl rfl agg47.info rfl rfl rfl hsl2.out ho4.out ?_; generalize w10.alloc (.cells (byteVals (sha Y)).toArray 47) = w11 at *))
            generalize w10.heap.size = gH at *
            go_loopw [16, 17] (fun v i wr => ∃ j : Nat, j ≤ 16 ∧ i = .int .i64 j ∧ v = .bool (clashB X Y j) ∧ Blk wr gD 58 (byteVals (digest X)) ∧ Blk wr gE 58 (byteVals (digest Y)) ∧ Blk wr gG 47 (byteVals (sha X)) ∧ Blk wr gH 47 (byteVals (sha Y)) ∧ Below w11.heap.size w11 wr)
              (fun _ i _ => 16 - (intOf i).toNat)
            case atStart => exact ⟨0, by omega, rfl, rfl, bD10, bE10, bG10, bH, Below.refl _ _⟩
            case round =>
              clear bD10 bE10 bG10 bH
              obtain ⟨j, hj, rfl, rfl, bD, bE, bG, bH, BL⟩ := hrel
              by_cases hlt : j < 16
              · have hcs := Box.mk (clashB_succ X Y j hlt)
                have hcg := bG.cellOf (i := j) (v := .int .u8 (((sha X).getD j 0).toNat : Int)) (by rw [byteVals, List.getElem?_map, List.getElem?_eq_getElem (by rw [sha_length]; omega)]; simp [List.getD, List.getElem?_eq_getElem (show j < (sha X).length by rw [sha_length]; omega)])
                have hch := bH.cellOf (i := j) (v := .int .u8 (((sha Y).getD j 0).toNat : Int)) (by rw [byteVals, List.getElem?_map, List.getElem?_eq_getElem (by rw [sha_length]; omega)]; simp [List.getD, List.getElem?_eq_getElem (show j < (sha Y).length by rw [sha_length]; omega)])
                have heq : (((sha X).getD j 0).toNat = ((sha Y).getD j 0).toNat) ↔ ((sha X).getD j 0 = (sha Y).getD j 0) := UInt8.toNat_inj
                have HEQ := Box.mk heq; clear heq
                generalize (sha X).getD j 0 = x at *
                generalize (sha Y).getD j 0 = y at *
                have hj32 : (j : Int) < 32 := by omega
                cases hcl : clashB X Y j
                all_goals
                  rw [hcl] at hcs
                  go_wp2_with fail
                  go_quiet (fail)
                  go_wp2_with fail
                  go_roundw
                  case rel => exact ⟨j + 1, by omega, by go_num, by rw [hcs.out]; first | rfl | rw [Bool.true_and, ← u8_beq], bD.drewN nq, bE.drewN nq, bG.drewN nq, bH.drewN nq, below_drewN BL nq⟩
                  case measure => simp [intOf]; omega
              · have hj16 : j = 16 := by omega
                subst hj16
                have hce := clashB_end X Y
                rw [hce]
                clear hce
                have st1 := run_string_rd (P := Tryd.prog) (src := 22) (dst := 9) (e := 5) (by kernel_rfl) (by kernel_rfl) (by kernel_rfl) (ZX.out.call0 BL)
                have st2 := run_string_rd (P := Tryd.prog) (src := 22) (dst := 9) (e := 5) (by kernel_rfl) (by kernel_rfl) (by kernel_rfl) (ZY.out.call0 BL)
                have hxy : (X == Y) = false := by simpa using hXY
                have B12 := B10.call0 (Nat.le_refl _) BL
                cases hdd : (digest X == digest Y)
                all_goals
                  go_wp2_with (first
                    | ((with_reducible show wpList _ _ _ _ _ _); refine wpList_load_agg (o := ⟨some 114, _, _, _, _, _⟩) rfl 58 _ rfl agg58 rfl (cs := byteVals (digest X)) hdl1.out bD.agg ?_)
                    | ((with_reducible show wpList _ _ _ _ _ _); refine wpList_load_agg (o := ⟨some 115, _, _, _, _, _⟩) rfl 58 _ rfl agg58 rfl (cs := byteVals (digest Y)) hdl2.out bE.agg ?_)
                    | ((with_reducible show wpList _ _ _ _ _ _); refine wpList_val (o := ⟨some 116, _, _, _, _, _⟩) rfl (run_eql_bytes ar58 u5' sz5 eg58 (xs := digest X) (ys := digest Y) (digest_length _) (digest_length _) (.tmp 114) (.tmp 115) 58 rfl rfl rfl _) ?_; rw [hdd]))
                  go_ret
                  exact ⟨rfl, B12⟩
          · obtain ⟨rfl, rfl⟩ := of_decide_eq_true hdec
            have BB := B1.call0 (Nat.le_refl _) B
            have z3 := b31.call0 B
            have T1 := Box.mk (S1.out.call0 B); have T2 := Box.mk (S2.out.call0 B)
            have d0 := z3.cellOf (i := 0) rfl
            clear B
            have lx : (inputOf s l).length ≤ 10001 := by unfold inputOf; rw [List.length_cons]; omega
            have i1 := fun (w : World) (h : Rd w a1 n1 c1 1 (bstrVals l)) => refInput_any s l a1 n1 c1 w h (by omega)
            have i2 := fun (w : World) (h : Rd w a2 n2 c2 1 (bstrVals l)) => refInput_any s l a2 n2 c2 w h (by omega)
            generalize inputOf s l = X at *
            go_wp2_with fail
            refine (i1 _ T1.out).mono ?_
            intro e w2 hret
            obtain ⟨ax, cx, rfl, RX, hb2⟩ := hret.got
            have B2 := BB.call0 (Nat.le_refl _) hb2
            have z4 := z3.call0 hb2
            have U2 := Box.mk (T2.out.call0 hb2); have UX := Box.mk RX
            have d1 := z4.cellOf (i := 1) rfl
            clear BB z3 T1 T2 RX hb2 hret d0
            go_wp2_with fail
            refine (i2 _ U2.out).mono ?_
            intro e w3 hret
            obtain ⟨ay, cy, rfl, RY, hb3⟩ := hret.got
            have B3 := B2.call0 (Nat.le_refl _) hb3
            have st1 := run_string_rd (P := Tryd.prog) (src := 22) (dst := 9) (e := 5) (by kernel_rfl) (by kernel_rfl) (by kernel_rfl) (UX.out.call0 hb3)
            have st2 := run_string_rd (P := Tryd.prog) (src := 22) (dst := 9) (e := 5) (by kernel_rfl) (by kernel_rfl) (by kernel_rfl) RY
            clear B2 z4 U2 UX RY hb3 hret d1
            go_wp2_with fail
            go_ret
            exact ⟨rfl, B3⟩
end Go.Proofs.YtcngnpkpaliflaaDoor
