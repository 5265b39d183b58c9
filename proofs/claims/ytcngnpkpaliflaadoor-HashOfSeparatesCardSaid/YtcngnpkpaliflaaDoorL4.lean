/-
  The walks of HashCrcJoins and HashCrcLinear: each returns true and keeps what was there. No condition.
-/
import Derived.Test.YtcngnpkpaliflaaDoorL3
namespace Go.Proofs.YtcngnpkpaliflaaDoor
open Go.RowKit

set_option maxRecDepth 20000 in
set_option maxHeartbeats 2000000 in
theorem joins_walk (a1 a2 a3 : Option Addr) (n1 n2 n3 c1 c2 c3 : Nat) (l1 l2 l3 : List UInt8) (w : World) (r1 : Rd w a1 n1 c1 1 (byteVals l1)) (r2 : Rd w a2 n2 c2 1 (byteVals l2)) (r3 : Rd w a3 n3 c3 1 (byteVals l3)) (hM : Mem w) :
    Calls Tryd.prog 7 #[.slice a1 n1 c1, .slice a2 n2 c2, .slice a3 n3 c3] w (RetBool true w) := by
  have m1 := r1.lenMax
  have m2 := r2.lenMax
  have m3 := r3.lenMax
  by_cases h1 : n1 ≤ 400
  · by_cases h2 : n2 ≤ 400
    · by_cases h3 : n3 ≤ 400
      · have H1 := Box.mk r1.blen
        have H2 := Box.mk r2.blen
        have H3 := Box.mk r3.blen
        have j12 := fun (w : World) (hT : Tabs w) => join_any (crc l1 : Int) (crc l2 : Int) n2 (by omega) w hT
        have j23 := fun (w : World) (hT : Tabs w) => join_any (crc l2 : Int) (crc l3 : Int) n3 (by omega) w hT
        have j123 := fun (w : World) (hT : Tabs w) => join_any (crc (l1 ++ l2) : Int) (crc l3 : Int) n3 (by omega) w hT
        have k123 := fun (w : World) (hT : Tabs w) => join_any (crc l1 : Int) (crc (l2 ++ l3) : Int) (n2 + n3) (by omega) w hT
        have e12 : join (crc l1) (crc l2) n2 = crc (l1 ++ l2) := by rw [crc_append, H2.out]
        have e23 : join (crc l2) (crc l3) n3 = crc (l2 ++ l3) := by rw [crc_append, H3.out]
        have e123 : join (crc (l1 ++ l2)) (crc l3) n3 = crc (l1 ++ l2 ++ l3) := by rw [crc_append (l1 ++ l2), H3.out]
        have f123 : join (crc l1) (crc (l2 ++ l3)) (n2 + n3) = crc (l1 ++ l2 ++ l3) := by rw [List.append_assoc, crc_append l1, List.length_append, H2.out, H3.out]
        rw [e12] at j12; rw [e23] at j23; rw [e123] at j123; rw [f123] at k123
        have q1 := fun (w : World) (h : Rd w a1 n1 c1 1 (byteVals l1)) (hT : Tabs w) => crc40_any l1 a1 n1 c1 w h (by omega) hT
        have q2 := fun (w : World) (h : Rd w a2 n2 c2 1 (byteVals l2)) (hT : Tabs w) => crc40_any l2 a2 n2 c2 w h (by omega) hT
        have q3 := fun (w : World) (h : Rd w a3 n3 c3 1 (byteVals l3)) (hT : Tabs w) => crc40_any l3 a3 n3 c3 w h (by omega) hT
        have q4 := fun (w : World) (a : Option Addr) (c : Nat) (h : Rd w a (n1 + n2 + n3) c 1 (byteVals (l1 ++ l2 ++ l3))) (hT : Tabs w) => crc40_any (l1 ++ l2 ++ l3) a (n1 + n2 + n3) c w h (by omega) hT
        rw [Int.natCast_add] at k123
        clear e12 e23 e123 f123
        have HB := Box.mk (byteVals_append (l1 ++ l2) l3)
        have HB2 := Box.mk (byteVals_append l1 l2)
        generalize crc (l1 ++ l2 ++ l3) = x123 at *
        generalize crc (l1 ++ l2) = x12 at *
        generalize crc (l2 ++ l3) = x23 at *
        generalize crc l1 = x1 at *
        generalize crc l2 = x2 at *
        generalize crc l3 = x3 at *
        have R1 := Box.mk r1; have R2 := Box.mk r2; have R3 := Box.mk r3
        clear r1 r2 r3
        go_enter Tryd.func7, Tryd.ntmps7
        go_wp2_with fail
        refine (sanity_any w hM).mono ?_
        rintro e w1 ⟨rfl, hb1⟩
        have M1 := hM.call0 hb1
        have s1 := Box.mk (R1.out.call0 hb1); have s2 := Box.mk (R2.out.call0 hb1); have s3 := Box.mk (R3.out.call0 hb1)
        clear R1 R2 R3
        go_wp2_with (first
          | ((with_reducible show wpList _ _ _ _ _ _); refine wpList_append_src (o := ⟨some 31, _, _, _, _, _⟩) rfl (.tmp 29) (.tmp 30) 22 22 rfl sl22 (.inl sl22.ht) rfl (World.ownsRow_nil w1 w1.heap.size 5 1) rfl (Src.ofRd s1.out (byteVals_one _)) (by omega) (by unfold maxLen; omega) (Nat.le_refl _) ?_; intro b1 d1 w2 hown2 hgr2 _; have B2 := below_grown (Below.refl w1.heap.size w1) hgr2 (World.ownsRow_nil w1 w1.heap.size 5 1) (Nat.le_refl _) (Nat.le_refl _); clear hgr2; rw [Nat.zero_add, List.nil_append] at hown2)
          | ((with_reducible show wpList _ _ _ _ _ _); refine wpList_append_src (o := ⟨some 34, _, _, _, _, _⟩) rfl (.tmp 32) (.tmp 33) 22 22 rfl sl22 (.inl sl22.ht) rfl hown2 rfl (Src.ofRd (s2.out.below B2 (Nat.le_refl _)) (byteVals_one _)) (by omega) (by unfold maxLen; omega) B2.size ?_; intro b3 d3 w3 hown3 hgr3 _; have B3 := below_grown B2 hgr3 hown2 (Nat.le_refl _) B2.size; clear hgr3 hown2 B2; rw [← HB2.out] at hown3)
          | ((with_reducible show wpList _ _ _ _ _ _); refine wpList_append_src (o := ⟨some 37, _, _, _, _, _⟩) rfl (.tmp 35) (.tmp 36) 22 22 rfl sl22 (.inl sl22.ht) rfl hown3 rfl (Src.ofRd (s3.out.below B3 (Nat.le_refl _)) (byteVals_one _)) (by omega) (by unfold maxLen; omega) B3.size ?_; intro b4 d4 w4 hown4 hgr4 _; have B4 := below_grown B3 hgr4 hown3 (Nat.le_refl _) B3.size; clear hgr4 hown3 B3; rw [← HB.out] at hown4))
        have M4 := M1.call0 B4
        have BB4 := hb1.call0 (Nat.le_refl _) B4
        have t1 := Box.mk (s1.out.call0 B4); have t2 := Box.mk (s2.out.call0 B4); have t3 := Box.mk (s3.out.call0 B4); have t4 := Box.mk (Rd.ofOwn hown4)
        clear s1 s2 s3 hown4 B4 M1 hb1
        refine (q1 _ t1.out M4.tabs).mono ?_
        rintro e w5 ⟨rfl, hb5⟩
        have M5 := M4.call0 hb5
        have B5 := BB4.call0 (Nat.le_refl _) hb5
        have u2 := Box.mk (t2.out.call0 hb5); have u3 := Box.mk (t3.out.call0 hb5); have u4 := Box.mk (t4.out.call0 hb5)
        clear t1 t2 t3 t4 M4 BB4 hb5
        go_wp2_with fail
        refine (q2 _ u2.out M5.tabs).mono ?_
        rintro e w6 ⟨rfl, hb6⟩
        have M6 := M5.call0 hb6
        have B6 := B5.call0 (Nat.le_refl _) hb6
        have v3 := Box.mk (u3.out.call0 hb6); have v4 := Box.mk (u4.out.call0 hb6)
        clear u2 u3 u4 M5 B5 hb6
        go_wp2_with fail
        refine (q3 _ v3.out M6.tabs).mono ?_
        rintro e w7 ⟨rfl, hb7⟩
        have M7 := M6.call0 hb7
        have B7 := B6.call0 (Nat.le_refl _) hb7
        have y4 := Box.mk (v4.out.call0 hb7)
        clear v3 v4 M6 B6 hb7 q1 q2 q3
        go_wp2_with fail
        refine (j12 _ M7.tabs).mono ?_
        rintro e wq ⟨rfl, rfl⟩
        go_wp2_with fail
        refine (j123 _ M7.tabs).mono ?_
        rintro e wq ⟨rfl, rfl⟩
        go_wp2_with fail
        refine (j23 _ M7.tabs).mono ?_
        rintro e wq ⟨rfl, rfl⟩
        go_wp2_with fail
        refine (k123 _ M7.tabs).mono ?_
        rintro e wq ⟨rfl, rfl⟩
        go_wp2_with fail
        refine (q4 _ _ _ y4.out M7.tabs).mono ?_
        rintro e w8 ⟨rfl, hb8⟩
        have B8 := B7.call0 (Nat.le_refl _) hb8
        clear y4 M7 B7 hb8
        go_wp2_with fail
        go_ret
        exact ⟨rfl, B8⟩
      · go_enter Tryd.func7, Tryd.ntmps7
        go_wp2_with (go_at_call 15; refine (sanity_any w hM).mono ?_; rintro e w1 ⟨rfl, hb1⟩)
        go_ret
        exact ⟨rfl, hb1⟩
    · go_enter Tryd.func7, Tryd.ntmps7
      go_wp2_with (go_at_call 15; refine (sanity_any w hM).mono ?_; rintro e w1 ⟨rfl, hb1⟩)
      go_ret
      exact ⟨rfl, hb1⟩
  · go_enter Tryd.func7, Tryd.ntmps7
    go_wp2_with (go_at_call 15; refine (sanity_any w hM).mono ?_; rintro e w1 ⟨rfl, hb1⟩)
    go_ret
    exact ⟨rfl, hb1⟩

theorem crc_lin3 (l1 l2 l3 : List UInt8) : crc (xorB (xorB l1 (xorB (List.replicate l1.length 0) l2)) (xorB (List.replicate l1.length 0) l3)) = crc l1 ^^^ crc (xorB (List.replicate l1.length 0) l2) ^^^ crc (xorB (List.replicate l1.length 0) l3) :=
  crc_linear _ _ _ (by rw [xorB_length, List.length_replicate]) (by rw [xorB_length, List.length_replicate])
theorem bytes_zeros (n : Nat) : byteVals (List.replicate n 0) = List.replicate n (Value.int .u8 0) := by simp [byteVals]

set_option maxRecDepth 20000 in
set_option maxHeartbeats 2000000 in
theorem linear_walk (a1 a2 a3 : Option Addr) (n1 n2 n3 c1 c2 c3 : Nat) (l1 l2 l3 : List UInt8) (w : World) (r1 : Rd w a1 n1 c1 1 (byteVals l1)) (r2 : Rd w a2 n2 c2 1 (byteVals l2)) (r3 : Rd w a3 n3 c3 1 (byteVals l3)) (hM : Mem w) :
    Calls Tryd.prog 9 #[.slice a1 n1 c1, .slice a2 n2 c2, .slice a3 n3 c3] w (RetBool true w) := by
  have m1 := r1.lenMax
  by_cases h1 : n1 ≤ 400
  · have hl : l1.length = n1 := r1.blen
    have hlin := crc_lin3 l1 l2 l3
    rw [hl] at hlin
    obtain ⟨Z, hZ⟩ : ∃ Z, Z = List.replicate n1 (0 : UInt8) := ⟨_, rfl⟩
    rw [← hZ] at hlin
    have hzl : Z.length = n1 := by rw [hZ, List.length_replicate]
    have x1 := fun (w : World) (a b : Option Addr) (c d : Nat) (h : Rd w a n1 c 1 (byteVals Z)) (h' : Rd w b n2 d 1 (byteVals l2)) => xor_any Z l2 a n1 c b n2 d w h h' (by omega)
    have x2 := fun (w : World) (a b : Option Addr) (c d : Nat) (h : Rd w a n1 c 1 (byteVals Z)) (h' : Rd w b n3 d 1 (byteVals l3)) => xor_any Z l3 a n1 c b n3 d w h h' (by omega)
    have yl : (xorB Z l2).length = n1 := by rw [xorB_length, hzl]
    have zl : (xorB Z l3).length = n1 := by rw [xorB_length, hzl]
    obtain ⟨Y, hY⟩ : ∃ Y, Y = xorB Z l2 := ⟨_, rfl⟩
    obtain ⟨V, hV⟩ : ∃ V, V = xorB Z l3 := ⟨_, rfl⟩
    rw [← hY] at x1 yl hlin; rw [← hV] at x2 zl hlin
    have x3 := fun (w : World) (a b : Option Addr) (c d : Nat) (h : Rd w a n1 c 1 (byteVals l1)) (h' : Rd w b n1 d 1 (byteVals Y)) => xor_any l1 Y a n1 c b n1 d w h h' (by omega)
    have wl : (xorB l1 Y).length = n1 := by rw [xorB_length, hl]
    have x4 := fun (w : World) (a b : Option Addr) (c d : Nat) (h : Rd w a n1 c 1 (byteVals (xorB l1 Y))) (h' : Rd w b n1 d 1 (byteVals V)) => xor_any (xorB l1 Y) V a n1 c b n1 d w h h' (by omega)
    have wl2 : (xorB (xorB l1 Y) V).length = n1 := by rw [xorB_length, wl]
    generalize xorB (xorB l1 Y) V = A at *
    generalize xorB l1 Y = X at *
    have q1 := fun (w : World) (a : Option Addr) (c : Nat) (h : Rd w a n1 c 1 (byteVals A)) (hT : Tabs w) => crc40_any A a n1 c w h (by omega) hT
    have q2 := fun (w : World) (a : Option Addr) (c : Nat) (h : Rd w a n1 c 1 (byteVals l1)) (hT : Tabs w) => crc40_any l1 a n1 c w h (by omega) hT
    have q3 := fun (w : World) (a : Option Addr) (c : Nat) (h : Rd w a n1 c 1 (byteVals Y)) (hT : Tabs w) => crc40_any Y a n1 c w h (by omega) hT
    have q4 := fun (w : World) (a : Option Addr) (c : Nat) (h : Rd w a n1 c 1 (byteVals V)) (hT : Tabs w) => crc40_any V a n1 c w h (by omega) hT
    have i1 := i64_xor_nat (crc l1) (crc Y) (crc_lt _) (crc_lt _)
    have i2 := i64_xor_nat (crc l1 ^^^ crc Y) (crc V) (Nat.xor_lt_two_pow (n := 40) (crc_lt _) (crc_lt _)) (crc_lt _)
    rw [← hlin] at i2
    generalize crc l1 ^^^ crc Y = y12 at *
    generalize crc A = yA at *
    generalize crc l1 = y1 at *
    generalize crc Y = y2 at *
    generalize crc V = y3 at *
    have HZ := Box.mk (show byteVals Z = List.replicate n1 (Value.int .u8 0) from by rw [hZ, bytes_zeros])
    have YL := Box.mk yl; have ZL := Box.mk zl; have WL := Box.mk wl; have WL2 := Box.mk wl2
    clear hZ hY hV yl zl wl wl2 hlin hl hzl
    have R1 := Box.mk r1; have R2 := Box.mk r2; have R3 := Box.mk r3
    clear r1 r2 r3
    go_enter Tryd.func9, Tryd.ntmps9
    go_wp2_with fail
    refine (sanity_any w hM).mono ?_
    rintro e w1 ⟨rfl, hb1⟩
    have M1 := (hM.call0 hb1).alloc (.cells (byteVals Z).toArray 5)
    have B1 := hb1.new (Nat.le_refl _) (.cells (byteVals Z).toArray 5)
    have s1 := Box.mk ((R1.out.call0 hb1).alloc (.cells (byteVals Z).toArray 5)); have s2 := Box.mk ((R2.out.call0 hb1).alloc (.cells (byteVals Z).toArray 5)); have s3 := Box.mk ((R3.out.call0 hb1).alloc (.cells (byteVals Z).toArray 5))
    have sZ := Box.mk (Rd.ofOwn (own_new (w := w1.alloc (.cells (byteVals Z).toArray 5)) (base := 0) (size := 1) (n := n1) (Blk.new (k := w1.heap.size) rfl rfl) (Nat.zero_le _) (by rw [HZ.out, List.length_replicate, Nat.mul_one]) (by unfold maxLen; omega)))
    clear R1 R2 R3 hb1
    go_wp2_with ((with_reducible show wpList _ _ _ _ _ _); refine wpList_make (o := ⟨some 19, _, _, _, _, _⟩) rfl 22 (.tmp 18) (.tmp 18) rfl sl22 rfl rfl rfl (by omega) (by omega) ?_; rw [← HZ.out]; generalize w1.alloc (.cells (byteVals Z).toArray 5) = w2 at *)
    refine (x1 _ _ _ _ _ sZ.out s2.out).mono ?_
    intro e w3 hret
    obtain ⟨b3, d3, rfl, RY, hb3⟩ := hret.got
    rw [YL.out] at RY ⊢
    have M3 := M1.call0 hb3
    have B3 := B1.call0 (Nat.le_refl _) hb3
    have t1 := Box.mk (s1.out.call0 hb3); have t3 := Box.mk (s3.out.call0 hb3); have tZ := Box.mk (sZ.out.call0 hb3); have tY := Box.mk RY
    clear s1 s2 s3 sZ RY hb3 hret M1 B1 x1
    go_wp2_with fail
    refine (x2 _ _ _ _ _ tZ.out t3.out).mono ?_
    intro e w4 hret
    obtain ⟨b4, d4, rfl, RV, hb4⟩ := hret.got
    rw [ZL.out] at RV ⊢
    have M4 := M3.call0 hb4
    have B4 := B3.call0 (Nat.le_refl _) hb4
    have u1 := Box.mk (t1.out.call0 hb4); have uY := Box.mk (tY.out.call0 hb4); have uV := Box.mk RV
    clear t1 t3 tZ tY RV hb4 hret M3 B3 x2
    go_wp2_with fail
    refine (x3 _ _ _ _ _ u1.out uY.out).mono ?_
    intro e w5 hret
    obtain ⟨b5, d5, rfl, RX, hb5⟩ := hret.got
    rw [WL.out] at RX ⊢
    have M5 := M4.call0 hb5
    have B5 := B4.call0 (Nat.le_refl _) hb5
    have v1 := Box.mk (u1.out.call0 hb5); have vY := Box.mk (uY.out.call0 hb5); have vV := Box.mk (uV.out.call0 hb5); have vX := Box.mk RX
    clear u1 uY uV RX hb5 hret M4 B4 x3
    go_wp2_with fail
    refine (x4 _ _ _ _ _ vX.out vV.out).mono ?_
    intro e w6 hret
    obtain ⟨b6, d6, rfl, RA, hb6⟩ := hret.got
    rw [WL2.out] at RA ⊢
    have M6 := M5.call0 hb6
    have B6 := B5.call0 (Nat.le_refl _) hb6
    have z1 := Box.mk (v1.out.call0 hb6); have zY := Box.mk (vY.out.call0 hb6); have zV := Box.mk (vV.out.call0 hb6); have zA := Box.mk RA
    clear v1 vY vV vX RA hb6 hret M5 B5 x4
    go_wp2_with fail
    refine (q1 _ _ _ zA.out M6.tabs).mono ?_
    rintro e w7 ⟨rfl, hb7⟩
    have M7 := M6.call0 hb7
    have B7 := B6.call0 (Nat.le_refl _) hb7
    have p1 := Box.mk (z1.out.call0 hb7); have pY := Box.mk (zY.out.call0 hb7); have pV := Box.mk (zV.out.call0 hb7)
    clear z1 zY zV zA hb7 M6 B6 q1
    go_wp2_with fail
    refine (q2 _ _ _ p1.out M7.tabs).mono ?_
    rintro e w8 ⟨rfl, hb8⟩
    have M8 := M7.call0 hb8
    have B8 := B7.call0 (Nat.le_refl _) hb8
    have oY := Box.mk (pY.out.call0 hb8); have oV := Box.mk (pV.out.call0 hb8)
    clear p1 pY pV hb8 M7 B7 q2
    go_wp2_with fail
    refine (q3 _ _ _ oY.out M8.tabs).mono ?_
    rintro e w9 ⟨rfl, hb9⟩
    have M9 := M8.call0 hb9
    have B9 := B8.call0 (Nat.le_refl _) hb9
    have nV := Box.mk (oV.out.call0 hb9)
    clear oY oV hb9 M8 B8 q3
    go_wp2_with fail
    refine (q4 _ _ _ nV.out M9.tabs).mono ?_
    rintro e w10 ⟨rfl, hb10⟩
    have B10 := B9.call0 (Nat.le_refl _) hb10
    clear nV hb10 M9 B9 q4
    go_wp2_with fail
    go_ret
    exact ⟨rfl, B10⟩
  · go_enter Tryd.func9, Tryd.ntmps9
    go_wp2_with (go_at_call 15; refine (sanity_any w hM).mono ?_; rintro e w1 ⟨rfl, hb1⟩)
    go_ret
    exact ⟨rfl, hb1⟩
end Go.Proofs.YtcngnpkpaliflaaDoor
