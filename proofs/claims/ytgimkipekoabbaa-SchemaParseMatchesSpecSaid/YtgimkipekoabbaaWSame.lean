/-
  The walk of Same at two equal tables. No condition.
-/
import Derived.Test.YtgimkipekoabbaaWAdds
import Derived.Test.YtgimkipekoabbaaLWords
namespace Go.Proofs.Ytgimkipekoabbaa
open Go.RowKit

theorem run_neqC (c : Col) (w : World) : (binOp .neq 50 (.agg #[.string ⟨c.name.toArray⟩, .int .i64 c.kind, .bool c.null]) (.agg #[.string ⟨c.name.toArray⟩, .int .i64 c.kind, .bool c.null])).run Try.prog w = .ok (.bool false) w := by
  go_simp
theorem run_neqX (x : Chk) (w : World) : (binOp .neq 42 (.agg #[.int .i64 x.col, .int .i64 x.op, .int .i64 x.val.kind, .int .i64 x.val.n, .string ⟨x.val.s.toArray⟩]) (.agg #[.int .i64 x.col, .int .i64 x.op, .int .i64 x.val.kind, .int .i64 x.val.n, .string ⟨x.val.s.toArray⟩])).run Try.prog w = .ok (.bool false) w := by
  go_simp

/-- Two tables, each in a block of its own. -/
structure Two (w : World) (X Y : TabP) (wr : World) : Prop where
  one : TabIn w wr w.heap.size X
  two : TabIn w wr (w.heap.size + 1) Y
theorem Two.step {w wr wr' : World} {X Y : TabP} (h : Two w X Y wr) (hb : Below wr.heap.size wr wr') : Two w X Y wr' := ⟨h.one.step hb, h.two.step hb⟩
theorem Two.drewN {w wr : World} {X Y : TabP} (h : Two w X Y wr) (n : Nat) : Two w X Y (wr.drewN n) := ⟨h.one.drewN n, h.two.drewN n⟩
theorem Two.start {w : World} {X Y : TabP} (h1 : TabRd w X) (h2 : TabRd w Y) : Two w X Y ((w.alloc (.cells X.cs.toArray 28)).alloc (.cells Y.cs.toArray 28)) :=
  ⟨(TabIn.start h1).alloc _, ⟨Blk.new (by simp) rfl, (h2.alloc _).alloc _, ((Below.refl _ _).alloc (Nat.le_refl _) _).alloc (by simp) _⟩⟩
theorem ix_at {l m : List IxP} (h : l.map (fun p => p.x) = m.map (fun p => p.x)) (k : Nat) : (l.getD k default).x = (m.getD k default).x := by
  rw [← getD_map_x, ← getD_map_x, h]

theorem nm_sameints : (Try.f23.name == "runtime.NumGoroutine") = false := by kernel_rfl
theorem bd_sameints : Try.f23.body.isNone = false := by kernel_rfl
set_option maxRecDepth 20000 in
set_option maxHeartbeats 4000000 in
theorem same_any (X Y : TabP) (hXY : X.t = Y.t) (w : World) (h1 : TabRd w X) (h2 : TabRd w Y) : Calls Try.prog 36 #[X.v, Y.v] w (RetV (.bool true) w) := by
  have T0 := Box.mk (Two.start h1 h2)
  have mc := h1.cols.lenMax
  have mi := h1.ixs.lenMax
  have mh := h1.chks.lenMax
  clear h1 h2
  have e0 := congrArg Tab.name hXY
  have e1 := congrArg Tab.cols hXY
  have e2 := congrArg Tab.ixs hXY
  have e3 := congrArg Tab.chks hXY
  clear hXY
  obtain ⟨nm, ca, cc, cols, ia, ic, ixs, ha, hc, chks⟩ := X
  obtain ⟨nm2, ca2, cc2, cols2, ia2, ic2, ixs2, ha2, hc2, chks2⟩ := Y
  simp only [TabP.t] at e0 e1 e2 e3
  subst e0 e1 e3
  have hil : ixs2.length = ixs.length := by have := congrArg List.length e2; simpa using this.symm
  have HE := Box.mk e2
  clear e2
  simp only at mc mi mh
  have x0 := T0.out.one.c0
  have x1 := T0.out.one.c1
  have x2 := T0.out.one.c2
  have x3 := T0.out.one.c3
  have y0 := T0.out.two.c0
  have y1 := T0.out.two.c1
  have y2 := T0.out.two.c2
  have y3 := T0.out.two.c3
  unfold TabP.cs at T0 x0 x1 x2 x3 y0 y1 y2 y3
  unfold TabP.v
  simp only [hil] at T0 x0 x1 x2 x3 y0 y1 y2 y3 ⊢
  go_enter Try.func36, Try.ntmps36
  go_wp2_with fail
  clear x0 x1 x2 x3 y0 y1 y2 y3
  have HIL := Box.mk hil
  clear hil
  generalize ((w.alloc (.cells #[.string ⟨nm.toArray⟩, .slice ca cols.length cc, .slice ia ixs.length ic, .slice ha chks.length hc] 28)).alloc (.cells #[.string ⟨nm.toArray⟩, .slice ca2 cols.length cc2, .slice ia2 ixs.length ic2, .slice ha2 chks.length hc2] 28)) = W at *
  go_loopw [5] (fun i wr => ∃ k : Nat, k ≤ cols.length ∧ i = .int .i64 k ∧ Box (Two w ⟨nm, ca, cc, cols, ia, ic, ixs, ha, hc, chks⟩ ⟨nm, ca2, cc2, cols, ia2, ic2, ixs2, ha2, hc2, chks⟩ wr)) (fun i _ => cols.length - (intOf i).toNat)
  case atStart => exact ⟨0, Nat.zero_le _, rfl, T0⟩
  case round =>
    clear T0
    obtain ⟨k, hk, rfl, TW⟩ := hrel
    have x1 := TW.out.one.c1
    have y1 := TW.out.two.c1
    simp only at x1 y1
    by_cases hlt : k < cols.length
    · obtain ⟨b, off, hca, _, hc1⟩ := TW.out.one.rd.cols.recAt Col.enc_len (by omega) k hlt
      obtain ⟨b2, off2, hca2, _, hc2'⟩ := TW.out.two.rd.cols.recAt Col.enc_len (by omega) k hlt
      simp only at hca hca2 hc1 hc2'
      rw [hca] at x1
      rw [hca2] at y1
      have hq := run_neqC (cols.getD k default)
      generalize cols.getD k default = y at *
      have p0 := hc1 0 _ rfl
      have p1 := hc1 1 _ rfl
      have p2 := hc1 2 _ rfl
      have q0 := hc2' 0 _ rfl
      have q1 := hc2' 1 _ rfl
      have q2 := hc2' 2 _ rfl
      simp only [Nat.add_zero] at p0 q0
      clear hca hca2 hc1 hc2'
      go_wp2_with fail
      go_quiet (fail)
      go_wp2_with fail
      go_roundw
      case rel => exact ⟨k + 1, by omega, by go_num, ⟨TW.out.drewN _⟩⟩
      case measure => simp [intOf]; omega
    · go_wp2_with fail
      clear x1 y1
      go_loopw [6] (fun i wr => ∃ k : Nat, k ≤ ixs.length ∧ i = .int .i64 k ∧ Box (Two w ⟨nm, ca, cc, cols, ia, ic, ixs, ha, hc, chks⟩ ⟨nm, ca2, cc2, cols, ia2, ic2, ixs2, ha2, hc2, chks⟩ wr)) (fun i _ => ixs.length - (intOf i).toNat)
      case atStart => exact ⟨0, Nat.zero_le _, rfl, TW⟩
      case round =>
        clear TW hlt hk
        obtain ⟨k, hk, rfl, TW⟩ := hrel
        have x2 := TW.out.one.c2
        have y2 := TW.out.two.c2
        simp only [HIL.out] at x2 y2
        by_cases hlt : k < ixs.length
        · obtain ⟨b, off, hca, _, hc1⟩ := TW.out.one.rd.ixs.recAt IxP.enc_len (by omega) k hlt
          obtain ⟨b2, off2, hca2, _, hc2'⟩ := TW.out.two.rd.ixs.recAt IxP.enc_len (by omega) k (by show k < ixs2.length; rw [HIL.out]; exact hlt)
          simp only at hca hca2 hc1 hc2'
          have HCA := Box.mk (And.intro hca hca2)
          rw [hca] at x2
          rw [hca2] at y2
          have hn1 := TW.out.one.rd.nums _ (getD_mem hlt)
          have hn2 := TW.out.two.rd.nums _ (getD_mem (l := ixs2) (i := k) (by rw [HIL.out]; exact hlt))
          have hxx := ix_at HE.out k
          generalize ixs.getD k default = y at *
          generalize ixs2.getD k default = z at *
          obtain ⟨⟨yn, yc, yu⟩, ya, yp⟩ := y
          obtain ⟨⟨zn, zc, zu⟩, za, zp⟩ := z
          simp only [Ix.mk.injEq] at hxx
          obtain ⟨rfl, rfl, rfl⟩ := hxx
          have p0 := hc1 0 _ rfl
          have p1 := hc1 1 _ rfl
          have p2 := hc1 2 _ rfl
          have q0 := hc2' 0 _ rfl
          have q1 := hc2' 1 _ rfl
          have q2 := hc2' 2 _ rfl
          simp only [Nat.add_zero] at p0 p1 p2 q0 q1 q2 hn1 hn2
          have HN := Box.mk (And.intro hn1 hn2)
          clear hca hca2 hc1 hc2' hn1 hn2
          go_wp2_with fail
          have HQC := Box.mk (show ∀ n, Calls Try.prog 23 #[.slice ya yc.length yp, .slice za yc.length zp] (wr.drewN n) fun e w'' => e = .returned (.bool true) ∧ ∃ m, w'' = wr.drewN m from fun n => Calls.quiet_of (by
            refine (sameInts_any yc yc ya za yc.length yc.length yp zp (wr.drewN n) (HN.out.1.call0 (below_drewN (Below.refl _ _) n)) (HN.out.2.call0 (below_drewN (Below.refl _ _) n))).mono ?_
            rintro e w' ⟨rfl, q, rfl⟩
            exact ⟨by rw [decide_eq_true rfl], q, rfl⟩))
          clear HN
          go_quiet (((go_at_call 23; exact HQC.out _)))
          go_wp2_with fail
          go_quiet (fail)
          go_wp2_with fail
          go_roundw
          case rel => exact ⟨k + 1, by omega, by go_num, ⟨TW.out.drewN _⟩⟩
          case measure => simp [intOf]; omega
        · go_wp2_with fail
          clear x2 y2
          go_loopw [8] (fun i wr => ∃ k : Nat, k ≤ chks.length ∧ i = .int .i64 k ∧ Box (Two w ⟨nm, ca, cc, cols, ia, ic, ixs, ha, hc, chks⟩ ⟨nm, ca2, cc2, cols, ia2, ic2, ixs2, ha2, hc2, chks⟩ wr)) (fun i _ => chks.length - (intOf i).toNat)
          case atStart => exact ⟨0, Nat.zero_le _, rfl, TW⟩
          case round =>
            clear TW hlt hk
            obtain ⟨k, hk, rfl, TW⟩ := hrel
            have x3 := TW.out.one.c3
            have y3 := TW.out.two.c3
            simp only at x3 y3
            by_cases hlt : k < chks.length
            · obtain ⟨b, off, hca, _, hc1⟩ := TW.out.one.rd.chks.recAt Chk.enc_len (by omega) k hlt
              obtain ⟨b2, off2, hca2, _, hc2'⟩ := TW.out.two.rd.chks.recAt Chk.enc_len (by omega) k hlt
              simp only at hca hca2 hc1 hc2'
              rw [hca] at x3
              rw [hca2] at y3
              have hq := run_neqX (chks.getD k default)
              generalize chks.getD k default = y at *
              obtain ⟨yc, yo, yk, yn, ys⟩ := y
              have p0 := hc1 0 _ rfl
              have p1 := hc1 1 _ rfl
              have p2 := hc1 2 _ rfl
              have p3 := hc1 3 _ rfl
              have p4 := hc1 4 _ rfl
              have q0 := hc2' 0 _ rfl
              have q1 := hc2' 1 _ rfl
              have q2 := hc2' 2 _ rfl
              have q3 := hc2' 3 _ rfl
              have q4 := hc2' 4 _ rfl
              simp only [Nat.add_zero] at p0 p1 p2 p3 p4 q0 q1 q2 q3 q4 hq
              clear hca hca2 hc1 hc2'
              go_wp2_with fail
              go_quiet (fail)
              go_wp2_with fail
              go_roundw
              case rel => exact ⟨k + 1, by omega, by go_num, ⟨TW.out.drewN _⟩⟩
              case measure => simp [intOf]; omega
            · go_wp2_with fail
              go_ret
              exact ⟨rfl, TW.out.one.below⟩
end Go.Proofs.Ytgimkipekoabbaa
