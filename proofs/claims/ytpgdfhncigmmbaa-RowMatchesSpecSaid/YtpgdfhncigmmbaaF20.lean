/-
  Chapter 20: Extend, SameRow, the reference's Fits. No condition.
-/
import Derived.Test.YtpgdfhncigmmbaaC20
import Derived.Test.YtpgdfhncigmmbaaLibA
import Derived.Test.YtpgdfhncigmmbaaWFits
import Derived.Test.YtpgdfhncigmmbaaR20
/-
  The walks of Extend, of the reference's Extend, of SameRow. No condition.
-/
namespace Go.Proofs.Ytpgdfhncigmmbaa
open Go.RowKit

def zval : Val := ⟨0, 0, []⟩
theorem zerosOf_val (m : Nat) : zerosOf (.agg #[.int .i64 0, .int .i64 0, .string ⟨#[]⟩]) m = recC Val.enc (List.replicate m zval) := by
  have h : ∀ m, (recC Val.enc (List.replicate m zval)).length = m * 3 := fun m => by rw [recC_length Val.enc_len, List.length_replicate]
  apply List.ext_getElem
  · rw [zerosOf_len, h]; rfl
  · intro i h1 h2
    have h3 : i < m * 3 := by rw [h] at h2; exact h2
    have h4 : i = i / 3 * 3 + i % 3 := by omega
    have h5 := recC_at Val.enc_len (List.replicate m zval) (i / 3) (by rw [List.length_replicate]; omega) (i % 3) (by omega)
    rw [← h4] at h5
    have h6 : (List.replicate m zval).getD (i / 3) default = zval := by
      rw [List.getD_eq_getElem?_getD, List.getElem?_replicate, if_pos (by omega)]; rfl
    rw [h6, List.getElem?_eq_getElem h2] at h5
    have h7 : (zerosOf (.agg #[.int .i64 0, .int .i64 0, .string ⟨#[]⟩]) m)[i]? = (Val.enc zval)[i % 3]? := by
      unfold zerosOf Builtin.zeroCells
      have hs : (Value.agg #[.int .i64 0, .int .i64 0, .string ⟨#[]⟩]).cells = #[.int .i64 0, .int .i64 0, .string ⟨#[]⟩] := rfl
      rw [hs]
      have hi : i % 3 = 0 ∨ i % 3 = 1 ∨ i % 3 = 2 := by omega
      rw [Array.getElem?_toList, Array.getElem?_map, Array.getElem?_range, if_pos (by simpa using h3)]
      rcases hi with hi | hi | hi <;> simp [hi, Val.enc, zval]
    rw [List.getElem?_eq_getElem h1] at h7
    rw [← h5] at h7
    exact Option.some.inj h7
theorem zeroV_one : ∀ u ∈ (Value.agg #[.int .i64 0, .int .i64 0, .string ⟨#[]⟩]).cells.toList, u.oneCell' = true := by
  intro u hu; simp [Value.cells] at hu; rcases hu with rfl | rfl | rfl <;> rfl

/-- The row with nulls up to n values. -/
def extT (n : Nat) (r : List Val) : List Val := r ++ List.replicate (n - r.length) zval

/-- '!=' of two values. -/
theorem run_neqV (x y : Val) (w : World) : (binOp .neq 59 (.agg #[.int .i64 x.kind, .int .i64 x.n, .string ⟨x.s.toArray⟩]) (.agg #[.int .i64 y.kind, .int .i64 y.n, .string ⟨y.s.toArray⟩])).run Try.prog w = .ok (.bool (!decide (x = y))) w := by
  obtain ⟨xk, xn, xs⟩ := x
  obtain ⟨yk, yn, ys⟩ := y
  have h : (decide ((⟨xk, xn, xs⟩ : Val) = ⟨yk, yn, ys⟩)) = (decide (xk = yk) && (decide (xn = yn) && (xs == ys))) := by
    rw [name_beq, Bool.eq_iff_iff]; simp [Val.mk.injEq]
  rw [h, name_beq]
  go_simp
  by_cases h1 : xk = yk <;> by_cases h2 : xn = yn <;> by_cases h3 : xs = ys <;> simp [h1, h2, h3]
theorem list_eq_of {α : Type} [Inhabited α] {l m : List α} {k : Nat} (h : ∀ j, j < k → l.getD j default = m.getD j default) (h1 : l.length = m.length) (h2 : k = l.length) : l = m := by
  subst h2
  refine List.ext_getElem h1 (fun i hi hj => ?_)
  have := h i hi
  simpa [List.getD_eq_getElem?_getD, List.getElem?_eq_getElem hi, List.getElem?_eq_getElem hj] using this

theorem nm_clrow : (Try.f51.name == "runtime.NumGoroutine") = false := by kernel_rfl
theorem bd_clrow : Try.f51.body.isNone = false := by kernel_rfl
end Go.Proofs.Ytpgdfhncigmmbaa

/-
  The walk of the reference's Extend. No condition.
-/
namespace Go.Proofs.Ytpgdfhncigmmbaa
open Go.RowKit

theorem extT_succ {k : Nat} (r : List Val) (hk : r.length ≤ k) : r ++ List.replicate (k + 1 - r.length) zval = r ++ List.replicate (k - r.length) zval ++ [zval] := by
  rw [show k + 1 - r.length = (k - r.length) + 1 from by omega, List.replicate_succ', List.append_assoc]
/-- The length of a slice. -/
def lenOfV : Value → Nat | .slice _ n _ => n | _ => 0
theorem rd_val1 (w : World) (v : Val) : Rd (w.alloc (.cells #[.int .i64 v.kind, .int .i64 v.n, .string ⟨v.s.toArray⟩] 59)) (some ⟨w.heap.size, 0, none⟩) 1 1 3 (recC Val.enc [v]) :=
  rd_newAt rfl rfl rfl (by decide)
end Go.Proofs.Ytpgdfhncigmmbaa

/-
  The walk of the reference's Fits. No condition.
-/
namespace Go.Proofs.Ytpgdfhncigmmbaa
open Go.RowKit

theorem rchk_is {X : TabP} {v : Int} (h : checkT X.t = v) {w : World} (hr : TabRd w X) : Calls Try.prog 33 #[.agg #[.string ⟨X.name.toArray⟩, .slice X.ca X.cols.length X.cc, .slice X.ia X.ixs.length X.ic, .slice X.ha X.chks.length X.hc]] w (RetV (.int .i64 v) w) := by
  subst h; exact rcheck_any X w hr
theorem rval_is {y : Val} {b : Bool} (h : (validB y || nullB y) = b) (w : World) : Calls Try.prog 64 #[.agg #[.int .i64 y.kind, .int .i64 y.n, .string ⟨y.s.toArray⟩]] w (RetV (.bool b) w) := by
  subst h; exact rvalid_any y.kind y.n y.s w
theorem rhold_is {op : Int} {x y : Val} {b : Bool} (h : holdsB op (cmpV x y) = b) (w : World) : Calls Try.prog 65 #[.int .i64 op, .agg #[.int .i64 x.kind, .int .i64 x.n, .string ⟨x.s.toArray⟩], .agg #[.int .i64 y.kind, .int .i64 y.n, .string ⟨y.s.toArray⟩]] w (RetV (.bool b) w) := by
  subst h; exact rholds_any op x y w

set_option maxRecDepth 20000 in
set_option maxHeartbeats 8000000 in
theorem rfits_any (X : TabP) (r : List Val) (ra : Option Addr) (rn rc : Nat) (w : World) (hr : TabRd w X) (hrr : Rd w ra rn rc 3 (recC Val.enc r)) :
    Calls Try.prog 37 #[X.v, .slice ra rn rc] w (RetV (.int .i64 (fitsT X.t r)) w) := by
  have hln := hrr.rlen Val.enc_len (by omega)
  generalize hE : fitsT X.t r = E
  have HE := Box.mk hE
  clear hE
  have T1 := Box.mk (TabIn.start hr)
  have R1 := Box.mk (hrr.alloc (.cells X.cs.toArray 26))
  have mc := hr.cols.lenMax
  have mh := hr.chks.lenMax
  have mr := hrr.lenMax
  clear hr hrr
  unfold TabP.cs at T1 R1
  unfold TabP.v
  have u0 := T1.out.c0
  have u1 := T1.out.c1
  have u2 := T1.out.c2
  have u3 := T1.out.c3
  go_enter Try.func37, Try.ntmps37
  go_wp2_with fail
  generalize (w.alloc (.cells #[.string ⟨X.name.toArray⟩, .slice X.ca X.cols.length X.cc, .slice X.ia X.ixs.length X.ic, .slice X.ha X.chks.length X.hc] 26)) = W at *
  generalize hg : w.heap.size = g at *
  generalize hv : checkT X.t = v
  refine (rchk_is hv T1.out.rd).mono ?_
  rintro e w2 ⟨rfl, hb⟩
  have T2 := Box.mk (T1.out.step hb)
  have R2 := Box.mk (R1.out.call0 hb)
  have x1 := T2.out.c1
  clear hb T1 R1 u0 u1 u2 u3
  by_cases h0 : v = 0
  · subst h0
    have HV := Box.mk hv
    clear hv
    by_cases hl : r.length = X.cols.length
    · have HL := Box.mk hl
      have hrn : rn = X.cols.length := by omega
      have hnn : ((rn : Int) != (X.cols.length : Int)) = false := by simp [hrn]
      have hrl1 : rn ≤ X.cols.length := by omega
      have hrl2 : X.cols.length ≤ rn := by omega
      clear hrn hl
      go_wp2_with fail
      clear hnn x1
      go_loopw [6] (fun i wr => ∃ k : Nat, k ≤ rn ∧ i = .int .i64 k ∧ Box (∀ j, j < k → valErr X.cols r j = 0) ∧ Box (TabIn w wr g X ∧ Rd wr ra rn rc 3 (recC Val.enc r))) (fun i _ => rn - (intOf i).toNat)
      case atStart => exact ⟨0, Nat.zero_le _, rfl, ⟨fun j h => by omega⟩, ⟨T2.out, R2.out⟩⟩
      case round =>
        clear T2 R2
        obtain ⟨k, hk, rfl, HZ, TR⟩ := hrel
        by_cases hlt : k < rn
        · obtain ⟨b, off, rfl, hgb, hc⟩ := TR.out.2.recAt Val.enc_len (by omega) k hlt
          have HHIT := Box.mk (fun (v : Int) (hv : valErr X.cols r k = v) (h0 : v ≠ 0) => show E = v from by
            rw [← HE.out]; exact fitsT_val (T := X.t) HV.out HL.out HZ.out (by omega) hv h0)
          generalize hy : r.getD k default = y at *
          have HY := Box.mk hy
          clear hy
          have c0 := hc 0 _ rfl
          have c1 := hc 1 _ rfl
          have c2 := hc 2 _ rfl
          simp only [Nat.add_zero] at c0 c1 c2
          clear hc
          have hkl : k < X.cols.length := by omega
          obtain ⟨b2, off2, hca2, hgb2, hcc⟩ := TR.out.1.rd.cols.recAt Col.enc_len (by omega) k hkl
          generalize hcy : X.cols.getD k default = cy at *
          have HCY := Box.mk hcy
          clear hcy
          obtain ⟨cyn, cyk, cyu⟩ := cy
          have d1 := hcc 1 _ rfl
          have d2 := hcc 2 _ rfl
          have e1 := TR.out.1.c1
          rw [hca2] at e1
          clear hcc hgb hgb2 hca2
          have hq := fun w => run_eqV y ⟨0, 0, []⟩ w
          rw [← nullB_eq] at hq
          simp only at hq
          obtain ⟨yk, yn, ys⟩ := y
          simp only at c0 c1 c2 hq d1 d2
          cases hnl : nullB ⟨yk, yn, ys⟩ with
          | true =>
            rw [hnl] at hq
            have HNL := Box.mk hnl
            have HQ := Box.mk hq
            clear hnl
            cases cyu with
            | false =>
              have hX := HHIT.out _ (valErr_null HY.out HCY.out HNL.out rfl) (by decide)
              subst hX
              go_wp2_with fail
              go_ret
              exact ⟨rfl, TR.out.1.below⟩
            | true =>
              have HZ2 := Box.mk (all_succ HZ.out (valErr_nullOk HY.out HCY.out HNL.out rfl))
              go_wp2_with fail
              refine (rval_is (y := ⟨yk, yn, ys⟩) (b := true) (by rw [HNL.out, Bool.or_true]) _).mono ?_
              rintro e w5 ⟨rfl, hb5⟩
              have TR5 := Box.mk (And.intro (TR.out.1.step hb5) (TR.out.2.call0 hb5))
              clear hb5 c0 c1 c2 d1 d2 e1 hq HQ TR
              go_wp2_with fail
              go_quiet (fail)
              go_wp2_with fail
              go_roundw
              case rel => exact ⟨k + 1, by omega, by go_num, HZ2, ⟨⟨TR5.out.1.drewN _, TR5.out.2.call0 (below_drewN (Below.refl _ _) _)⟩⟩⟩
              case measure => simp [intOf]; omega
          | false =>
            rw [hnl] at hq
            have HNL := Box.mk hnl
            clear hnl
            generalize hvb : validB ⟨yk, yn, ys⟩ = vb
            go_wp2_with fail
            refine (rval_is (y := ⟨yk, yn, ys⟩) (b := vb) (by rw [HNL.out, Bool.or_false]; exact hvb) _).mono ?_
            rintro e w5 ⟨rfl, hb5⟩
            have TR5 := Box.mk (And.intro (TR.out.1.step hb5) (TR.out.2.call0 hb5))
            replace c0 := (hb5.cell (p := ⟨b, off + k * 3, none⟩) (cell_block_lt c0)).trans c0
            replace d1 := (hb5.cell (p := ⟨b2, off2 + k * 3 + 1, none⟩) (cell_block_lt d1)).trans d1
            replace e1 := (hb5.cell (p := ⟨g, 1, none⟩) (cell_block_lt e1)).trans e1
            clear hb5 c1 c2 d2 hq TR
            cases vb with
            | false =>
              have hX := HHIT.out _ (valErr_type HY.out HCY.out HNL.out (by rw [hvb]; rfl)) (by decide)
              subst hX
              clear hvb
              go_wp2_with fail
              go_quiet (fail)
              go_wp2_with fail
              go_ret
              exact ⟨rfl, (TR5.out.1.drewN _).below⟩
            | true =>
              by_cases hck : yk = cyk
              · have HT2 := Box.mk (all_succ HZ.out (valErr_ok HY.out HCY.out HNL.out (by rw [hvb, Bool.true_and]; exact decide_eq_true hck)))
                have hkk : (yk != cyk) = false := by simp [hck]
                clear hck hvb
                go_wp2_with fail
                go_quiet (fail)
                go_wp2_with fail
                go_roundw
                case rel => exact ⟨k + 1, by omega, by go_num, HT2, ⟨⟨TR5.out.1.drewN _, TR5.out.2.call0 (below_drewN (Below.refl _ _) _)⟩⟩⟩
                case measure => simp [intOf]; omega
              · have hX := HHIT.out _ (valErr_type HY.out HCY.out HNL.out (by rw [hvb, Bool.true_and]; exact decide_eq_false hck)) (by decide)
                subst hX
                have hkk : (yk != cyk) = true := by simp [hck]
                clear hck hvb
                go_wp2_with fail
                go_quiet (fail)
                go_wp2_with fail
                go_ret
                exact ⟨rfl, (TR5.out.1.drewN _).below⟩
        · have HZ0 := Box.mk (show ∀ j, j < r.length → valErr X.cols r j = 0 from fun j hj => HZ.out j (by omega))
          have x3 := TR.out.1.c3
          clear HZ
          go_wp2_with fail
          have hk0 := Box.mk hlt
          clear hlt x3 hk
          go_loopw [9] (fun i wr => ∃ k : Nat, k ≤ X.chks.length ∧ i = .int .i64 k ∧ Box (∀ j, j < k → holdErr X.chks r j = 0) ∧ Box (TabIn w wr g X ∧ Rd wr ra rn rc 3 (recC Val.enc r))) (fun i _ => X.chks.length - (intOf i).toNat)
          case atStart => exact ⟨0, Nat.zero_le _, rfl, ⟨fun j h => by omega⟩, TR⟩
          case round =>
            clear TR hk0
            obtain ⟨k, hk, rfl, HZ, TR⟩ := hrel
            have x3 := TR.out.1.c3
            by_cases hlt : k < X.chks.length
            · obtain ⟨b, off, hca, hgb, hc⟩ := TR.out.1.rd.chks.recAt Chk.enc_len (by omega) k hlt
              rw [hca] at x3
              have HHIT := Box.mk (fun (hv : holdErr X.chks r k = 201) => show E = 201 from by
                rw [← HE.out]; exact fitsT_hold (T := X.t) HV.out HL.out HZ0.out HZ.out hlt hv)
              have hok := (checkT_ok HV.out).chk hlt
              change 0 ≤ (X.chks.getD k default).col ∧ (X.chks.getD k default).col < X.cols.length ∧ _ at hok
              generalize hy : X.chks.getD k default = y at *
              have HY := Box.mk hy
              clear hy hca
              obtain ⟨yc, yo, yk, yn, ys⟩ := y
              have c0 := hc 0 _ rfl
              have c1 := hc 1 _ rfl
              have c2 := hc 2 _ rfl
              have c3 := hc 3 _ rfl
              have c4 := hc 4 _ rfl
              simp only [Nat.add_zero] at c0 c1 c2 c3 c4
              obtain ⟨q, rfl⟩ := Int.eq_ofNat_of_zero_le hok.1
              have hq : q < rn := by have := hok.2.1; simp only at this; omega
              clear hok hc hgb
              obtain ⟨b2, off2, rfl, hgb2, hcc⟩ := TR.out.2.recAt Val.enc_len (by omega) q hq
              have T2 := TR.out.1.alloc (.cells #[.int .i64 q, .int .i64 yo, .int .i64 yk, .int .i64 yn, .string ⟨ys.toArray⟩] 86)
              have R2 := TR.out.2.alloc (.cells #[.int .i64 q, .int .i64 yo, .int .i64 yk, .int .i64 yn, .string ⟨ys.toArray⟩] 86)
              have ba := Blk.new (w := wr) (k := wr.heap.size) (ty := 86) (cs := [.int .i64 q, .int .i64 yo, .int .i64 yk, .int .i64 yn, .string ⟨ys.toArray⟩]) rfl rfl
              have y0 := ba.cellOf (i := 0) rfl
              generalize hv : r.getD q default = v at *
              have HVQ := Box.mk hv
              clear hv
              obtain ⟨vk, vn, vs⟩ := v
              have d0 := Lib.cell?_alloc_some (.cells #[.int .i64 q, .int .i64 yo, .int .i64 yk, .int .i64 yn, .string ⟨ys.toArray⟩] 86) (hcc 0 _ rfl)
              have d1 := Lib.cell?_alloc_some (.cells #[.int .i64 q, .int .i64 yo, .int .i64 yk, .int .i64 yn, .string ⟨ys.toArray⟩] 86) (hcc 1 _ rfl)
              have d2 := Lib.cell?_alloc_some (.cells #[.int .i64 q, .int .i64 yo, .int .i64 yk, .int .i64 yn, .string ⟨ys.toArray⟩] 86) (hcc 2 _ rfl)
              simp only [Nat.add_zero] at d0 d1 d2
              clear hcc hgb2
              go_upto_region 19 with fail
              generalize (wr.alloc (.cells #[.int .i64 q, .int .i64 yo, .int .i64 yk, .int .i64 yn, .string ⟨ys.toArray⟩] 86)) = wa at *
              generalize wr.heap.size = gy at *
              clear c0 c1 c2 c3 c4 TR x3
              go_upto_region 20 with fail
              have HS0 := Box.mk (And.intro (T2.alloc (.cells #[.int .i64 vk, .int .i64 vn, .string ⟨vs.toArray⟩] 59)) (And.intro (R2.alloc (.cells #[.int .i64 vk, .int .i64 vn, .string ⟨vs.toArray⟩] 59)) (And.intro (ba.alloc (.cells #[.int .i64 vk, .int .i64 vn, .string ⟨vs.toArray⟩] 59)) (Blk.new (w := wa) (k := wa.heap.size) (ty := 59) (cs := [.int .i64 vk, .int .i64 vn, .string ⟨vs.toArray⟩]) rfl rfl))))
              generalize (wa.alloc (.cells #[.int .i64 vk, .int .i64 vn, .string ⟨vs.toArray⟩] 59)) = wb at *
              generalize wa.heap.size = gv at *
              clear d0 d1 d2 y0 ba T2 R2
              have f1 := HS0.out.2.2.1.cellOf (i := 1) rfl
              have f2 := HS0.out.2.2.1.cellOf (i := 2) rfl
              have f3 := HS0.out.2.2.1.cellOf (i := 3) rfl
              have f4 := HS0.out.2.2.1.cellOf (i := 4) rfl
              have v0 := HS0.out.2.2.2.cellOf (i := 0) rfl
              have v1 := HS0.out.2.2.2.cellOf (i := 1) rfl
              have v2 := HS0.out.2.2.2.cellOf (i := 2) rfl
              go_wp2_with fail
              generalize hh : holdsB yo (cmpV ⟨vk, vn, vs⟩ ⟨yk, yn, ys⟩) = hb
              refine (rhold_is (x := ⟨vk, vn, vs⟩) (y := ⟨yk, yn, ys⟩) hh _).mono ?_
              rintro e w6 ⟨rfl, hb6⟩
              have TR6 := Box.mk (And.intro (HS0.out.1.step hb6) (HS0.out.2.1.call0 hb6))
              have g0 := (HS0.out.2.2.2.call0 hb6).cellOf (i := 0) rfl
              clear hb6 f1 f2 f3 f4 v0 v1 v2 HS0
              by_cases hvk : vk = 0
              · have HT2 := Box.mk (all_succ HZ.out (holdErr_null HY.out HVQ.out hvk))
                have hkk : (vk != 0) = false := by simp [hvk]
                clear hvk hh
                go_wp2_with fail
                go_roundw
                case rel => exact ⟨k + 1, by omega, by go_num, HT2, TR6⟩
                case measure => simp [intOf]; omega
              have hkk : (vk != 0) = true := by simp [hvk]
              cases hb with
              | false =>
                have hX := HHIT.out (holdErr_no HY.out HVQ.out hvk hh)
                subst hX
                clear hh hvk
                go_wp2_with fail
                go_ret
                exact ⟨rfl, TR6.out.1.below⟩
              | true =>
                have HT2 := Box.mk (all_succ HZ.out (holdErr_ok HY.out HVQ.out hh))
                clear hh hvk
                go_wp2_with fail
                go_roundw
                case rel => exact ⟨k + 1, by omega, by go_num, HT2, TR6⟩
                case measure => simp [intOf]; omega
            · have hX2 : E = 0 := HE.out.symm.trans (fitsT_ok (T := X.t) HV.out HL.out HZ0.out (fun j hj => HZ.out j (by change j < X.chks.length at hj; omega)))
              subst hX2
              go_wp2_with fail
              go_ret
              exact ⟨rfl, TR.out.1.below⟩
    · have hX := HE.out.symm.trans (fitsT_len (T := X.t) HV.out hl)
      subst hX
      have hnn : ((rn : Int) != (X.cols.length : Int)) = true := by simp only [bne_iff_ne]; omega
      go_wp2_with fail
      go_ret
      exact ⟨rfl, T2.out.below⟩
  · have hX := HE.out.symm.trans (fitsT_check hv h0)
    subst hX
    have hvv : (E != 0) = true := by simp [h0]
    clear hv
    go_wp2_with fail
    go_ret
    exact ⟨rfl, T2.out.below⟩
end Go.Proofs.Ytpgdfhncigmmbaa
