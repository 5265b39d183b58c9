/-
  The walk of HashOfMatchesSpec: it returns true and keeps what was there. No condition.
-/
import Derived.Test.YtcngnpkpaliflaaDoorL9
namespace Go.Proofs.YtcngnpkpaliflaaDoor
open Go.RowKit

theorem nm34 : (Tryd.f34.name == "runtime.NumGoroutine") = false := by kernel_rfl
theorem bd34 : Tryd.f34.body.isNone = false := by kernel_rfl
theorem nm35 : (Tryd.f35.name == "runtime.NumGoroutine") = false := by kernel_rfl
theorem bd35 : Tryd.f35.body.isNone = false := by kernel_rfl
theorem inputOf_and (tag : Int) (l : List (List UInt8)) : inputOf (tag % 256) l = inputOf tag l := by unfold inputOf; rw [Int.emod_emod_of_dvd tag (by exact ⟨1, by decide⟩)]

theorem run_and_i64 {P : Program} {a : Act} {o : Oper} (x y : Operand) (t yt : TypeId) (ho : o.op = .binOp .and t x y yt) {m k : Int} (hx : a.eval x = .int .i64 m) (hy : a.eval y = .int .i64 k) (w : World) :
    (execOp a.eval o).run P w = .ok (.value (.int .i64 (bits .and .i64 m k))) w := by
  unfold execOp
  simp only [ho, hx, hy]
  simp [eqGuard, binOp, Op.intBits, bits]

set_option maxRecDepth 20000 in
set_option maxHeartbeats 4000000 in
theorem ofSpec_walk (tag : Int) (l : List (List UInt8)) (a : Option Addr) (n cap : Nat) (w : World) (hrd : Rd w a n cap 1 (bstrVals l)) (hs : ∀ s ∈ l, s.length ≤ 9223372036854775807) (hM : Mem3 w) :
    Calls Tryd.prog 13 #[.int .i64 tag, .slice a n cap] w (RetBool true w) := by
  have hmax := hrd.lenMax
  have HL := Box.mk (show l.length = n from by have h := hrd.hlen; rw [bstrVals_length] at h; omega)
  have hfew := fun (w : World) (h : Rd w a n cap 1 (bstrVals l)) => few_any l a n cap w h (Lib.hid hs)
  have R0 := Box.mk hrd; clear hrd
  cases hf : fewB l
  · rw [hf] at hfew
    go_enter Tryd.func13, Tryd.ntmps13
    go_wp2_with fail
    refine (sanity_any w hM.mem).mono ?_
    rintro e w1 ⟨rfl, hb1⟩
    go_wp2_with fail
    refine (hfew w1 (R0.out.call0 hb1)).mono ?_
    rintro e wq ⟨rfl, rfl⟩
    go_wp2_with fail
    go_ret
    exact ⟨rfl, hb1⟩
  · rw [hf] at hfew
    obtain ⟨h12, hle⟩ := few_len hf
    clear hf hs
    go_enter Tryd.func13, Tryd.ntmps13
    go_wp2_with fail
    refine (sanity_any w hM.mem).mono ?_
    rintro e w1 ⟨rfl, hb1⟩
    go_wp2_with fail
    refine (hfew w1 (R0.out.call0 hb1)).mono ?_
    rintro e wq ⟨rfl, rfl⟩
    go_wp2_with fail
    refine (of_any tag l a n cap w1 (R0.out.call0 hb1) (by omega) (hM.call0 hb1).mem.kons (hM.call0 hb1).mem.big).mono ?_
    rintro e w2 ⟨rfl, hb2⟩
    have B2 := hb1.trans (hb2.mono hb1.size)
    have hdl := Box.mk (digest_length (inputOf tag l))
    have hl16 := Box.mk (show (byteVals (digest (inputOf tag l))).length = 16 from by rw [byteVals_length, digest_length])
    have ho1 := Box.mk (byteVals_one (digest (inputOf tag l)))
    have C35 := Box.mk (fun (w : World) (h : Rd w a n cap 1 (bstrVals l)) (hM : Mem3 w) => refOf_any tag l a n cap w h (by omega) hM.ref (by have := hM.mem.big; omega))
    have C34 := Box.mk (fun (w : World) (h : Rd w a n cap 1 (bstrVals l)) (hM : Mem3 w) => of_any (tag % 256) l a n cap w h (by omega) hM.mem.kons hM.mem.big)
    rw [inputOf_and] at C34
    generalize digest (inputOf tag l) = dg at *
    have c3 := Blk.new (w := w2) (ty := 58) (cs := byteVals dg) (k := w2.heap.size) rfl rfl
    have B3 := B2.alloc B2.size (.cells (byteVals dg).toArray 58)
    clear hb1 hb2 B2
    go_wp2_with (first
      | ((with_reducible show wpList _ _ _ _ _ _); refine wpList_alloc (o := ⟨some 6, .alloc 58, _, _, _, _⟩) rfl 58 rfl zero58 (zc := zero16.toArray) rfl ?_)
      | ((with_reducible show wpList _ _ _ _ _ _); refine wpList_store_fresh (o := ⟨none, .store 58 (.tmp 6) (.tmp 14), _, _, _, _⟩) (cs := byteVals dg) rfl 58 _ _ rfl rfl agg58.info rfl rfl rfl hl16.out ho1.out ?_))
    obtain ⟨g, hg⟩ : ∃ g, g = w2.heap.size := ⟨_, rfl⟩
    rw [← hg] at c3
    rw [← hg]
    generalize w2.alloc (.cells (byteVals dg).toArray 58) = w3 at *
    clear hg
    have R3 := R0.out.below B3 (Nat.le_refl _)
    have M3 := hM.call0 B3
    have hand := Box.mk (i64_and255 tag)
    refine wp_region_any (by kernel_rfl) ?_
    (change wpAny _ _ _ _ _ _ _ (World.drew _))
    refine wpAny_take (i := 0) (v := ?_) rfl (by kernel_rfl) (by kernel_rfl) (by kernel_rfl) (fun _ _ _ h => h) (Or.inl ⟨by rfl, ?_⟩) ?_
    rotate_left
    · intro w
      go_simp
      all_goals with_reducible rfl
    refine wpAny_take (i := 1) (v := ?_) rfl (by kernel_rfl) (by kernel_rfl) (by kernel_rfl) (fun _ _ _ h => h) (Or.inl ⟨by rfl, ?_⟩) ?_
    rotate_left
    · intro w
      go_simp
      all_goals with_reducible rfl
    conv =>
      arg 7
      simp [go_sem]
    refine wpAny_ext [2, 3, 4, 5, 6, 7, 8, 9, 10, 11, 12, 13, 14, 15] (fun op v _ => match op with
      | 2 => v = .agg (byteVals dg).toArray
      | 3 => v = .int .i64 tag
      | 4 => v = .slice a n cap
      | 5 => v = .agg (byteVals dg).toArray
      | 9 => v = .agg (byteVals dg).toArray
      | 10 => v = .int .i64 tag
      | 11 => v = .int .i64 (tag % 256)
      | 12 => v = .slice a n cap
      | 13 => v = .agg (byteVals dg).toArray
      | _ => v = .bool true) (by kernel_rfl) (by rfl) ?_ ?_ (fuel := 1) rfl ?_
    · intro i hi
      simp only [List.mem_cons, List.not_mem_nil, or_false] at hi
      rcases hi with rfl | rfl | rfl | rfl | rfl | rfl | rfl | rfl | rfl | rfl | rfl | rfl | rfl | rfl
      · refine StepOK.mk _ rfl fun a' wx hb hfr hdp K hK' => ?_
        have e16 : a'.tmps.getD 16 undef = .bool true := hfr 16 (by decide)
        have e6 : a'.tmps.getD 6 undef = .pointer (some ⟨g, 0, none⟩) := hfr 6 (by decide)
        exact oper_load_agg (wanted_of rfl rfl e16) 58 (.tmp 6) rfl agg58 e6 hl16.out (c3.drew.below hb (Nat.le_refl _)).agg (hK'.out _ _ rfl (Below.refl _ _))
      · refine StepOK.mk _ rfl fun a' wx hb hfr hdp K hK' => ?_
        have e16 : a'.tmps.getD 16 undef = .bool true := hfr 16 (by decide)
        have e0 : a'.tmps.getD 0 undef = .int .i64 tag := hfr 0 (by decide)
        exact oper_move (wanted_of rfl rfl e16) (.tmp 0) rfl e0 (hK'.out _ _ rfl (Below.refl _ _))
      · refine StepOK.mk _ rfl fun a' wx hb hfr hdp K hK' => ?_
        have e16 : a'.tmps.getD 16 undef = .bool true := hfr 16 (by decide)
        have e0 : a'.tmps.getD 1 undef = .slice a n cap := hfr 1 (by decide)
        exact oper_move (wanted_of rfl rfl e16) (.tmp 1) rfl e0 (hK'.out _ _ rfl (Below.refl _ _))
      · refine StepOK.mk _ rfl fun a' wx hb hfr hdp K hK' => ?_
        have e16 : a'.tmps.getD 16 undef = .bool true := hfr 16 (by decide)
        have ea := hdp 3 (by decide) (by kernel_rfl) 18 rfl
        have eb := hdp 4 (by decide) (by kernel_rfl) 19 rfl
        refine oper_call (wanted_of rfl rfl e16) 35 [.tmp 18, .tmp 19] #[3, 26] rfl (vs := [.int .i64 tag, .slice a n cap]) (by show [a'.tmps.getD 18 undef, a'.tmps.getD 19 undef] = _; rw [ea, eb]) Tryd.func35 nm35 bd35 (C35.out wx ((show Rd w3.drew a n cap 1 (bstrVals l) from R3.drew).below hb (Nat.le_refl _)) (M3.drewOn hb)) ?_
        rintro e wy ⟨rfl, hby⟩
        exact ⟨_, rfl, hK'.out _ _ rfl hby⟩
      · refine StepOK.mk _ rfl fun a' wx hb hfr hdp K hK' => ?_
        have e16 : a'.tmps.getD 16 undef = .bool true := hfr 16 (by decide)
        have ea := hdp 2 (by decide) (by kernel_rfl) 17 rfl
        have eb := hdp 5 (by decide) (by kernel_rfl) 20 rfl
        exact oper_val (wanted_of rfl rfl e16) (run_eql_refl ar58 u5' sz5 eg58 (xs := dg) hdl.out (.tmp 17) (.tmp 20) 58 rfl ea eb _) (hK'.out _ _ rfl (Below.refl _ _))
      · refine StepOK.mk _ rfl fun a' wx hb hfr hdp K hK' => ?_
        have e16 : a'.tmps.getD 16 undef = .bool true := hfr 16 (by decide)
        have ea := hdp 6 (by decide) (by kernel_rfl) 21 rfl
        exact oper_pick rfl (.tmp 16) (.tmp 21) (.const (.bool false)) rfl e16 ea (hK'.out _ _ rfl (Below.refl _ _))
      · refine StepOK.mk _ rfl fun a' wx hb hfr hdp K hK' => ?_
        have ea := hdp 7 (by decide) (by kernel_rfl) 22 rfl
        exact oper_move rfl (.tmp 22) rfl ea (hK'.out _ _ rfl (Below.refl _ _))
      · refine StepOK.mk _ rfl fun a' wx hb hfr hdp K hK' => ?_
        have e23 := hdp 8 (by decide) (by kernel_rfl) 23 rfl
        have e6 : a'.tmps.getD 6 undef = .pointer (some ⟨g, 0, none⟩) := hfr 6 (by decide)
        exact oper_load_agg (wanted_of rfl rfl e23) 58 (.tmp 6) rfl agg58 e6 hl16.out (c3.drew.below hb (Nat.le_refl _)).agg (hK'.out _ _ rfl (Below.refl _ _))
      · refine StepOK.mk _ rfl fun a' wx hb hfr hdp K hK' => ?_
        have e23 := hdp 8 (by decide) (by kernel_rfl) 23 rfl
        have e0 : a'.tmps.getD 0 undef = .int .i64 tag := hfr 0 (by decide)
        exact oper_move (wanted_of rfl rfl e23) (.tmp 0) rfl e0 (hK'.out _ _ rfl (Below.refl _ _))
      · refine StepOK.mk _ rfl fun a' wx hb hfr hdp K hK' => ?_
        have e23 := hdp 8 (by decide) (by kernel_rfl) 23 rfl
        have ea := hdp 10 (by decide) (by kernel_rfl) 25 rfl
        refine oper_val (wanted_of rfl rfl e23) (v := .int .i64 (tag % 256)) ?_ (hK'.out _ _ rfl (Below.refl _ _))
        rw [← hand.out]
        exact run_and_i64 (.tmp 25) (.const (.int .i64 255)) 3 3 rfl ea rfl wx
      · refine StepOK.mk _ rfl fun a' wx hb hfr hdp K hK' => ?_
        have e23 := hdp 8 (by decide) (by kernel_rfl) 23 rfl
        have e0 : a'.tmps.getD 1 undef = .slice a n cap := hfr 1 (by decide)
        exact oper_move (wanted_of rfl rfl e23) (.tmp 1) rfl e0 (hK'.out _ _ rfl (Below.refl _ _))
      · refine StepOK.mk _ rfl fun a' wx hb hfr hdp K hK' => ?_
        have e23 := hdp 8 (by decide) (by kernel_rfl) 23 rfl
        have ea := hdp 11 (by decide) (by kernel_rfl) 26 rfl
        have eb := hdp 12 (by decide) (by kernel_rfl) 27 rfl
        refine oper_call (wanted_of rfl rfl e23) 34 [.tmp 26, .tmp 27] #[3, 26] rfl (vs := [.int .i64 (tag % 256), .slice a n cap]) (by show [a'.tmps.getD 26 undef, a'.tmps.getD 27 undef] = _; rw [ea, eb]) Tryd.func34 nm34 bd34 (C34.out wx ((show Rd w3.drew a n cap 1 (bstrVals l) from R3.drew).below hb (Nat.le_refl _)) (M3.drewOn hb)) ?_
        rintro e wy ⟨rfl, hby⟩
        exact ⟨_, rfl, hK'.out _ _ rfl hby⟩
      · refine StepOK.mk _ rfl fun a' wx hb hfr hdp K hK' => ?_
        have e23 := hdp 8 (by decide) (by kernel_rfl) 23 rfl
        have ea := hdp 9 (by decide) (by kernel_rfl) 24 rfl
        have eb := hdp 13 (by decide) (by kernel_rfl) 28 rfl
        exact oper_val (wanted_of rfl rfl e23) (run_eql_refl ar58 u5' sz5 eg58 (xs := dg) hdl.out (.tmp 24) (.tmp 28) 58 rfl ea eb _) (hK'.out _ _ rfl (Below.refl _ _))
      · refine StepOK.mk _ rfl fun a' wx hb hfr hdp K hK' => ?_
        have e23 := hdp 8 (by decide) (by kernel_rfl) 23 rfl
        have ea := hdp 14 (by decide) (by kernel_rfl) 29 rfl
        exact oper_pick rfl (.tmp 23) (.tmp 29) (.const (.bool false)) rfl e23 ea (hK'.out _ _ rfl (Below.refl _ _))
    · intro i hi v wx wy hv hb
      exact hv
    · intro vs w5 hv hb5
      have e15 : vs 15 = .bool true := hv 15 (by decide)
      conv =>
        arg 7
        simp [go_sem, e15, dstOf]
      have B5 := B3.drew.call0 (Nat.le_refl _) hb5
      clear hv e15
      refine wpAny_take (i := 16) (v := ?_) rfl (by kernel_rfl) (by kernel_rfl) (by kernel_rfl) (fun _ _ _ h => h) (Or.inl ⟨by rfl, ?_⟩) ?_
      rotate_left
      · intro w
        go_simp
        all_goals with_reducible rfl
      refine wpAny_done (by kernel_rfl) ?_ _
      conv =>
        arg 5
        simp [go_sem]
      go_wp2_with fail
      go_ret
      exact ⟨rfl, B5⟩
end Go.Proofs.YtcngnpkpaliflaaDoor
