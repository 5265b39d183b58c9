/-
  The walk of HashSumMatchesSpec: it returns true and keeps what was there. No condition.
-/
import Derived.Test.YtcngnpkpaliflaaDoorWShort
import Derived.Test.YtcngnpkpaliflaaDoorOps
namespace Go.Proofs.YtcngnpkpaliflaaDoor
open Go.RowKit

/-- What the walks ask of memory, with the reference's constants. -/
structure Mem3 (w : World) : Prop where
  mem : Mem w
  ref : KonsR w
theorem Mem3.call0 {w w' : World} (h : Mem3 w) (hb : Below w.heap.size w w') : Mem3 w' := ⟨h.mem.call0 hb, h.ref.below hb (by have := h.mem.big; omega)⟩
theorem Mem3.alloc {w : World} (h : Mem3 w) (o : Obj) : Mem3 (w.alloc o) := h.call0 ((Below.refl _ _).alloc (Nat.le_refl _) o)
theorem Mem3.drewOn {w w' : World} (h : Mem3 w) (hb : Below w.drew.heap.size w.drew w') : Mem3 w' := ⟨h.mem.drewOn hb, KonsR.below (w := w.drew) h.ref hb (by have := h.mem.big; show 0 < w.heap.size; omega)⟩

theorem nm30 : (Tryd.f30.name == "runtime.NumGoroutine") = false := by kernel_rfl
theorem bd30 : Tryd.f30.body.isNone = false := by kernel_rfl

set_option maxRecDepth 20000 in
set_option maxHeartbeats 4000000 in
theorem sumSpec_walk (l : List UInt8) (a : Option Addr) (n cap : Nat) (w : World) (hrd : Rd w a n cap 1 (byteVals l)) (hM : Mem3 w) :
    Calls Tryd.prog 11 #[.slice a n cap] w (RetBool true w) := by
  have hmax := hrd.lenMax
  have HL := Box.mk (show l.length = n from hrd.blen)
  have R0 := Box.mk hrd; clear hrd
  by_cases hn : n ≤ 600
  · have hcv := fun (w : World) (h : Rd w a n cap 1 (byteVals l)) => run_string_rd (P := Tryd.prog) (src := 22) (dst := 9) (e := 5) (by kernel_rfl) (by kernel_rfl) (by kernel_rfl) h
    go_enter Tryd.func11, Tryd.ntmps11
    go_wp2_with fail
    refine (sanity_any w hM.mem).mono ?_
    rintro e w1 ⟨rfl, hb1⟩
    have R1 := R0.out.call0 hb1
    have hcv1 := hcv w1 R1
    go_wp2_with fail
    refine (sum_any l a n cap w1 R1 (by omega) (hM.call0 hb1).mem.kons (hM.call0 hb1).mem.big).mono ?_
    rintro e w2 ⟨rfl, hb2⟩
    have B2 := hb1.trans (hb2.mono hb1.size)
    have hl32 := Box.mk (show (byteVals (sha l)).length = 32 from by rw [byteVals_length, sha_length])
    have ho1 := Box.mk (byteVals_one (sha l))
    have c3 := Blk.new (w := w2) (ty := 47) (cs := byteVals (sha l)) (k := w2.heap.size) rfl rfl
    have B3 := B2.alloc B2.size (.cells (byteVals (sha l)).toArray 47)
    clear hcv hcv1 hb1 hb2 R1 B2
    go_wp2_with (first
      | ((with_reducible show wpList _ _ _ _ _ _); refine wpList_alloc (o := ⟨some 5, .alloc 47, _, _, _, _⟩) rfl 47 rfl zero47 (zc := zero32.toArray) rfl ?_)
      | ((with_reducible show wpList _ _ _ _ _ _); refine wpList_store_fresh (o := ⟨none, .store 47 (.tmp 5) (.tmp 14), _, _, _, _⟩) (cs := byteVals (sha l)) rfl 47 _ _ rfl rfl agg47.info rfl rfl rfl hl32.out ho1.out ?_))
    obtain ⟨g, hg⟩ : ∃ g, g = w2.heap.size := ⟨_, rfl⟩
    rw [← hg] at c3
    rw [← hg]
    generalize w2.alloc (.cells (byteVals (sha l)).toArray 47) = w3 at *
    clear hg
    have R3 := R0.out.below B3 (Nat.le_refl _)
    have M3 := hM.call0 B3
    refine wp_region_any (by kernel_rfl) ?_
    (change wpAny _ _ _ _ _ _ _ (World.drew _))
    refine wpAny_take (i := 0) (v := ?_) rfl (by kernel_rfl) (by kernel_rfl) (by kernel_rfl) (fun _ _ _ h => h) (Or.inl ⟨by rfl, ?_⟩) ?_
    rotate_left
    · intro w
      go_simp
      all_goals with_reducible rfl
    refine wpAny_take (i := 1) (v := ?_) rfl (by kernel_rfl) (by kernel_rfl) (by kernel_rfl) (fun _ _ _ h => h) (Or.inl ⟨by rfl, ?_⟩) ?_
    rotate_left
    · intro w
      go_simp
      all_goals with_reducible rfl
    conv =>
      arg 7
      simp [go_sem]
    refine wpAny_ext [2, 3, 4, 5, 6, 7, 8, 9, 10, 11, 12, 13] (fun op v wx => match op with
      | 2 => v = .agg (byteVals (sha l)).toArray
      | 3 => v = .string ⟨l.toArray⟩
      | 4 => ∃ a2 cap2, v = .slice a2 n cap2 ∧ Rd wx a2 n cap2 1 (byteVals l)
      | 5 => v = .agg (byteVals (sha l)).toArray
      | 9 => v = .slice a n cap
      | 10 => v = .string ⟨l.toArray⟩
      | 11 => v = .string ⟨l.toArray⟩
      | _ => v = .bool true) (by kernel_rfl) (by rfl) ?_ ?_ (fuel := 1) rfl ?_
    · intro i hi
      simp only [List.mem_cons, List.not_mem_nil, or_false] at hi
      rcases hi with rfl | rfl | rfl | rfl | rfl | rfl | rfl | rfl | rfl | rfl | rfl | rfl
      · refine StepOK.mk _ rfl fun a' wx hb hfr hdp K hK' => ?_
        have e16 : a'.tmps.getD 16 undef = .bool true := hfr 16 (by decide)
        have e5 : a'.tmps.getD 5 undef = .pointer (some ⟨g, 0, none⟩) := hfr 5 (by decide)
        exact oper_load_agg (wanted_of rfl rfl e16) 47 (.tmp 5) rfl agg47 e5 hl32.out (c3.drew.below hb (Nat.le_refl _)).agg (hK'.out _ _ rfl (Below.refl _ _))
      · refine StepOK.mk _ rfl fun a' wx hb hfr hdp K hK' => ?_
        have e16 : a'.tmps.getD 16 undef = .bool true := hfr 16 (by decide)
        have e4 : a'.tmps.getD 4 undef = .string ⟨l.toArray⟩ := hfr 4 (by decide)
        exact oper_move (wanted_of rfl rfl e16) (.tmp 4) rfl e4 (hK'.out _ _ rfl (Below.refl _ _))
      · refine StepOK.mk _ rfl fun a' wx hb hfr hdp K hK' => ?_
        have e16 : a'.tmps.getD 16 undef = .bool true := hfr 16 (by decide)
        have e18 := hdp 3 (by decide) (by kernel_rfl) 18 rfl
        refine oper_str_bytes (wanted_of rfl rfl e16) 9 22 (.tmp 18) rfl u9 sl22.ht u5' (l := l) (by rw [HL.out]; unfold maxLen; omega) e18 ?_
        intro a2 c2 w2 R2 hb2
        rw [HL.out] at R2 ⊢
        exact hK'.out _ _ ⟨_, _, rfl, R2⟩ hb2
      · refine StepOK.mk _ rfl fun a' wx hb hfr hdp K hK' => ?_
        have e16 : a'.tmps.getD 16 undef = .bool true := hfr 16 (by decide)
        obtain ⟨a2, c2, e19, R2⟩ := hdp 4 (by decide) (by kernel_rfl) 19 rfl
        refine oper_call (wanted_of rfl rfl e16) 30 [.tmp 19] #[22] rfl (vs := [.slice a2 n c2]) (by show [a'.tmps.getD 19 undef] = _; rw [e19]) Tryd.func30 nm30 bd30 (refSum_any l a2 n c2 wx R2 (by omega) (M3.drewOn hb).ref (by have := (M3.drewOn hb).mem.big; omega)) ?_
        rintro e wy ⟨rfl, hby⟩
        exact ⟨_, rfl, hK'.out _ _ rfl hby⟩
      · refine StepOK.mk _ rfl fun a' wx hb hfr hdp K hK' => ?_
        have e16 : a'.tmps.getD 16 undef = .bool true := hfr 16 (by decide)
        have e17 := hdp 2 (by decide) (by kernel_rfl) 17 rfl
        have e20 := hdp 5 (by decide) (by kernel_rfl) 20 rfl
        exact oper_val (wanted_of rfl rfl e16) (run_eql_refl ar47 u5' sz5 eg47 (xs := sha l) (sha_length _) (.tmp 17) (.tmp 20) 47 rfl e17 e20 _) (hK'.out _ _ rfl (Below.refl _ _))
      · refine StepOK.mk _ rfl fun a' wx hb hfr hdp K hK' => ?_
        have e16 : a'.tmps.getD 16 undef = .bool true := hfr 16 (by decide)
        have e21 := hdp 6 (by decide) (by kernel_rfl) 21 rfl
        exact oper_pick rfl (.tmp 16) (.tmp 21) (.const (.bool false)) rfl e16 e21 (hK'.out _ _ rfl (Below.refl _ _))
      · refine StepOK.mk _ rfl fun a' wx hb hfr hdp K hK' => ?_
        have e22 := hdp 7 (by decide) (by kernel_rfl) 22 rfl
        exact oper_move rfl (.tmp 22) rfl e22 (hK'.out _ _ rfl (Below.refl _ _))
      · refine StepOK.mk _ rfl fun a' wx hb hfr hdp K hK' => ?_
        have e23 := hdp 8 (by decide) (by kernel_rfl) 23 rfl
        have e0 : a'.tmps.getD 0 undef = .slice a n cap := hfr 0 (by decide)
        exact oper_move (wanted_of rfl rfl e23) (.tmp 0) rfl e0 (hK'.out _ _ rfl (Below.refl _ _))
      · refine StepOK.mk _ rfl fun a' wx hb hfr hdp K hK' => ?_
        have e23 := hdp 8 (by decide) (by kernel_rfl) 23 rfl
        have e24 := hdp 9 (by decide) (by kernel_rfl) 24 rfl
        have hst := run_string_rd (P := Tryd.prog) (src := 22) (dst := 9) (e := 5) (by kernel_rfl) (by kernel_rfl) (by kernel_rfl) ((show Rd w3.drew a n cap 1 (byteVals l) from R3.drew).below hb (Nat.le_refl _))
        exact oper_convert (wanted_of rfl rfl e23) 22 9 (.tmp 24) rfl e24 hst (hK'.out _ _ rfl (Below.refl _ _))
      · refine StepOK.mk _ rfl fun a' wx hb hfr hdp K hK' => ?_
        have e23 := hdp 8 (by decide) (by kernel_rfl) 23 rfl
        have e4 : a'.tmps.getD 4 undef = .string ⟨l.toArray⟩ := hfr 4 (by decide)
        exact oper_move (wanted_of rfl rfl e23) (.tmp 4) rfl e4 (hK'.out _ _ rfl (Below.refl _ _))
      · refine StepOK.mk _ rfl fun a' wx hb hfr hdp K hK' => ?_
        have e23 := hdp 8 (by decide) (by kernel_rfl) 23 rfl
        have e25 := hdp 10 (by decide) (by kernel_rfl) 25 rfl
        have e26 := hdp 11 (by decide) (by kernel_rfl) 26 rfl
        exact oper_val (wanted_of rfl rfl e23) (run_eql_str (l := l) (.tmp 25) (.tmp 26) 9 rfl e25 e26 _) (hK'.out _ _ rfl (Below.refl _ _))
      · refine StepOK.mk _ rfl fun a' wx hb hfr hdp K hK' => ?_
        have e23 := hdp 8 (by decide) (by kernel_rfl) 23 rfl
        have e27 := hdp 12 (by decide) (by kernel_rfl) 27 rfl
        exact oper_pick rfl (.tmp 23) (.tmp 27) (.const (.bool false)) rfl e23 e27 (hK'.out _ _ rfl (Below.refl _ _))
    · intro i hi v wx wy hv hb
      simp only [List.mem_cons, List.not_mem_nil, or_false] at hi
      rcases hi with rfl | rfl | rfl | rfl | rfl | rfl | rfl | rfl | rfl | rfl | rfl | rfl
      · exact hv
      · exact hv
      · obtain ⟨a2, c2, e, R⟩ := hv; exact ⟨a2, c2, e, R.call0 hb⟩
      all_goals exact hv
    · intro vs w5 hv hb5
      have e13 : vs 13 = .bool true := hv 13 (by decide)
      conv =>
        arg 7
        simp [go_sem, e13, dstOf]
      have B5 := B3.drew.call0 (Nat.le_refl _) hb5
      clear hv e13
      refine wpAny_take (i := 14) (v := ?_) rfl (by kernel_rfl) (by kernel_rfl) (by kernel_rfl) (fun _ _ _ h => h) (Or.inl ⟨by rfl, ?_⟩) ?_
      rotate_left
      · intro w
        go_simp
        all_goals with_reducible rfl
      refine wpAny_done (by kernel_rfl) ?_ _
      conv =>
        arg 5
        simp [go_sem]
      go_wp2_with fail
      go_ret
      exact ⟨rfl, B5⟩
  · have hn' : 600 < n := by omega
    go_enter Tryd.func11, Tryd.ntmps11
    go_wp2_with fail
    refine (sanity_any w hM.mem).mono ?_
    rintro e w1 ⟨rfl, hb1⟩
    go_wp2_with fail
    go_ret
    exact ⟨rfl, hb1⟩
end Go.Proofs.YtcngnpkpaliflaaDoor
