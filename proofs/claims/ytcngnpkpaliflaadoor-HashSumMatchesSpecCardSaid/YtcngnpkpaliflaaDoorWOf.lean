/-
  The walk of Of. No condition.
-/
import Derived.Test.YtcngnpkpaliflaaDoorWSum
import Derived.Test.YtcngnpkpaliflaaDoorWBytes
import Derived.Test.YtcngnpkpaliflaaDoorExt
namespace Go.Proofs.YtcngnpkpaliflaaDoor
open Go.RowKit

theorem nm48 : (Tryd.f48.name == "runtime.NumGoroutine") = false := by kernel_rfl
theorem bd48 : Tryd.f48.body.isNone = false := by kernel_rfl
def zero16 : List Value := List.replicate 16 (Value.int .u8 0)
theorem zero58 : (Tryd.prog.info? 58).map (·.zero) = some (some (.agg zero16.toArray)) := by kernel_rfl
theorem ar47 : Tryd.prog.underlying 47 = some (.array 32 5) := by kernel_rfl
theorem agg58 : AggT Tryd.prog 58 16 := ⟨by kernel_rfl, by kernel_rfl⟩

/-- What Of hashes. -/
def inputOf (tag : Int) (l : List (List UInt8)) : List UInt8 := UInt8.ofNat (tag % 256).toNat :: (l.map encB).flatten
/-- A digest: the first sixteen bytes. -/
def digest (m : List UInt8) : List UInt8 := (sha m).take 16

set_option maxRecDepth 20000 in
set_option maxHeartbeats 1000000 in
theorem of_any (tag : Int) (l : List (List UInt8)) (a : Option Addr) (n cap : Nat) (w : World) (hrd : Rd w a n cap 1 (bstrVals l)) (hs : (l.map encB).flatten.length ≤ 1000000000) (hK : Kons w) (hw : 2 < w.heap.size) :
    Calls Tryd.prog 34 #[.int .i64 tag, .slice a n cap] w (RetV (.agg (byteVals (digest (inputOf tag l))).toArray) w) := by
  have b1 := Blk.new (w := w) (ty := 58) (cs := zero16) (k := w.heap.size) rfl rfl
  have B1 := (Below.refl w.heap.size w).alloc (Nat.le_refl _) (.cells zero16.toArray 58)
  have z1 : (w.alloc (.cells zero16.toArray 58)).heap.size = w.heap.size + 1 := by simp
  have hrd1 := hrd.alloc (.cells zero16.toArray 58)
  have hK1 : Kons (w.alloc (.cells zero16.toArray 58)) := hK.alloc _
  have hbyte : IntKind.u8.wrap tag = ((UInt8.ofNat (tag % 256).toNat).toNat : Int) := by rw [u8wrap]; simp; omega
  have HI := Box.mk (show inputOf tag l = [UInt8.ofNat (tag % 256).toNat] ++ (l.map encB).flatten from rfl)
  generalize UInt8.ofNat (tag % 256).toNat = c at *
  go_enter Tryd.func34, Tryd.ntmps34
  go_wp2_with (first
    | ((with_reducible show wpList _ _ _ _ _ _); refine wpList_alloc (o := ⟨some 4, .alloc 58, _, _, _, _⟩) rfl 58 rfl zero58 (zc := zero16.toArray) rfl ?_; generalize w.alloc (.cells zero16.toArray 58) = w1 at *))
  refine wp_region_any (by kernel_rfl) ?_
  (change wpAny _ _ _ _ _ _ _ (World.drew _))
  refine wpAny_take (i := 1) (v := ?_) rfl (by kernel_rfl) (by kernel_rfl) (by kernel_rfl) (fun _ _ _ h => h) (Or.inl ⟨by rfl, ?_⟩) ?_
  rotate_left
  · intro w
    go_simp
    all_goals with_reducible rfl
  refine wpAny_take (i := 2) (v := ?_) rfl (by kernel_rfl) (by kernel_rfl) (by kernel_rfl) (fun _ _ _ h => h) (Or.inl ⟨by rfl, ?_⟩) ?_
  rotate_left
  · intro w
    go_simp
    all_goals with_reducible rfl
  conv =>
    arg 7
    simp [go_sem]
  refine wpAny_ext [0, 3, 4, 5, 6] (fun i v wx => match i with
    | 0 => ∃ cs, Strm [] cs ∧ v = .agg cs.toArray
    | 3 => ∃ g, v = .slice (some ⟨g, 0, none⟩) 1 1 ∧ Blk wx g 5 (byteVals [c])
    | 4 => v = .string ⟨[c].toArray⟩
    | 5 => ∃ cs, Strm [c] cs ∧ v = .agg cs.toArray
    | _ => ∃ p, v = .pointer (some ⟨p, 0, none⟩) ∧ w.heap.size < p ∧ Blk wx p 53 strmZero.toList) (by kernel_rfl) (by rfl) ?_ ?_ (fuel := 1) rfl ?_
  · intro i hi
    simp only [List.mem_cons, List.not_mem_nil, or_false] at hi
    rcases hi with rfl | rfl | rfl | rfl | rfl
    · refine StepOK.mk _ rfl fun a' wx hb hfr hdp K hK' => ?_
      refine oper_call rfl 31 [] #[] rfl (vs := []) rfl Tryd.func31 nm31 bd31 (begin_s _) ?_
      rintro e wy ⟨cs, hS, rfl, hby⟩
      exact ⟨_, rfl, hK'.out _ _ ⟨cs, hS, rfl⟩ hby⟩
    · refine StepOK.mk _ rfl fun a' wx hb hfr hdp K hK' => ?_
      have e11 : a'.tmps.getD 11 undef = .int .u8 (c.toNat : Int) := hfr 11 (by decide)
      refine oper_lit1 rfl 22 (.tmp 11) rfl sl22 (v := .int .u8 (c.toNat : Int)) (by show (a'.tmps.getD 11 undef).cells = _; rw [e11]; rfl) (hK'.out _ _ ⟨_, rfl, Blk.new rfl rfl⟩ ((Below.refl _ _).alloc (Nat.le_refl _) _))
    · refine StepOK.mk _ rfl fun a' wx hb hfr hdp K hK' => ?_
      obtain ⟨g, e12, hg⟩ := hdp 3 (by decide) (by kernel_rfl) 12 rfl
      have hr : Rd wx (some ⟨g, 0, none⟩) 1 1 1 (byteVals [c]) := ⟨rfl, by omega, by unfold maxLen; omega, fun h => (by cases h), fun ad ha j u hu => by
        simp only [Option.some.injEq] at ha; subst ha; exact hg.agg j u hu⟩
      have hst := run_string_rd (P := Tryd.prog) (src := 22) (dst := 9) (e := 5) (by kernel_rfl) (by kernel_rfl) (by kernel_rfl) hr
      exact oper_convert rfl 22 9 (.tmp 12) rfl e12 hst (hK'.out _ _ rfl (Below.refl _ _))
    · refine StepOK.mk _ rfl fun a' wx hb hfr hdp K hK' => ?_
      obtain ⟨cs, hS, e9⟩ := hdp 0 (by decide) (by kernel_rfl) 9 rfl
      have e13 := hdp 4 (by decide) (by kernel_rfl) 13 rfl
      refine oper_call rfl 32 [.tmp 9, .tmp 13] #[53, 9] rfl (vs := [.agg cs.toArray, .string ⟨[c].toArray⟩]) (by show [a'.tmps.getD 9 undef, a'.tmps.getD 13 undef] = _; rw [e9, e13]) Tryd.func32 nm32 bd32 (add_s hS [c] wx (by simp) (Kons.call0 (w := w1.drew) hK1 hb) (by have := hb.size; simp at this; omega)) ?_
      rintro e wy ⟨cs', hS', rfl, hby⟩
      exact ⟨_, rfl, hK'.out _ _ ⟨cs', hS', rfl⟩ hby⟩
    · refine StepOK.mk _ rfl fun a' wx hb hfr hdp K hK' => ?_
      refine oper_alloc rfl 53 rfl zero53 (zc := strmZero) rfl (hK'.out _ _ ⟨_, rfl, ?_, Blk.new rfl (by simp)⟩ ((Below.refl _ _).alloc (Nat.le_refl _) _))
      have := hb.size; simp at this; omega
  · intro i hi v wx wy hv hb
    simp only [List.mem_cons, List.not_mem_nil, or_false] at hi
    rcases hi with rfl | rfl | rfl | rfl | rfl
    · exact hv
    · obtain ⟨g, e, hg⟩ := hv; exact ⟨g, e, hg.call0 hb⟩
    · exact hv
    · exact hv
    · obtain ⟨p, e, hp, hg⟩ := hv; exact ⟨p, e, hp, hg.call0 hb⟩
  · intro vs w2 hv hb2
    obtain ⟨cs2, S2, e5⟩ := hv 5 (by decide)
    obtain ⟨p, e6, hp, bp⟩ := hv 6 (by decide)
    conv =>
      arg 7
      simp [go_sem, e5, e6, dstOf]
    generalize vs 0 = v0 at *
    generalize vs 3 = v3 at *
    generalize vs 4 = v4 at *
    clear e5 e6 hv
    have b2 := (b1.drew.call0 hb2).rowOther (k := p) (by omega) cs2.toArray
    have B2 := below_setRow (B1.drew.call0 (Nat.le_refl _) hb2) (g := p) (by omega) cs2.toArray
    have bp2 := bp.row cs2
    refine wpAny_ready (rs := [7]) (by kernel_rfl) (by simp) (AllReady.cons rfl (fun K hK' => oper_store_row (by rfl) 53 (.tmp 5) (.tmp 14) rfl rfl agg53.info bp size_zero53 rfl (cs := cs2) rfl S2.len S2.one (hK' _ _ ?_)) AllReady.nil)
    refine wpAny_done (by kernel_rfl) ?_ _
    clear hK' K bp b1 B1 hb2
    generalize w2.setRow p cs2.toArray = w3 at *
    have HL := Box.mk (show l.length = n from by have h := hrd.hlen; rw [bstrVals_length] at h; omega)
    have hn := hrd.lenMax
    go_wp2_with fail
    go_loopw [17] (fun i wr => ∃ (k : Nat) (cs : List Value), k ≤ n ∧ i = .int .i64 k ∧ Strm ([c] ++ ((l.take k).map encB).flatten) cs ∧ Blk wr p 53 cs ∧ Blk wr w.heap.size 58 zero16 ∧ Below w.heap.size w wr)
      (fun i _ => n - (intOf i).toNat)
    case atStart => exact ⟨0, cs2, Nat.zero_le _, rfl, by simpa using S2, bp2, b2, B2⟩
    case round =>
      clear bp2 b2 B2 S2
      obtain ⟨k, cs, hk, rfl, S, bp, bz, B⟩ := hrel
      by_cases hlt : k < n
      · obtain ⟨g, off, rfl, hc⟩ := (hrd.below B (Nat.le_refl _)).strAt k (by rw [HL.out]; exact hlt)
        have hT := Lib.hid (show ((l.take (k + 1)).map encB).flatten = ((l.take k).map encB).flatten ++ encB (l[k]'(by rw [HL.out]; exact hlt)) from by rw [List.take_succ_eq_append_getElem (by rw [HL.out]; exact hlt), List.map_append, List.flatten_append]; simp)
        generalize (l[k]'(by rw [HL.out]; exact hlt)) = x at *
        go_wp2_with fail
        have hle : (((l.take (k + 1)).map encB).flatten).length ≤ 1000000000 := by
          refine Nat.le_trans ?_ hs
          conv => rhs; rw [← List.take_append_drop (k + 1) l, List.map_append, List.flatten_append, List.length_append]
          exact Nat.le_add_right _ _
        rw [hT.out, List.length_append] at hle
        have hxl : x.length ≤ (encB x).length := by unfold encB; rw [List.length_append]; omega
        have hT2 := Box.mk (show [c] ++ ((l.take (k + 1)).map encB).flatten = ([c] ++ ((l.take k).map encB).flatten) ++ encB x from by rw [hT.out, List.append_assoc])
        have hZ := B.size
        generalize ([c] ++ ((l.take k).map encB).flatten) = m at *
        refine wp_region_any (by kernel_rfl) ?_
        (change wpAny _ _ _ _ _ _ _ (World.drew _))
        refine wpAny_take (i := 1) (v := ?_) rfl (by kernel_rfl) (by kernel_rfl) (by kernel_rfl) (fun _ _ _ h => h) (Or.inl ⟨by rfl, ?_⟩) ?_
        rotate_left
        · intro w
          go_simp
          all_goals with_reducible rfl
        conv =>
          arg 7
          simp [go_sem]
        refine wpAny_ext [0, 2, 3, 4] (fun i v wx => match i with
          | 0 => v = .agg cs.toArray
          | 2 => ∃ a cap, v = .slice a (encB x).length cap ∧ Rd wx a (encB x).length cap 1 (byteVals (encB x))
          | 3 => v = .string ⟨(encB x).toArray⟩
          | _ => ∃ cs', Strm (m ++ encB x) cs' ∧ v = .agg cs'.toArray) (by kernel_rfl) (by rfl) ?_ ?_ (fuel := 1) rfl ?_
        · intro i hi
          simp only [List.mem_cons, List.not_mem_nil, or_false] at hi
          rcases hi with rfl | rfl | rfl | rfl
          · refine StepOK.mk _ rfl fun a' wx hb hfr hdp K hK' => ?_
            have e5 : a'.tmps.getD 5 undef = .pointer (some ⟨p, 0, none⟩) := hfr 5 (by decide)
            exact oper_load_agg rfl 53 (.tmp 5) rfl agg53 e5 S.len (bp.drew.below hb (Nat.le_refl _)).agg (hK'.out _ _ rfl (Below.refl _ _))
          · refine StepOK.mk _ rfl fun a' wx hb hfr hdp K hK' => ?_
            have e22 : a'.tmps.getD 22 undef = .string ⟨x.toArray⟩ := hfr 22 (by decide)
            refine oper_call rfl 48 [.tmp 22] #[9] rfl (vs := [.string ⟨x.toArray⟩]) (by show [a'.tmps.getD 22 undef] = _; rw [e22]) Tryd.func48 nm48 bd48 (wBytes_any ⟨x.toArray⟩ wx (by rw [str_size]; omega)) ?_
            intro e wy hr
            rw [str_to] at hr
            obtain ⟨a2, cap2, rfl, R2, hby⟩ := hr.got
            exact ⟨_, rfl, hK'.out _ _ ⟨_, _, rfl, R2⟩ hby⟩
          · refine StepOK.mk _ rfl fun a' wx hb hfr hdp K hK' => ?_
            obtain ⟨a2, cap2, e23, R2⟩ := hdp 2 (by decide) (by kernel_rfl) 23 rfl
            have hst := run_string_rd (P := Tryd.prog) (src := 22) (dst := 9) (e := 5) (by kernel_rfl) (by kernel_rfl) (by kernel_rfl) R2
            exact oper_convert rfl 22 9 (.tmp 23) rfl e23 hst (hK'.out _ _ rfl (Below.refl _ _))
          · refine StepOK.mk _ rfl fun a' wx hb hfr hdp K hK' => ?_
            have e21 := hdp 0 (by decide) (by kernel_rfl) 21 rfl
            have e24 := hdp 3 (by decide) (by kernel_rfl) 24 rfl
            refine oper_call rfl 32 [.tmp 21, .tmp 24] #[53, 9] rfl (vs := [.agg cs.toArray, .string ⟨(encB x).toArray⟩]) (by show [a'.tmps.getD 21 undef, a'.tmps.getD 24 undef] = _; rw [e21, e24]) Tryd.func32 nm32 bd32 (add_s S (encB x) wx (by omega) (Kons.call0 (w := wr.drew) (Kons.drew (Kons.below hK B (Nat.le_refl _))) hb) (by have := hb.size; simp at this; omega)) ?_
            rintro e wy ⟨cs', hS', rfl, hby⟩
            exact ⟨_, rfl, hK'.out _ _ ⟨cs', hS', rfl⟩ hby⟩
        · intro i hi v wx wy hv hb
          simp only [List.mem_cons, List.not_mem_nil, or_false] at hi
          rcases hi with rfl | rfl | rfl | rfl
          · exact hv
          · obtain ⟨a2, cap2, e, R2⟩ := hv; exact ⟨a2, cap2, e, R2.call0 hb⟩
          · exact hv
          · exact hv
        · intro vs w2 hv hb2
          obtain ⟨cs3, S3, e25⟩ := hv 4 (by decide)
          conv =>
            arg 7
            simp [go_sem, e25, dstOf]
          generalize vs 0 = v0' at *
          generalize vs 2 = v2' at *
          generalize vs 3 = v3' at *
          clear hv e25
          have b2 := (bz.drew.call0 hb2).rowOther (k := p) (by omega) cs3.toArray
          have B2 := below_setRow (B.drew.call0 (Nat.le_refl _) hb2) (g := p) (by omega) cs3.toArray
          have bp' := bp.drew.call0 hb2
          have bp2 := bp'.row cs3
          refine wpAny_ready (rs := [5]) (by kernel_rfl) (by simp) (AllReady.cons rfl (fun K hK' => oper_store_row (by rfl) 53 (.tmp 5) (.tmp 25) rfl rfl agg53.info bp' S.len rfl (cs := cs3) rfl S3.len S3.one (hK' _ _ ?_)) AllReady.nil)
          refine wpAny_done (by kernel_rfl) ?_ _
          clear hK' K bp bp' bz B hb2
          go_wp2_with fail
          go_roundw
          case rel => exact ⟨k + 1, cs3, by omega, by go_num, by rw [hT2.out]; exact S3, bp2, b2, B2⟩
          case measure => simp [intOf]; omega
      · have hkn : k = n := by omega
        subst hkn
        have hA := Box.mk (show [c] ++ ((l.take k).map encB).flatten = inputOf tag l from by rw [HI.out, List.take_of_length_le (by rw [HL.out]; exact Nat.le_refl _)])
        rw [hA.out] at S
        go_wp2_with (first
          | ((with_reducible show wpList _ _ _ _ _ _); refine wpList_load_agg (o := ⟨some 27, _, _, _, _, _⟩) rfl 53 _ rfl agg53 rfl (cs := cs) S.len bp.agg ?_))
        have hZ := B.size
        have hil : (inputOf tag l).length ≤ 1099511627776 := by rw [HI.out, List.length_append]; simp only [List.length_singleton]; omega
        refine (sum_s S wr hil (Kons.below hK B (Nat.le_refl _)) (by omega)).mono ?_
        rintro e w4 ⟨rfl, hb4⟩
        have bz4 := bz.call0 hb4
        have B4 := B.call0 (Nat.le_refl _) hb4
        have hZ4 := B4.size
        have hzb := bz4.lt
        have hl32 := Box.mk (show (byteVals (sha (inputOf tag l))).length = 32 from by rw [byteVals_length, sha_length])
        have ho1 := Box.mk (byteVals_one (sha (inputOf tag l)))
        have htk := Box.mk (show ((byteVals (sha (inputOf tag l))).drop 0).take 16 = byteVals (digest (inputOf tag l)) from by rw [List.drop_zero, digest]; simp [byteVals, List.map_take])
        have hl16 := Box.mk (show (byteVals (digest (inputOf tag l))).length = 16 from by rw [byteVals_length, digest, List.length_take, sha_length]; rfl)
        have ho2 := Box.mk (byteVals_one (digest (inputOf tag l)))
        clear S bp bz B hb4 hrd hrd1
        generalize byteVals (sha (inputOf tag l)) = r32 at *
        generalize byteVals (digest (inputOf tag l)) = r16 at *
        have ar1 := run_arrayAt (P := Tryd.prog) (arr := 58) (e := 5) (n := 16) (by kernel_rfl) (some ⟨w4.heap.size, 0, none⟩) 16 32 (by omega)
        have bz5 := bz4.alloc (.cells r32.toArray 47)
        have B5 := B4.new (Nat.le_refl _) (.cells r32.toArray 47)
        have b8 := Blk.new (w := w4) (ty := 47) (cs := r32) (k := w4.heap.size) rfl rfl
        go_wp2_with (first
          | ((with_reducible show wpList _ _ _ _ _ _); refine wpList_alloc (o := ⟨some 8, .alloc 47, _, _, _, _⟩) rfl 47 rfl zero47 (zc := zero32.toArray) rfl ?_)
          | ((with_reducible show wpList _ _ _ _ _ _); refine wpList_store_fresh (o := ⟨none, .store 47 (.tmp 8) (.tmp 28), _, _, _, _⟩) (cs := r32) rfl 47 _ _ rfl rfl agg47.info rfl rfl rfl hl32.out ho1.out ?_; generalize w4.alloc (.cells r32.toArray 47) = w5 at *)
          | ((with_reducible show wpList _ _ _ _ _ _); refine wpList_slice_arr (o := ⟨some 29, _, _, _, _, _⟩) rfl 47 (.tmp 8) none (some (.const (.int .i64 16))) rfl ar47 sz5 rfl none (some 16) rfl rfl 0 16 rfl rfl (by omega) (by omega) (by omega) ?_)
          | ((with_reducible show wpList _ _ _ _ _ _); refine wpList_load_agg (o := ⟨some 31, _, _, _, _, _⟩) rfl 58 _ rfl agg58 rfl (cs := r16) hl16.out (by rw [← htk.out]; exact b8.part 0 16) ?_)
          | ((with_reducible show wpList _ _ _ _ _ _); refine wpList_store_row (o := ⟨none, .store 58 (.tmp 4) (.tmp 31), _, _, _, _⟩) rfl 58 _ _ rfl rfl agg58.info bz5 rfl rfl (cs := r16) rfl hl16.out ho2.out ?_))
        exact bodyPost_ret (results_cell1 (g := w.heap.size) (cs := r16) rfl _ rfl (bz5.row r16) (by rw [hl16.out]; exact agg58)) rfl ⟨rfl, below_setRow B5 (Nat.le_refl _) _⟩
end Go.Proofs.YtcngnpkpaliflaaDoor
