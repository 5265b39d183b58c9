/-
  Chapter 20: Extend, SameRow, the reference's Fits. No condition.
-/
import Derived.Test.YtgimkipekoabbaaC20
import Derived.Test.YtgimkipekoabbaaLibA
import Derived.Test.YtgimkipekoabbaaWFits
import Derived.Test.YtgimkipekoabbaaR20
/-
  The walks of Extend, of the reference's Extend, of SameRow. No condition.
-/
namespace Go.Proofs.Ytgimkipekoabbaa
open Go.RowKit

def zval : Val := ⟨0, 0, []⟩
theorem zerosOf_val (m : Nat) : zerosOf (.agg #[.int .i64 0, .int .i64 0, .string ⟨#[]⟩]) m = recC Val.enc (List.replicate m zval) := by
  have h : ∀ m, (recC Val.enc (List.replicate m zval)).length = m * 3 := fun m => by rw [recC_length Val.enc_len, List.length_replicate]
  apply List.ext_getElem
  · rw [zerosOf_len, h]; rfl
  · intro i h1 h2
    have h3 : i < m * 3 := by rw [h] at h2; exact h2
    have h4 : i = i / 3 * 3 + i % 3 := by omega
    have h5 := recC_at Val.enc_len (List.replicate m zval) (i / 3) (by rw [List.length_replicate]; omega) (i % 3) (by omega)
    rw [← h4] at h5
    have h6 : (List.replicate m zval).getD (i / 3) default = zval := by
      rw [List.getD_eq_getElem?_getD, List.getElem?_replicate, if_pos (by omega)]; rfl
    rw [h6, List.getElem?_eq_getElem h2] at h5
    have h7 : (zerosOf (.agg #[.int .i64 0, .int .i64 0, .string ⟨#[]⟩]) m)[i]? = (Val.enc zval)[i % 3]? := by
      unfold zerosOf Builtin.zeroCells
      have hs : (Value.agg #[.int .i64 0, .int .i64 0, .string ⟨#[]⟩]).cells = #[.int .i64 0, .int .i64 0, .string ⟨#[]⟩] := rfl
      rw [hs]
      have hi : i % 3 = 0 ∨ i % 3 = 1 ∨ i % 3 = 2 := by omega
      rw [Array.getElem?_toList, Array.getElem?_map, Array.getElem?_range, if_pos (by simpa using h3)]
      rcases hi with hi | hi | hi <;> simp [hi, Val.enc, zval]
    rw [List.getElem?_eq_getElem h1] at h7
    rw [← h5] at h7
    exact Option.some.inj h7
theorem zeroV_one : ∀ u ∈ (Value.agg #[.int .i64 0, .int .i64 0, .string ⟨#[]⟩]).cells.toList, u.oneCell' = true := by
  intro u hu; simp [Value.cells] at hu; rcases hu with rfl | rfl | rfl <;> rfl

/-- The row with nulls up to n values. -/
def extT (n : Nat) (r : List Val) : List Val := r ++ List.replicate (n - r.length) zval

/-- '!=' of two values. -/
theorem run_neqV (x y : Val) (w : World) : (binOp .neq 40 (.agg #[.int .i64 x.kind, .int .i64 x.n, .string ⟨x.s.toArray⟩]) (.agg #[.int .i64 y.kind, .int .i64 y.n, .string ⟨y.s.toArray⟩])).run Try.prog w = .ok (.bool (!decide (x = y))) w := by
  obtain ⟨xk, xn, xs⟩ := x
  obtain ⟨yk, yn, ys⟩ := y
  have h : (decide ((⟨xk, xn, xs⟩ : Val) = ⟨yk, yn, ys⟩)) = (decide (xk = yk) && (decide (xn = yn) && (xs == ys))) := by
    rw [name_beq, Bool.eq_iff_iff]; simp [Val.mk.injEq]
  rw [h, name_beq]
  go_simp
  by_cases h1 : xk = yk <;> by_cases h2 : xn = yn <;> by_cases h3 : xs = ys <;> simp [h1, h2, h3]
theorem list_eq_of {α : Type} [Inhabited α] {l m : List α} {k : Nat} (h : ∀ j, j < k → l.getD j default = m.getD j default) (h1 : l.length = m.length) (h2 : k = l.length) : l = m := by
  subst h2
  refine List.ext_getElem h1 (fun i hi hj => ?_)
  have := h i hi
  simpa [List.getD_eq_getElem?_getD, List.getElem?_eq_getElem hi, List.getElem?_eq_getElem hj] using this

set_option maxRecDepth 20000 in
set_option maxHeartbeats 2000000 in
theorem sameRow_any (l m : List Val) (a b : Option Addr) (n n2 cap cap2 : Nat) (w : World) (h1 : Rd w a n cap 3 (recC Val.enc l)) (h2 : Rd w b n2 cap2 3 (recC Val.enc m)) :
    Calls Try.prog 30 #[.slice a n cap, .slice b n2 cap2] w (RetQ (.bool (decide (l = m))) w) := by
  have l1 := h1.rlen Val.enc_len (by omega)
  have l2 := h2.rlen Val.enc_len (by omega)
  have mx := h1.lenMax
  have R1 := Box.mk h1; have R2 := Box.mk h2
  clear h1 h2
  by_cases hn : n = n2
  · subst hn
    go_enter Try.func30, Try.ntmps30
    go_wp2_with fail
    go_loopw [5] (fun i wr => ∃ k : Nat, k ≤ n ∧ i = .int .i64 k ∧ (∀ j, j < k → l.getD j default = m.getD j default) ∧ ∃ q, wr = w.drewN q) (fun i _ => n - (intOf i).toNat)
    case atStart => exact ⟨0, Nat.zero_le _, rfl, fun j h => by omega, 0, rfl⟩
    case round =>
      obtain ⟨k, hk, rfl, hsame, q, rfl⟩ := hrel
      have HS := Box.mk hsame; clear hsame
      by_cases hl : k < n
      · obtain ⟨g, off, rfl, _, hc⟩ := R1.out.recAt Val.enc_len (by omega) k hl
        obtain ⟨g2, off2, rfl, _, hc2⟩ := R2.out.recAt Val.enc_len (by omega) k hl
        have hq := run_neqV (l.getD k default) (m.getD k default)
        by_cases hx : l.getD k default = m.getD k default
        · have HX := Box.mk (show ∀ j, j < k + 1 → l.getD j default = m.getD j default from fun j hj => by
            by_cases e : j = k
            · subst e; exact hx
            · exact HS.out j (by omega))
          rw [decide_eq_true hx] at hq
          clear hx
          generalize l.getD k default = x at *
          generalize m.getD k default = y at *
          obtain ⟨xk, xn, xs⟩ := x
          obtain ⟨yk, yn, ys⟩ := y
          have c0 := hc 0 _ rfl
          have c1 := hc 1 _ rfl
          have c2 := hc 2 _ rfl
          have d0 := hc2 0 _ rfl
          have d1 := hc2 1 _ rfl
          have d2 := hc2 2 _ rfl
          simp only [Nat.add_zero] at c0 c1 c2 d0 d1 d2 hq
          clear hc hc2
          go_wp2_with fail
          go_quiet (fail)
          go_wp2_with fail
          go_roundw
          case rel => exact ⟨k + 1, by omega, by go_num, HX.out, _, rfl⟩
          case measure => simp [intOf]; omega
        · have HX := Box.mk (show decide (l = m) = false from decide_eq_false (fun e => hx (by rw [e])))
          rw [decide_eq_false hx] at hq
          clear hx
          generalize l.getD k default = x at *
          generalize m.getD k default = y at *
          obtain ⟨xk, xn, xs⟩ := x
          obtain ⟨yk, yn, ys⟩ := y
          have c0 := hc 0 _ rfl
          have c1 := hc 1 _ rfl
          have c2 := hc 2 _ rfl
          have d0 := hc2 0 _ rfl
          have d1 := hc2 1 _ rfl
          have d2 := hc2 2 _ rfl
          simp only [Nat.add_zero] at c0 c1 c2 d0 d1 d2 hq
          clear hc hc2
          go_wp2_with fail
          go_quiet (fail)
          go_wp2_with fail
          go_ret
          exact ⟨by rw [HX.out]; rfl, _, World.drewN_drewN _ _ _⟩
      · have HX := Box.mk (show decide (l = m) = true from decide_eq_true (list_eq_of (k := k) HS.out (by omega) (by omega)))
        go_wp2_with fail
        go_ret
        exact ⟨by rw [HX.out]; rfl, _, rfl⟩
  · have HX := Box.mk (show decide (l = m) = false from decide_eq_false (fun e => hn (by rw [← l1, ← l2, e])))
    have hnn : ((n : Int) != (n2 : Int)) = true := by simp only [bne_iff_ne]; omega
    go_enter Try.func30, Try.ntmps30
    go_wp2_with fail
    go_ret
    exact ⟨by rw [HX.out]; rfl, 0, rfl⟩

theorem nm_clrow : (Try.f67.name == "runtime.NumGoroutine") = false := by kernel_rfl
theorem bd_clrow : Try.f67.body.isNone = false := by kernel_rfl
set_option maxRecDepth 20000 in
set_option maxHeartbeats 2000000 in
theorem extend_any (X : TabP) (r : List Val) (a : Option Addr) (n cap : Nat) (w : World) (hr : TabRd w X) (hrd : Rd w a n cap 3 (recC Val.enc r)) (hn : n ≤ 1000) (hc : X.cols.length ≤ 1000) :
    Calls Try.prog 31 #[X.v, .slice a n cap] w (RetOwn 40 3 (max X.cols.length n) (recC Val.enc (extT X.cols.length r)) w) := by
  have hrl := hrd.rlen Val.enc_len (by omega)
  have T1 := Box.mk (TabIn.start hr)
  have HEX := Box.mk (show recC Val.enc (extT X.cols.length r) = recC Val.enc r ++ zerosOf (.agg #[.int .i64 0, .int .i64 0, .string ⟨#[]⟩]) (X.cols.length - n) from by rw [zerosOf_val, ← recC_append, extT, hrl])
  have HS0 := And.intro T1.out (hrd.alloc (.cells X.cs.toArray 28))
  clear hr hrd T1
  unfold TabP.cs at HS0
  unfold TabP.v
  rw [HEX.out]
  clear HEX
  obtain ⟨p, hp⟩ : ∃ p, p = X.cols.length - n := ⟨_, rfl⟩
  rw [← hp, show max X.cols.length n = n + p from by omega]
  have hmx : (if 0 < IntKind.i64.wrap ((X.cols.length : Int) - (n : Int)) then IntKind.i64.wrap ((X.cols.length : Int) - (n : Int)) else 0) = (p : Int) := by rw [show IntKind.i64.wrap ((X.cols.length : Int) - (n : Int)) = (X.cols.length : Int) - (n : Int) from by rw [IntKind.wrap_i64]; omega]; split <;> omega
  have HMX := Box.mk hmx
  have hp2 : p ≤ 1000 := by omega
  clear hmx hp
  go_enter Try.func31, Try.ntmps31
  go_wp2_with fail
  generalize (w.alloc (.cells #[.string ⟨X.name.toArray⟩, .slice X.ca X.cols.length X.cc, .slice X.ia X.ixs.length X.ic, .slice X.ha X.chks.length X.hc] 28)) = W at *
  generalize hg : w.heap.size = g at *
  have HG := Box.mk hg
  clear hg
  replace HS0 : TabIn w W.drew g X ∧ Rd W.drew a n cap 3 (recC Val.enc r) := ⟨HS0.1.drewN 1, HS0.2.drew⟩
  refine wp_region_held_drew (S := fun w' => TabIn w w' g X ∧ Rd w' a n cap 3 (recC Val.enc r)) (by kernel_rfl) HS0 (fun _ => ?_)
  refine wpAnyH_take (i := 0) (v := ?_) rfl (by kernel_rfl) (by kernel_rfl) (by kernel_rfl) (fun _ _ _ h => h) (yieldsIf_val (by rfl) (fun w' hS => ?_)) HS0 ?_
  rotate_left
  · skip
    go_simp
    all_goals with_reducible rfl
  conv =>
    arg 8
    simp [go_sem]
  refine wpAnyH_take (i := 2) (v := ?_) rfl (by kernel_rfl) (by kernel_rfl) (by kernel_rfl) (fun _ _ _ h => h) (yieldsIf_val (by rfl) (fun w' hS => ?_)) HS0 ?_
  rotate_left
  · skip
    go_simp
    all_goals with_reducible rfl
  conv =>
    arg 8
    simp [go_sem]
  refine wpAnyH_take (i := 3) (v := ?_) rfl (by kernel_rfl) (by kernel_rfl) (by kernel_rfl) (fun _ _ _ h => h) (yieldsIf_val (by rfl) (fun w' hS => ?_)) HS0 ?_
  rotate_left
  · skip
    have e := hS.1.c1
    go_simp
    all_goals with_reducible rfl
  conv =>
    arg 8
    simp [go_sem]
  refine wpAnyH_take (i := 4) (v := ?_) rfl (by kernel_rfl) (by kernel_rfl) (by kernel_rfl) (fun _ _ _ h => h) (yieldsIf_val (by rfl) (fun w' hS => ?_)) HS0 ?_
  rotate_left
  · skip
    go_simp
    all_goals with_reducible rfl
  conv =>
    arg 8
    simp [go_sem]
  refine wpAnyH_take (i := 5) (v := ?_) rfl (by kernel_rfl) (by kernel_rfl) (by kernel_rfl) (fun _ _ _ h => h) (yieldsIf_val (by rfl) (fun w' hS => ?_)) HS0 ?_
  rotate_left
  · skip
    go_simp
    all_goals with_reducible rfl
  conv =>
    arg 8
    simp [go_sem]
  refine wpAnyH_take (i := 6) (v := ?_) rfl (by kernel_rfl) (by kernel_rfl) (by kernel_rfl) (fun _ _ _ h => h) (yieldsIf_val (by rfl) (fun w' hS => ?_)) HS0 ?_
  rotate_left
  · skip
    go_simp
    all_goals with_reducible rfl
  conv =>
    arg 8
    simp [go_sem]
  refine wpAnyH_take (i := 7) (v := ?_) rfl (by kernel_rfl) (by kernel_rfl) (by kernel_rfl) (fun _ _ _ h => h) (yieldsIf_val (by rfl) (fun w' hS => ?_)) HS0 ?_
  rotate_left
  · skip
    go_simp
    all_goals with_reducible rfl
  conv =>
    arg 8
    simp [go_sem]
  refine wpAnyH_take (i := 8) (v := ?_) rfl (by kernel_rfl) (by kernel_rfl) (by kernel_rfl) (fun _ _ _ h => h) (yieldsIf_val (by rfl) (fun w' hS => ?_)) HS0 ?_
  rotate_left
  · skip
    go_simp
    all_goals with_reducible rfl
  conv =>
    arg 8
    simp [go_sem]
  conv =>
    arg 8
    simp [go_sem]
  refine wpAnyH_ready (rs := [1]) (by kernel_rfl) (by simp) (AllReadyH.cons rfl (fun K' hK' => oper_call (by rfl) 67 [.tmp 5] #[37] rfl (vs := [.slice a n cap]) rfl Try.func67 nm_clrow bd_clrow (clone_row (recC Val.enc r) a n cap _ HS0.2 (recC_one Val.enc_one r) (by omega)) ?_) AllReadyH.nil)
  rintro e w5 ⟨hb5, a5, c5, rfl, hown5⟩
  have HT1 := And.intro (HS0.1.step hb5) (HS0.2.call0 hb5)
  refine ⟨_, rfl, hK'.out _ _ HT1 (fun _ => ?_)⟩
  clear hK' K'
  conv =>
    arg 8
    simp [go_sem]
  conv =>
    arg 8
    simp [go_sem]
  rw [HMX.out]
  have OW := hown5
  refine wpAnyH_ready (rs := [9]) (by kernel_rfl) (by simp) (AllReadyH.cons rfl (fun K' hK' => oper_append_num (by rfl) (.tmp 6) (.tmp 13) 37 3 rfl sl_row zeroV_one (by kernel_rfl) rfl OW rfl (by omega) (by unfold maxLen; omega) hb5.size ?_) AllReadyH.nil)
  intro a7 c7 w7 hown7 hgr7
  have BG := below_grown hb5 hgr7 OW (Nat.le_refl _) hb5.size
  have HW7 := Box.mk hown7
  have HT2 := And.intro (HS0.1.step BG) (HS0.2.call0 BG)
  refine hK'.out _ _ HT2 (fun _ => ?_)
  clear hK' K'
  conv =>
    arg 8
    simp [go_sem]
  refine wpAnyH_take (i := 10) (v := ?_) rfl (by kernel_rfl) (by kernel_rfl) (by kernel_rfl) (fun _ _ _ h => h) (yieldsIf_val (by rfl) (fun w' hS => ?_)) HT2 ?_
  rotate_left
  · skip
    go_simp
    all_goals with_reducible rfl
  conv =>
    arg 8
    simp [go_sem]
  refine ⟨by kernel_rfl, ?_⟩
  conv =>
    arg 5
    simp [go_sem]
  go_wp2_with fail
  go_ret
  exact ⟨HT2.1.below, a7, c7, rfl, own_base HW7.out (HS0.1.below.size)⟩
end Go.Proofs.Ytgimkipekoabbaa

/-
  The walk of the reference's Extend. No condition.
-/
namespace Go.Proofs.Ytgimkipekoabbaa
open Go.RowKit

theorem extT_succ {k : Nat} (r : List Val) (hk : r.length ≤ k) : r ++ List.replicate (k + 1 - r.length) zval = r ++ List.replicate (k - r.length) zval ++ [zval] := by
  rw [show k + 1 - r.length = (k - r.length) + 1 from by omega, List.replicate_succ', List.append_assoc]
/-- The length of a slice. -/
def lenOfV : Value → Nat | .slice _ n _ => n | _ => 0
theorem rd_val1 (w : World) (v : Val) : Rd (w.alloc (.cells #[.int .i64 v.kind, .int .i64 v.n, .string ⟨v.s.toArray⟩] 40)) (some ⟨w.heap.size, 0, none⟩) 1 1 3 (recC Val.enc [v]) :=
  rd_newAt rfl rfl rfl (by decide)
set_option maxRecDepth 20000 in
set_option maxHeartbeats 2000000 in
theorem rextend_any (X : TabP) (r : List Val) (a : Option Addr) (n cap : Nat) (w : World) (hr : TabRd w X) (hrd : Rd w a n cap 3 (recC Val.enc r)) (hn : n ≤ 1000) (hc : X.cols.length ≤ 1000) :
    Calls Try.prog 32 #[X.v, .slice a n cap] w (RetOwn 40 3 (max X.cols.length n) (recC Val.enc (extT X.cols.length r)) w) := by
  have hrl := hrd.rlen Val.enc_len (by omega)
  have T0 := Box.mk (TabIn.start hr)
  have R0 := hrd.alloc (.cells X.cs.toArray 28)
  clear hr hrd
  unfold TabP.cs at T0 R0
  unfold TabP.v
  have hone := recC_one Val.enc_one r
  obtain ⟨N, hN⟩ : ∃ N, N = max X.cols.length n := ⟨_, rfl⟩
  have HEX := Box.mk (show extT X.cols.length r = r ++ List.replicate (N - r.length) zval from by unfold extT; rw [hrl, hN]; congr 2; omega)
  rw [← hN]
  have hNc : X.cols.length ≤ N := by omega
  have hNn : n ≤ N := by omega
  have hN1 : N ≤ 1000 := by omega
  have HN := Box.mk hN
  clear hN
  have HL := Box.mk hrl
  clear hrl
  go_enter Try.func32, Try.ntmps32
  go_upto_region 1 with fail
  generalize (w.alloc (.cells #[.string ⟨X.name.toArray⟩, .slice X.ca X.cols.length X.cc, .slice X.ia X.ixs.length X.ic, .slice X.ha X.chks.length X.hc] 28)) = W at *
  generalize hg : w.heap.size = g at *
  have HG := Box.mk hg
  clear hg
  have SRC := Box.mk (Src.ofRd (P := Try.prog) (R0.alloc (.cells #[] 40)) hone)
  have HO := Box.mk (own_new (w := W.alloc (.cells #[] 40)) (g := W.heap.size) (base := W.heap.size) (n := 0) (size := 3) (cs := []) (e := 40) (Blk.new rfl rfl) (Nat.le_refl _) rfl (by decide))
  clear R0 hone
  go_wp2_with (at_builtin; refine wpList_append_src rfl _ _ 37 37 rfl sl_row (.inl sl_row.ht) rfl HO.out rfl SRC.out (by omega) (by unfold maxLen; omega) (by simp) ?_; intro a3 c3 w3 hown3 hgr3 _; have HB3 := Box.mk (And.intro hown3 (below_grown ((Below.refl W.heap.size W).alloc (Nat.le_refl _) _) hgr3 HO.out (Nat.le_refl _) (by simp))); clear hown3 hgr3)
  go_loopw [5] (fun v wr => ∃ (k : Nat) (a : Option Addr) (cap : Nat), n ≤ k ∧ k ≤ N ∧ v = .slice a k cap ∧ Box (wr.ownsRow W.heap.size 40 3 (.slice a k cap) k (recC Val.enc (r ++ List.replicate (k - r.length) zval)) ∧ Below W.heap.size W wr)) (fun v _ => N - (lenOfV v))
  case atStart => exact ⟨n, a3, c3, Nat.le_refl _, hNn, rfl, ⟨by
      have h := HB3.out.1
      rw [List.nil_append, Nat.zero_add] at h
      rw [HL.out, Nat.sub_self, List.replicate_zero, List.append_nil]; exact h, HB3.out.2⟩⟩
  case round =>
    clear HB3
    obtain ⟨k, a, cap, hnk, hkN, rfl, HB⟩ := hrel
    have x1 := (T0.out.step HB.out.2).c1
    by_cases hlt : k < X.cols.length
    · have HSUC := Box.mk (extT_succ r (k := k) (by rw [HL.out]; exact hnk))
      have OW := Box.mk (HB.out.1.alloc (.cells #[.int .i64 zval.kind, .int .i64 zval.n, .string ⟨zval.s.toArray⟩] 40))
      have SRC := Box.mk (Src.ofRd (P := Try.prog) (rd_val1 wr zval) (recC_one Val.enc_one _))
      go_wp2_with (at_builtin; refine wpList_append_src rfl _ _ 37 37 rfl sl_row (.inl sl_row.ht) rfl OW.out rfl SRC.out (by omega) (by unfold maxLen; omega) (by have := HB.out.2.size; simp; omega) ?_; intro a3 c3 w3 hown3 hgr3 _; have HB3 := Box.mk (And.intro hown3 (below_grown ((HB.out.2).alloc HB.out.2.size _) hgr3 OW.out (Nat.le_refl _) (by have := HB.out.2.size; simp; omega))); clear hown3 hgr3)
      exact ⟨⟨k + 1, a3, c3, by omega, by omega, rfl, ⟨by rw [HSUC.out, recC_append]; exact HB3.out.1, HB3.out.2⟩⟩, by simp [lenOfV]; omega⟩
    · go_wp2_with fail
      go_ret
      obtain rfl : k = N := by have := HN.out; omega
      rw [HEX.out]
      exact ⟨(T0.out.step HB.out.2).below, a, cap, rfl, own_base HB.out.1 T0.out.below.size⟩
end Go.Proofs.Ytgimkipekoabbaa

/-
  The walk of the reference's Fits. No condition.
-/
namespace Go.Proofs.Ytgimkipekoabbaa
open Go.RowKit

theorem rchk_is {X : TabP} {v : Int} (h : checkT X.t = v) {w : World} (hr : TabRd w X) : Calls Try.prog 20 #[.agg #[.string ⟨X.name.toArray⟩, .slice X.ca X.cols.length X.cc, .slice X.ia X.ixs.length X.ic, .slice X.ha X.chks.length X.hc]] w (RetV (.int .i64 v) w) := by
  subst h; exact rcheck_any X w hr
theorem rval_is {y : Val} {b : Bool} (h : (validB y || nullB y) = b) (w : World) : Calls Try.prog 65 #[.agg #[.int .i64 y.kind, .int .i64 y.n, .string ⟨y.s.toArray⟩]] w (RetV (.bool b) w) := by
  subst h; exact rvalid_any y.kind y.n y.s w
theorem rhold_is {op : Int} {x y : Val} {b : Bool} (h : holdsB op (cmpV x y) = b) (w : World) : Calls Try.prog 66 #[.int .i64 op, .agg #[.int .i64 x.kind, .int .i64 x.n, .string ⟨x.s.toArray⟩], .agg #[.int .i64 y.kind, .int .i64 y.n, .string ⟨y.s.toArray⟩]] w (RetV (.bool b) w) := by
  subst h; exact rholds_any op x y w

set_option maxRecDepth 20000 in
set_option maxHeartbeats 8000000 in
theorem rfits_any (X : TabP) (r : List Val) (ra : Option Addr) (rn rc : Nat) (w : World) (hr : TabRd w X) (hrr : Rd w ra rn rc 3 (recC Val.enc r)) :
    Calls Try.prog 29 #[X.v, .slice ra rn rc] w (RetV (.int .i64 (fitsT X.t r)) w) := by
  have hln := hrr.rlen Val.enc_len (by omega)
  generalize hE : fitsT X.t r = E
  have HE := Box.mk hE
  clear hE
  have T1 := Box.mk (TabIn.start hr)
  have R1 := Box.mk (hrr.alloc (.cells X.cs.toArray 28))
  have mc := hr.cols.lenMax
  have mh := hr.chks.lenMax
  have mr := hrr.lenMax
  clear hr hrr
  unfold TabP.cs at T1 R1
  unfold TabP.v
  have u0 := T1.out.c0
  have u1 := T1.out.c1
  have u2 := T1.out.c2
  have u3 := T1.out.c3
  go_enter Try.func29, Try.ntmps29
  go_wp2_with fail
  generalize (w.alloc (.cells #[.string ⟨X.name.toArray⟩, .slice X.ca X.cols.length X.cc, .slice X.ia X.ixs.length X.ic, .slice X.ha X.chks.length X.hc] 28)) = W at *
  generalize hg : w.heap.size = g at *
  generalize hv : checkT X.t = v
  refine (rchk_is hv T1.out.rd).mono ?_
  rintro e w2 ⟨rfl, hb⟩
  have T2 := Box.mk (T1.out.step hb)
  have R2 := Box.mk (R1.out.call0 hb)
  have x1 := T2.out.c1
  clear hb T1 R1 u0 u1 u2 u3
  by_cases h0 : v = 0
  · subst h0
    have HV := Box.mk hv
    clear hv
    by_cases hl : r.length = X.cols.length
    · have HL := Box.mk hl
      have hrn : rn = X.cols.length := by omega
      have hnn : ((rn : Int) != (X.cols.length : Int)) = false := by simp [hrn]
      have hrl1 : rn ≤ X.cols.length := by omega
      have hrl2 : X.cols.length ≤ rn := by omega
      clear hrn hl
      go_wp2_with fail
      clear hnn x1
      go_loopw [6] (fun i wr => ∃ k : Nat, k ≤ rn ∧ i = .int .i64 k ∧ Box (∀ j, j < k → valErr X.cols r j = 0) ∧ Box (TabIn w wr g X ∧ Rd wr ra rn rc 3 (recC Val.enc r))) (fun i _ => rn - (intOf i).toNat)
      case atStart => exact ⟨0, Nat.zero_le _, rfl, ⟨fun j h => by omega⟩, ⟨T2.out, R2.out⟩⟩
      case round =>
        clear T2 R2
        obtain ⟨k, hk, rfl, HZ, TR⟩ := hrel
        by_cases hlt : k < rn
        · obtain ⟨b, off, rfl, hgb, hc⟩ := TR.out.2.recAt Val.enc_len (by omega) k hlt
          have HHIT := Box.mk (fun (v : Int) (hv : valErr X.cols r k = v) (h0 : v ≠ 0) => show E = v from by
            rw [← HE.out]; exact fitsT_val (T := X.t) HV.out HL.out HZ.out (by omega) hv h0)
          generalize hy : r.getD k default = y at *
          have HY := Box.mk hy
          clear hy
          have c0 := hc 0 _ rfl
          have c1 := hc 1 _ rfl
          have c2 := hc 2 _ rfl
          simp only [Nat.add_zero] at c0 c1 c2
          clear hc
          have hkl : k < X.cols.length := by omega
          obtain ⟨b2, off2, hca2, hgb2, hcc⟩ := TR.out.1.rd.cols.recAt Col.enc_len (by omega) k hkl
          generalize hcy : X.cols.getD k default = cy at *
          have HCY := Box.mk hcy
          clear hcy
          obtain ⟨cyn, cyk, cyu⟩ := cy
          have d1 := hcc 1 _ rfl
          have d2 := hcc 2 _ rfl
          have e1 := TR.out.1.c1
          rw [hca2] at e1
          clear hcc hgb hgb2 hca2
          have hq := fun w => run_eqV y ⟨0, 0, []⟩ w
          rw [← nullB_eq] at hq
          simp only at hq
          obtain ⟨yk, yn, ys⟩ := y
          simp only at c0 c1 c2 hq d1 d2
          cases hnl : nullB ⟨yk, yn, ys⟩ with
          | true =>
            rw [hnl] at hq
            have HNL := Box.mk hnl
            have HQ := Box.mk hq
            clear hnl
            cases cyu with
            | false =>
              have hX := HHIT.out _ (valErr_null HY.out HCY.out HNL.out rfl) (by decide)
              subst hX
              go_wp2_with fail
              go_ret
              exact ⟨rfl, TR.out.1.below⟩
            | true =>
              have HZ2 := Box.mk (all_succ HZ.out (valErr_nullOk HY.out HCY.out HNL.out rfl))
              go_wp2_with fail
              refine (rval_is (y := ⟨yk, yn, ys⟩) (b := true) (by rw [HNL.out, Bool.or_true]) _).mono ?_
              rintro e w5 ⟨rfl, hb5⟩
              have TR5 := Box.mk (And.intro (TR.out.1.step hb5) (TR.out.2.call0 hb5))
              clear hb5 c0 c1 c2 d1 d2 e1 hq HQ TR
              go_wp2_with fail
              go_quiet (fail)
              go_wp2_with fail
              go_roundw
              case rel => exact ⟨k + 1, by omega, by go_num, HZ2, ⟨⟨TR5.out.1.drewN _, TR5.out.2.call0 (below_drewN (Below.refl _ _) _)⟩⟩⟩
              case measure => simp [intOf]; omega
          | false =>
            rw [hnl] at hq
            have HNL := Box.mk hnl
            clear hnl
            generalize hvb : validB ⟨yk, yn, ys⟩ = vb
            go_wp2_with fail
            refine (rval_is (y := ⟨yk, yn, ys⟩) (b := vb) (by rw [HNL.out, Bool.or_false]; exact hvb) _).mono ?_
            rintro e w5 ⟨rfl, hb5⟩
            have TR5 := Box.mk (And.intro (TR.out.1.step hb5) (TR.out.2.call0 hb5))
            replace c0 := (hb5.cell (p := ⟨b, off + k * 3, none⟩) (cell_block_lt c0)).trans c0
            replace d1 := (hb5.cell (p := ⟨b2, off2 + k * 3 + 1, none⟩) (cell_block_lt d1)).trans d1
            replace e1 := (hb5.cell (p := ⟨g, 1, none⟩) (cell_block_lt e1)).trans e1
            clear hb5 c1 c2 d2 hq TR
            cases vb with
            | false =>
              have hX := HHIT.out _ (valErr_type HY.out HCY.out HNL.out (by rw [hvb]; rfl)) (by decide)
              subst hX
              clear hvb
              go_wp2_with fail
              go_quiet (fail)
              go_wp2_with fail
              go_ret
              exact ⟨rfl, (TR5.out.1.drewN _).below⟩
            | true =>
              by_cases hck : yk = cyk
              · have HT2 := Box.mk (all_succ HZ.out (valErr_ok HY.out HCY.out HNL.out (by rw [hvb, Bool.true_and]; exact decide_eq_true hck)))
                have hkk : (yk != cyk) = false := by simp [hck]
                clear hck hvb
                go_wp2_with fail
                go_quiet (fail)
                go_wp2_with fail
                go_roundw
                case rel => exact ⟨k + 1, by omega, by go_num, HT2, ⟨⟨TR5.out.1.drewN _, TR5.out.2.call0 (below_drewN (Below.refl _ _) _)⟩⟩⟩
                case measure => simp [intOf]; omega
              · have hX := HHIT.out _ (valErr_type HY.out HCY.out HNL.out (by rw [hvb, Bool.true_and]; exact decide_eq_false hck)) (by decide)
                subst hX
                have hkk : (yk != cyk) = true := by simp [hck]
                clear hck hvb
                go_wp2_with fail
                go_quiet (fail)
                go_wp2_with fail
                go_ret
                exact ⟨rfl, (TR5.out.1.drewN _).below⟩
        · have HZ0 := Box.mk (show ∀ j, j < r.length → valErr X.cols r j = 0 from fun j hj => HZ.out j (by omega))
          have x3 := TR.out.1.c3
          clear HZ
          go_wp2_with fail
          have hk0 := Box.mk hlt
          clear hlt x3 hk
          go_loopw [9] (fun i wr => ∃ k : Nat, k ≤ X.chks.length ∧ i = .int .i64 k ∧ Box (∀ j, j < k → holdErr X.chks r j = 0) ∧ Box (TabIn w wr g X ∧ Rd wr ra rn rc 3 (recC Val.enc r))) (fun i _ => X.chks.length - (intOf i).toNat)
          case atStart => exact ⟨0, Nat.zero_le _, rfl, ⟨fun j h => by omega⟩, TR⟩
          case round =>
            clear TR hk0
            obtain ⟨k, hk, rfl, HZ, TR⟩ := hrel
            have x3 := TR.out.1.c3
            by_cases hlt : k < X.chks.length
            · obtain ⟨b, off, hca, hgb, hc⟩ := TR.out.1.rd.chks.recAt Chk.enc_len (by omega) k hlt
              rw [hca] at x3
              have HHIT := Box.mk (fun (hv : holdErr X.chks r k = 201) => show E = 201 from by
                rw [← HE.out]; exact fitsT_hold (T := X.t) HV.out HL.out HZ0.out HZ.out hlt hv)
              have hok := (checkT_ok HV.out).chk hlt
              change 0 ≤ (X.chks.getD k default).col ∧ (X.chks.getD k default).col < X.cols.length ∧ _ at hok
              generalize hy : X.chks.getD k default = y at *
              have HY := Box.mk hy
              clear hy hca
              obtain ⟨yc, yo, yk, yn, ys⟩ := y
              have c0 := hc 0 _ rfl
              have c1 := hc 1 _ rfl
              have c2 := hc 2 _ rfl
              have c3 := hc 3 _ rfl
              have c4 := hc 4 _ rfl
              simp only [Nat.add_zero] at c0 c1 c2 c3 c4
              obtain ⟨q, rfl⟩ := Int.eq_ofNat_of_zero_le hok.1
              have hq : q < rn := by have := hok.2.1; simp only at this; omega
              clear hok hc hgb
              obtain ⟨b2, off2, rfl, hgb2, hcc⟩ := TR.out.2.recAt Val.enc_len (by omega) q hq
              have T2 := TR.out.1.alloc (.cells #[.int .i64 q, .int .i64 yo, .int .i64 yk, .int .i64 yn, .string ⟨ys.toArray⟩] 42)
              have R2 := TR.out.2.alloc (.cells #[.int .i64 q, .int .i64 yo, .int .i64 yk, .int .i64 yn, .string ⟨ys.toArray⟩] 42)
              have ba := Blk.new (w := wr) (k := wr.heap.size) (ty := 42) (cs := [.int .i64 q, .int .i64 yo, .int .i64 yk, .int .i64 yn, .string ⟨ys.toArray⟩]) rfl rfl
              have y0 := ba.cellOf (i := 0) rfl
              generalize hv : r.getD q default = v at *
              have HVQ := Box.mk hv
              clear hv
              obtain ⟨vk, vn, vs⟩ := v
              have d0 := Lib.cell?_alloc_some (.cells #[.int .i64 q, .int .i64 yo, .int .i64 yk, .int .i64 yn, .string ⟨ys.toArray⟩] 42) (hcc 0 _ rfl)
              have d1 := Lib.cell?_alloc_some (.cells #[.int .i64 q, .int .i64 yo, .int .i64 yk, .int .i64 yn, .string ⟨ys.toArray⟩] 42) (hcc 1 _ rfl)
              have d2 := Lib.cell?_alloc_some (.cells #[.int .i64 q, .int .i64 yo, .int .i64 yk, .int .i64 yn, .string ⟨ys.toArray⟩] 42) (hcc 2 _ rfl)
              simp only [Nat.add_zero] at d0 d1 d2
              clear hcc hgb2
              go_upto_region 19 with fail
              generalize (wr.alloc (.cells #[.int .i64 q, .int .i64 yo, .int .i64 yk, .int .i64 yn, .string ⟨ys.toArray⟩] 42)) = wa at *
              generalize wr.heap.size = gy at *
              clear c0 c1 c2 c3 c4 TR x3
              go_upto_region 20 with fail
              have HS0 := Box.mk (And.intro (T2.alloc (.cells #[.int .i64 vk, .int .i64 vn, .string ⟨vs.toArray⟩] 40)) (And.intro (R2.alloc (.cells #[.int .i64 vk, .int .i64 vn, .string ⟨vs.toArray⟩] 40)) (And.intro (ba.alloc (.cells #[.int .i64 vk, .int .i64 vn, .string ⟨vs.toArray⟩] 40)) (Blk.new (w := wa) (k := wa.heap.size) (ty := 40) (cs := [.int .i64 vk, .int .i64 vn, .string ⟨vs.toArray⟩]) rfl rfl))))
              generalize (wa.alloc (.cells #[.int .i64 vk, .int .i64 vn, .string ⟨vs.toArray⟩] 40)) = wb at *
              generalize wa.heap.size = gv at *
              clear d0 d1 d2 y0 ba T2 R2
              have f1 := HS0.out.2.2.1.cellOf (i := 1) rfl
              have f2 := HS0.out.2.2.1.cellOf (i := 2) rfl
              have f3 := HS0.out.2.2.1.cellOf (i := 3) rfl
              have f4 := HS0.out.2.2.1.cellOf (i := 4) rfl
              have v0 := HS0.out.2.2.2.cellOf (i := 0) rfl
              have v1 := HS0.out.2.2.2.cellOf (i := 1) rfl
              have v2 := HS0.out.2.2.2.cellOf (i := 2) rfl
              go_wp2_with fail
              generalize hh : holdsB yo (cmpV ⟨vk, vn, vs⟩ ⟨yk, yn, ys⟩) = hb
              refine (rhold_is (x := ⟨vk, vn, vs⟩) (y := ⟨yk, yn, ys⟩) hh _).mono ?_
              rintro e w6 ⟨rfl, hb6⟩
              have TR6 := Box.mk (And.intro (HS0.out.1.step hb6) (HS0.out.2.1.call0 hb6))
              have g0 := (HS0.out.2.2.2.call0 hb6).cellOf (i := 0) rfl
              clear hb6 f1 f2 f3 f4 v0 v1 v2 HS0
              by_cases hvk : vk = 0
              · have HT2 := Box.mk (all_succ HZ.out (holdErr_null HY.out HVQ.out hvk))
                have hkk : (vk != 0) = false := by simp [hvk]
                clear hvk hh
                go_wp2_with fail
                go_roundw
                case rel => exact ⟨k + 1, by omega, by go_num, HT2, TR6⟩
                case measure => simp [intOf]; omega
              have hkk : (vk != 0) = true := by simp [hvk]
              cases hb with
              | false =>
                have hX := HHIT.out (holdErr_no HY.out HVQ.out hvk hh)
                subst hX
                clear hh hvk
                go_wp2_with fail
                go_ret
                exact ⟨rfl, TR6.out.1.below⟩
              | true =>
                have HT2 := Box.mk (all_succ HZ.out (holdErr_ok HY.out HVQ.out hh))
                clear hh hvk
                go_wp2_with fail
                go_roundw
                case rel => exact ⟨k + 1, by omega, by go_num, HT2, TR6⟩
                case measure => simp [intOf]; omega
            · have hX2 : E = 0 := HE.out.symm.trans (fitsT_ok (T := X.t) HV.out HL.out HZ0.out (fun j hj => HZ.out j (by change j < X.chks.length at hj; omega)))
              subst hX2
              go_wp2_with fail
              go_ret
              exact ⟨rfl, TR.out.1.below⟩
    · have hX := HE.out.symm.trans (fitsT_len (T := X.t) HV.out hl)
      subst hX
      have hnn : ((rn : Int) != (X.cols.length : Int)) = true := by simp only [bne_iff_ne]; omega
      go_wp2_with fail
      go_ret
      exact ⟨rfl, T2.out.below⟩
  · have hX := HE.out.symm.trans (fitsT_check hv h0)
    subst hX
    have hvv : (E != 0) = true := by simp [h0]
    clear hv
    go_wp2_with fail
    go_ret
    exact ⟨rfl, T2.out.below⟩
end Go.Proofs.Ytgimkipekoabbaa
