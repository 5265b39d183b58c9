/-
  The walk of row.Update. No condition.
-/
import Derived.Test.YtpgdfhncigmmbaaWPrj
namespace Go.Proofs.Ytpgdfhncigmmbaa
open Go.RowKit

theorem own_storeN {w : World} {base e size g n cap : Nat} {xs : List Value} (h : w.ownsRow base e size (.slice (some ⟨g, 0, none⟩) n cap) n xs) (off : Nat) (cs : List Value) (hoff : off + cs.length ≤ xs.length) :
    ∃ cur, Blk w g e cur ∧ off + cs.length ≤ cur.length ∧ (w.setRow g (splice cur off cs).toArray).ownsRow base e size (.slice (some ⟨g, 0, none⟩) n cap) n (splice xs off cs) ∧ w.grownBy (w.setRow g (splice cur off cs).toArray) (some g) := by
  rcases h.2 with ⟨h', _⟩ | ⟨g', cap', cur, h', hb, hg, hnc, hcm, hcs, htake⟩
  · simp at h'
  · simp only [Value.slice.injEq, Option.some.injEq, Addr.mk.injEq, and_true, true_and] at h'
    obtain ⟨rfl, rfl⟩ := h'
    have hlen := h.1
    have hle : xs.length ≤ cur.toList.length := by rw [← htake, List.length_take]; omega
    have hsl : (splice cur.toList off cs).length = cur.toList.length := by
      unfold splice; simp only [List.length_append, List.length_take, List.length_drop]; omega
    have hset : Blk (w.setRow g (splice cur.toList off cs).toArray) g e (splice cur.toList off cs) := Blk.row (cs := cur.toList) (by unfold Blk; simpa using hg) _
    have htk : (splice cur.toList off cs).take (n * size) = splice xs off cs := by
      have hxl : xs.length = n * size := hlen
      rw [← htake]
      unfold splice
      rw [List.take_append, List.take_append, List.take_take, List.take_take, List.length_take, List.drop_take]
      rw [show min (n * size) off = off from by omega, show min off (n * size) = off from by omega, show min off cur.toList.length = off from by omega, List.take_of_length_le (l := cs) (by omega), show n * size - off - cs.length = n * size - (off + cs.length) from by omega]
    refine ⟨cur.toList, by unfold Blk; simpa using hg, by omega, ⟨?_, .inr ⟨g, cap, (splice cur.toList off cs).toArray, rfl, hb, hset, hnc, hcm, ?_, ?_⟩⟩, ⟨rfl, rfl, rfl, by simp, fun k _ hk => setRow_other _ _ _ _ (fun e => hk (by simp [e]))⟩⟩
    · rw [← htk, List.length_take, hsl]; omega
    · simp only [List.size_toArray]; rw [hsl]; simpa using hcs
    · simpa using htk
theorem recC_splice {α : Type} [Inhabited α] {enc : α → List Value} {k : Nat} (hk : ∀ x, (enc x).length = k) (l : List α) (i : Nat) (hi : i < l.length) (y : α) : splice (recC enc l) (i * k) (enc y) = recC enc (l.set i y) := by
  unfold splice
  rw [recC_take hk, hk, show i * k + k = (i + 1) * k from by rw [Nat.succ_mul], recC_drop hk, List.set_eq_take_append_cons_drop, if_pos hi, recC_append, recC_cons]

/-- The row behind the first i assignments. -/
def updUp (r : List Val) (cols : List Int) (vals : List Val) : Nat → List Val
  | 0 => r
  | i + 1 => (updUp r cols vals i).set (cols.getD i 0).toNat (vals.getD i default)
theorem updUp_len (r : List Val) (cols : List Int) (vals : List Val) (i : Nat) : (updUp r cols vals i).length = r.length := by
  induction i with
  | zero => rfl
  | succ i ih => unfold updUp; rw [List.length_set, ih]
def twiceB (cols : List Int) : Bool := (List.range cols.length).any fun i => decide (cols.getD i 0 ∈ cols.take i)
/-- What Update returns. -/
def updE (T : Tab) (r : List Val) (cols : List Int) (vals : List Val) : Int :=
  if cols.length ≠ vals.length ∨ cols.any (fun k => !placeB r.length k) = true then 1 else if twiceB cols = true then 6 else fitsT T (updUp r cols vals cols.length)
def updR (T : Tab) (r : List Val) (cols : List Int) (vals : List Val) : List Val := if updE T r cols vals = 0 then updUp r cols vals cols.length else []
theorem upd_bad {T : Tab} {r : List Val} {cols : List Int} {vals : List Val} (h : cols.length ≠ vals.length ∨ cols.any (fun k => !placeB r.length k) = true) : updE T r cols vals = 1 ∧ updR T r cols vals = [] := by
  have : updE T r cols vals = 1 := if_pos h
  refine ⟨this, ?_⟩
  unfold updR; rw [this]; rfl
theorem upd_twice {T : Tab} {r : List Val} {cols : List Int} {vals : List Val} (h : ¬ (cols.length ≠ vals.length ∨ cols.any (fun k => !placeB r.length k) = true)) {i : Nat} (hi : i < cols.length) (h2 : decide (cols.getD i 0 ∈ cols.take i) = true) : updE T r cols vals = 6 ∧ updR T r cols vals = [] := by
  have ht : twiceB cols = true := by
    unfold twiceB
    rw [List.any_eq_true]
    exact ⟨i, List.mem_range.2 hi, h2⟩
  have : updE T r cols vals = 6 := by unfold updE; rw [if_neg h, if_pos ht]
  refine ⟨this, ?_⟩
  unfold updR; rw [this]; rfl
theorem upd_go {T : Tab} {r : List Val} {cols : List Int} {vals : List Val} (h : ¬ (cols.length ≠ vals.length ∨ cols.any (fun k => !placeB r.length k) = true)) (h2 : ∀ i, i < cols.length → decide (cols.getD i 0 ∈ cols.take i) = false) {v : Int} (hv : fitsT T (updUp r cols vals cols.length) = v) : updE T r cols vals = v ∧ (v = 0 → updR T r cols vals = updUp r cols vals cols.length) ∧ (v ≠ 0 → updR T r cols vals = []) := by
  have ht : twiceB cols = false := by
    unfold twiceB
    rw [List.any_eq_false]
    intro i hi
    rw [h2 i (List.mem_range.1 hi)]; simp
  have : updE T r cols vals = v := by unfold updE; rw [if_neg h, ht, if_neg (by decide), hv]
  refine ⟨this, fun h0 => ?_, fun h0 => ?_⟩
  · unfold updR; rw [this, if_pos h0]
  · unfold updR; rw [this, if_neg h0]
theorem nm_upd1 : (Try.f50.name == "runtime.NumGoroutine") = false := by kernel_rfl
theorem bd_upd1 : Try.f50.body.isNone = false := by kernel_rfl
/-- Update's literal: there is no such place. -/
theorem upd1_pred (a : Option Addr) (n c g : Nat) (w : World) (hc : w.cell? ⟨g, 0, none⟩ = some (.slice a n c)) : PredB 50 #[.pointer (some ⟨g, 0, none⟩)] intV (fun k => !placeB n k) w := by
  intro W x hb
  have c0 := (hb.cell (p := ⟨g, 0, none⟩) (cell_block_lt hc)).trans hc
  have HC := Box.mk (fun w => place_any a n c x w)
  clear hb hc
  show Calls _ _ _ _ (RetV (.bool (!placeB n x)) W)
  generalize placeB n x = d at *
  simp only [intV, List.append_toArray, List.cons_append, List.nil_append]
  go_enter Try.func50, Try.ntmps50
  go_wp2_with fail
  refine (HC.out _).mono ?_
  rintro e w' ⟨rfl, rfl⟩
  go_wp2_with fail
  go_ret
  exact ⟨rfl, Below.refl _ _⟩

set_option maxRecDepth 20000 in
set_option maxHeartbeats 8000000 in
theorem update_any (X : TabP) {r vals : List Val} {cols : List Int} {a b v : Option Addr} {n c m d p q : Nat} {w : World} (hX : TabRd w X) (hr : Rd w a n c 3 (recC Val.enc r)) (hc : Rd w b m d 1 (intVals cols)) (hv : Rd w v p q 3 (recC Val.enc vals)) (hn : n ≤ 1000) (hm : m ≤ 1000) :
    Calls Try.prog 26 #[X.v, .slice a n c, .slice b m d, .slice v p q] w (RetRE (updR X.t r cols vals) (updE X.t r cols vals) w) := by
  have hln := hr.rlen Val.enc_len (by omega)
  have hlm := hc.ilen
  have hlp := hv.rlen Val.enc_len (by omega)
  have hpm := hv.lenMax
  have hdm := hc.hcap
  have hdx := hc.hmax
  unfold maxLen at hdx
  have HX := Box.mk hX
  have HR := Box.mk hr
  have HC := Box.mk hc
  have HV := Box.mk hv
  have H0 : Box (Own w.heap.size ((w.alloc (.cells X.cs.toArray 26)).alloc (.cells #[.slice a n c] 28)) [BlkP w.heap.size 26 X.cs, BlkP (w.heap.size + 1) 28 [.slice a n c]] ∧ Below w.heap.size w ((w.alloc (.cells X.cs.toArray 26)).alloc (.cells #[.slice a n c] 28))) := by
    have h := ((Own.start w).new X.cs 26).new [.slice a n c] 28
    have e1 : ∀ (w : World) (o : Obj), (w.alloc o).heap.size = w.heap.size + 1 := fun w o => by simp
    rw [e1] at h
    exact ⟨h, ((Below.refl w.heap.size w).alloc (Nat.le_refl _) _).alloc (by simp) _⟩
  clear hX hr hc hv
  generalize hE : updE X.t r cols vals = E
  generalize hL : updR X.t r cols vals = L
  have HEL := Box.mk (And.intro hE hL)
  clear hE hL
  unfold TabP.cs at H0
  unfold TabP.v
  have hmf : ∀ (fn : Fn) (first cap : Array Value) (w : World), (Instr.makeFunc fn first cap).run Try.prog w = .ok (.func fn first cap) w := fun _ _ _ _ => rfl
  have eg : ∀ args w, (callFunc 50 args).run Try.prog w = .ok (.enter 50 args) w := enters_fn Try.func50 (by kernel_rfl) (by kernel_rfl)
  by_cases hmp : m = p
  · have t1 : ((m : Int) != (p : Int)) = false := by simp [hmp]
    have HMP := Box.mk hmp
    clear hmp
    go_enter Try.func26, Try.ntmps26
    go_wp2_with fail
    generalize ((w.alloc (.cells #[.string ⟨X.name.toArray⟩, .slice X.ca X.cols.length X.cc, .slice X.ia X.ixs.length X.ic, .slice X.ha X.chks.length X.hc] 26)).alloc (.cells #[.slice a n c] 28)) = w1 at *
    refine (ncontains_any (fun k => !placeB n k) _ _ eg cols b m d w1 (HC.out.below H0.out.2 (Nat.le_refl _)) (upd1_pred a n c _ w1 ((H0.out.1.blk 1 rfl).1.cellOf rfl))).mono ?_
    rintro e w2 ⟨rfl, hb2⟩
    have H2 := Box.mk (And.intro (H0.out.1.below hb2) (H0.out.2.trans (hb2.mono H0.out.2.size)))
    clear hb2
    cases hz : cols.any (fun k => !placeB n k) with
    | true =>
      obtain ⟨h1, h2⟩ := upd_bad (T := X.t) (r := r) (cols := cols) (vals := vals) (.inr (by rw [hln]; exact hz))
      obtain rfl := HEL.out.1.symm.trans h1
      obtain rfl := HEL.out.2.symm.trans h2
      clear h1 h2 hz
      go_wp2_with fail
      go_ret2
      exact RetRE.nil H2.out.2
    | false =>
      have HALL := Box.mk (show ∀ k, k < m → placeB n (cols.getD k 0) = true from fun k hk => by
        have := List.any_eq_false.1 hz (cols.getD k 0) (by rw [List.getD_eq_getElem?_getD, List.getElem?_eq_getElem (by omega)]; exact List.getElem_mem (by omega))
        simpa using this)
      have HOKC := Box.mk (show ¬ (cols.length ≠ vals.length ∨ cols.any (fun k => !placeB r.length k) = true) from by
        rw [hln, hz]; have := HMP.out; simp; omega)
      have x0 := (H2.out.1.blk 1 rfl).1.cellOf (i := 0) rfl
      clear hz
      go_wp2_with fail
      refine (clone_row (recC Val.enc r) a n c w2 (HR.out.below H2.out.2 (Nat.le_refl _)) (recC_one Val.enc_one _) (by omega)).mono ?_
      rintro e w3 ⟨hb3, a3, c3, rfl, hown3⟩
      have H3 := Box.mk (And.intro (H2.out.1.newRow hb3 hown3 (Nat.le_refl _)) (H2.out.2.trans (hb3.mono H2.out.2.size)))
      clear hb3 hown3 x0
      go_wp2_with fail
      go_loopw [28] (fun i wr => ∃ k : Nat, k ≤ m ∧ i = .int .i64 k ∧ Box ((∀ j, j < k → decide (cols.getD j 0 ∈ cols.take j) = false) ∧ Own w.heap.size wr [BlkP w.heap.size 26 [.string ⟨X.name.toArray⟩, .slice X.ca X.cols.length X.cc, .slice X.ia X.ixs.length X.ic, .slice X.ha X.chks.length X.hc], BlkP (w.heap.size + 1) 28 [.slice a n c], RowP 59 3 a3 n c3 (recC Val.enc (updUp r cols vals k))] ∧ Below w.heap.size w wr)) (fun i _ => m - (intOf i).toNat)
      case atStart => exact ⟨0, Nat.zero_le _, rfl, ⟨fun j hj => by omega, H3.out.1, H3.out.2⟩⟩
      case round =>
        clear H3 H2 H0
        obtain ⟨k, hk, rfl, HB⟩ := hrel
        by_cases hlt : k < m
        · obtain ⟨g, off, rfl, hcc⟩ := (HC.out.below HB.out.2.2 (Nat.le_refl _)).intAtD k hlt
          have hpl := HALL.out k hlt
          have HPR := Box.mk ((HC.out.below HB.out.2.2 (Nat.le_refl _)).pre k (by omega))
          rw [← intVals_take] at HPR
          have hUS : updUp r cols vals (k + 1) = (updUp r cols vals k).set (cols.getD k 0).toNat (vals.getD k default) := rfl
          have HT := Box.mk (fun h => upd_twice (T := X.t) HOKC.out (i := k) (by omega) h)
          have HAS := Box.mk (fun (h : decide (cols.getD k 0 ∈ cols.take k) = false) => show ∀ j, j < k + 1 → decide (cols.getD j 0 ∈ cols.take j) = false from fun j hj => by
            by_cases e : j = k
            · subst e; exact h
            · exact HB.out.1 j (by omega))
          generalize hx : cols.getD k 0 = x at *
          obtain ⟨hx0, hx1⟩ := placeB_true hpl
          obtain ⟨Y, rfl⟩ := Int.eq_ofNat_of_zero_le hx0
          have hY : Y < n := by omega
          have hkd : (k : Int) ≤ (d : Int) := by omega
          clear hx hpl hx0 hx1
          go_wp2_with fail
          refine (contains_any (cols.take k) (Y : Int) _ k d wr HPR.out).mono ?_
          rintro e w4 ⟨rfl, rfl⟩
          cases ht : decide ((Y : Int) ∈ cols.take k) with
          | true =>
            obtain ⟨h1, h2⟩ := HT.out ht
            obtain rfl := HEL.out.1.symm.trans h1
            obtain rfl := HEL.out.2.symm.trans h2
            clear h1 h2 ht HAS hUS
            go_wp2_with fail
            go_ret2
            exact RetRE.nil HB.out.2.2
          | false =>
            have HAS2 := Box.mk (HAS.out ht)
            obtain ⟨go, rfl⟩ := own_head (HB.out.2.1.row 2 rfl) (by omega)
            obtain ⟨g2, off2, hca, hgb, hvc⟩ := (HV.out.below HB.out.2.2 (Nat.le_refl _)).recAt Val.enc_len (by omega) k (by have := HMP.out; omega)
            have HUS := Box.mk hUS
            have hmp2 : k < p := by have := HMP.out; omega
            generalize hy : vals.getD k default = y at *
            obtain ⟨yk, yn, ys⟩ := y
            have c0 := hvc 0 _ rfl
            have c1 := hvc 1 _ rfl
            have c2' := hvc 2 _ rfl
            simp only [Nat.add_zero] at c0 c1 c2'
            subst hca
            have hul := updUp_len r cols vals k
            obtain ⟨cur, hbk, hcl, hown, hgr⟩ := own_storeN (HB.out.2.1.row 2 rfl) (Y * 3) [.int .i64 yk, .int .i64 yn, .string ⟨ys.toArray⟩] (by rw [recC_length Val.enc_len, hul, hln]; show Y * 3 + 3 ≤ _; omega)
            have hsp := recC_splice Val.enc_len (updUp r cols vals k) Y (by omega) ⟨yk, yn, ys⟩
            rw [show Val.enc ⟨yk, yn, ys⟩ = [.int .i64 yk, .int .i64 yn, .string ⟨ys.toArray⟩] from rfl] at hsp
            rw [hsp] at hown
            have HG := Box.mk (HB.out.2.1.grown 2 rfl hown hgr (fun ad had => .inl had))
            have HBK := Box.mk (And.intro hbk (show Y * 3 + 3 ≤ cur.length from hcl))
            clear hbk hcl hown hgr hsp hvc hgb hy ht HT HAS hUS hul
            go_wp2_with ((with_reducible show wpList _ _ _ _ _ _); refine wpList_store_part rfl 59 (.tmp 44) (.tmp 43) rfl rfl (size := 3) (off := Y * 3) (by kernel_rfl) HBK.out.1 HBK.out.2 rfl (cs := [.int .i64 yk, .int .i64 yn, .string ⟨ys.toArray⟩]) rfl rfl (Val.enc_one ⟨yk, yn, ys⟩) ?_)
            refine ⟨⟨k + 1, by omega, by go_num, ⟨HAS2.out, ?_, HB.out.2.2.trans HG.out.2⟩⟩, by simp [intOf]; omega⟩
            rw [HUS.out]; exact HG.out.1
        · obtain rfl : k = m := by omega
          generalize hv : fitsT X.t (updUp r cols vals cols.length) = v2
          have HGO := Box.mk (upd_go HOKC.out (fun i hi => HB.out.1 i (by omega)) hv)
          have HFV := Box.mk hv
          rw [hlm] at HFV HGO
          have x0 := (HB.out.2.1.blk 0 rfl).1.cellOf (i := 0) rfl
          have x1 := (HB.out.2.1.blk 0 rfl).1.cellOf (i := 1) rfl
          have x2 := (HB.out.2.1.blk 0 rfl).1.cellOf (i := 2) rfl
          have x3 := (HB.out.2.1.blk 0 rfl).1.cellOf (i := 3) rfl
          have HRO := Box.mk (Rd.ofOwn (HB.out.2.1.row 2 rfl))
          clear hv
          go_wp2_with fail
          refine (fits_is HFV.out (HX.out.below HB.out.2.2) HRO.out).mono ?_
          rintro e w5 ⟨rfl, hb5⟩
          have H5 := Box.mk (And.intro (HB.out.2.1.below hb5) (HB.out.2.2.trans (hb5.mono HB.out.2.2.size)))
          clear hb5 x0 x1 x2 x3
          by_cases h0 : v2 = 0
          · subst h0
            obtain rfl := HEL.out.1.symm.trans HGO.out.1
            have hLL := HEL.out.2.symm.trans (HGO.out.2.1 rfl)
            have HLL := Box.mk hLL
            clear hLL
            go_wp2_with fail
            go_ret2
            have hlen : L.length = n := by rw [HLL.out, updUp_len, hln]
            refine ⟨H5.out.2, a3, c3, by rw [hlen]; rfl, ?_⟩
            rw [hlen, HLL.out]; exact H5.out.1.rowB 2 rfl
          · have hvb : (v2 != 0) = true := by simp [h0]
            obtain rfl := HEL.out.1.symm.trans HGO.out.1
            obtain rfl := HEL.out.2.symm.trans (HGO.out.2.2 h0)
            clear h0
            go_wp2_with fail
            go_ret2
            exact RetRE.nil H5.out.2
  · have t1 : ((m : Int) != (p : Int)) = true := by simp; omega
    obtain ⟨h1, h2⟩ := upd_bad (T := X.t) (r := r) (cols := cols) (vals := vals) (.inl (by omega))
    obtain rfl := HEL.out.1.symm.trans h1
    obtain rfl := HEL.out.2.symm.trans h2
    clear hmp h1 h2
    go_enter Try.func26, Try.ntmps26
    go_wp2_with fail
    go_ret2
    exact RetRE.nil H0.out.2
end Go.Proofs.Ytpgdfhncigmmbaa
