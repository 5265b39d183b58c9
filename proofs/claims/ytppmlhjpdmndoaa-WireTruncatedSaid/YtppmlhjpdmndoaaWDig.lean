/-
  The walks of slices.Clone, digest, and the encodings of lists of digests, program and reference. No condition.
-/
import Derived.Test.YtppmlhjpdmndoaaWRefList
import Derived.Test.YtppmlhjpdmndoaaMemC
namespace Go.Proofs.Ytppmlhjpdmndoaa
open Go.RowKit

theorem agg57 : AggT Try.prog 57 16 := ⟨by kernel_rfl, by kernel_rfl⟩

theorem byteVals_nil {l : List UInt8} (h : byteVals l = []) : l = [] := by cases l with | nil => rfl | cons x y => simp [byteVals] at h

theorem Rd.blen {w : World} {a : Option Addr} {n cap : Nat} {l : List UInt8} (h : Rd w a n cap 1 (byteVals l)) : n = l.length := by
  have := h.hlen; rw [byteVals_length] at this; omega

set_option maxRecDepth 20000 in
set_option maxHeartbeats 400000 in
theorem clone_any (l : List UInt8) (a : Option Addr) (n cap : Nat) (w : World) (hrd : Rd w a n cap 1 (byteVals l)) (hn : n ≤ 1099511627776) :
    Calls Try.prog 48 #[.slice a n cap] w (RetB l w) := by
  have heq := Lib.run_eql_slice_nil (P := Try.prog) w 28 5 a n cap 0 0 sl28.ht
  have Hn := Lib.hid hrd.blen
  cases a with
  | none =>
    obtain rfl := byteVals_nil (hrd.hnil rfl)
    go_enter Try.func48, Try.ntmps48
    go_wp2_with fail
    go_ret
    exact ⟨none, 0, rfl, World.ownsRow_nil _ _ _ _, Below.refl _ _⟩
  | some ad =>
    have hown : (w.alloc (.cells #[] 5)).ownsRow w.heap.size 5 1 (.slice (some ⟨w.heap.size, 0, none⟩) 0 0) 0 [] := World.ownsRow_lit w #[] 0 (Nat.le_refl _) (Nat.zero_le _) rfl
    have hbel : Below w.heap.size w (w.alloc (.cells #[] 5)) := (Below.refl _ _).alloc (Nat.le_refl _) _
    go_enter Try.func48, Try.ntmps48
    go_wp2_with (at_builtin; refine wpList_append_src rfl _ _ 28 28 rfl sl28 (.inl sl28.ht) rfl hown rfl (Src.below hrd (byteVals_one _) hbel (Nat.le_refl _)) (by omega) (by unfold maxLen; omega) (by simp) ?_; intro a3 cap3 w3 hown3 hgr3 _)
    have hb3 := below_grown hbel hgr3 hown (Nat.le_refl _) (by simp)
    simp only [Nat.zero_add, List.nil_append] at hown3
    go_ret
    exact retB_mk (l := l) rfl hown3 hb3 (Nat.le_refl _) Hn.out rfl rfl

/-- A block just laid, read as a slice. -/
theorem rd_new (w : World) (cs : List Value) (e : TypeId) (n : Nat) (hn : cs.length = n) (hm : n ≤ maxLen) : Rd (w.alloc (.cells cs.toArray e)) (some ⟨w.heap.size, 0, none⟩) n n 1 cs :=
  ⟨by omega, Nat.le_refl _, hm, fun h => (by cases h), fun ad ha j u hu => by
    simp only [Option.some.injEq] at ha; subst ha
    exact block_cells (heap_alloc_new w _) 0 cs (fun j hj => by simp) j u hu⟩

set_option maxRecDepth 20000 in
set_option maxHeartbeats 400000 in
theorem digest_any (d : List UInt8) (hd : d.length = 16) (w : World) :
    Calls Try.prog 41 #[.agg (byteVals d).toArray] w (RetB d w) := by
  have hrd := rd_new w (byteVals d) 57 16 (by rw [byteVals_length, hd]) (by decide)
  clear hd
  go_enter Try.func41, Try.ntmps41
  go_wp2_with (go_at_call 48; refine (clone_any d _ 16 16 _ hrd (by omega)).mono ?_; rintro e w1 ⟨a2, cap2, rfl, hown2, hb2⟩)
  go_ret
  exact ⟨a2, cap2, rfl, own_base hown2 (by simp), ((Below.refl _ _).alloc (Nat.le_refl _) _).trans (hb2.mono (by simp))⟩

/-- The cells of a list of digests. -/
def digVals (ds : List (List UInt8)) : List Value := byteVals ds.flatten

theorem flatten_at {ds : List (List UInt8)} (hd : ∀ d ∈ ds, d.length = 16) (k : Nat) (hk : k < ds.length) (j : Nat) (hj : j < 16) :
    ds.flatten[k * 16 + j]? = (ds[k])[j]? := by
  induction ds generalizing k with
  | nil => simp at hk
  | cons d ds ih =>
    have hd0 := hd d (by simp)
    rw [List.flatten_cons]
    cases k with
    | zero => rw [List.getElem?_append_left (by omega)]; simp
    | succ k =>
      rw [List.getElem?_append_right (by omega), hd0, show (k + 1) * 16 + j - 16 = k * 16 + j from by omega, ih (fun x hx => hd x (by simp [hx])) k (by simpa using hk)]
      simp

theorem flatten_len {ds : List (List UInt8)} (hd : ∀ d ∈ ds, d.length = 16) : ds.flatten.length = ds.length * 16 := by
  induction ds with
  | nil => rfl
  | cons d ds ih => rw [List.flatten_cons, List.length_append, hd d (by simp), ih (fun x hx => hd x (by simp [hx])), List.length_cons]; omega

theorem Rd.digAt {w : World} {a : Option Addr} {n cap : Nat} {ds : List (List UInt8)} (h : Rd w a n cap 16 (digVals ds)) (hd : ∀ d ∈ ds, d.length = 16) (k : Nat) (hk : k < ds.length) :
    ∃ b off, a = some ⟨b, off, none⟩ ∧ Rd w (some ⟨b, off + k * 16, none⟩) 16 16 1 (byteVals ds[k]) := by
  have hfl := flatten_len hd
  have hdk := hd ds[k] (List.getElem_mem _)
  cases ha : a with
  | none =>
    have := h.hnil ha
    unfold digVals at this
    have := byteVals_nil this
    rw [this] at hfl
    simp at hfl; omega
  | some ad =>
    have hx : ∀ j u, (byteVals ds[k])[j]? = some u → w.cell? (ad.add (k * 16 + j)) = some u := by
      intro j u hu
      refine h.hcell ad ha _ u ?_
      unfold digVals byteVals at *
      rw [List.getElem?_map] at hu ⊢
      have hj : j < 16 := by
        rcases Nat.lt_or_ge j 16 with h | h
        · exact h
        · rw [List.getElem?_eq_none (by omega)] at hu; simp at hu
      rw [flatten_at hd k hk j hj]; exact hu
    have h0 : (digVals ds)[0]? = some ((digVals ds)[0]'(by unfold digVals; rw [byteVals_length]; omega)) := List.getElem?_eq_getElem _
    have hc := h.hcell ad ha 0 _ h0
    have hs := spot_none hc
    have hs' : ad.spot = none := by simpa [Addr.add] using hs
    obtain ⟨b, off, sp⟩ := ad
    simp only at hs'
    subst hs'
    refine ⟨b, off, rfl, by rw [byteVals_length, hdk], Nat.le_refl _, by decide, fun h => (by cases h), fun ad had j u hu => ?_⟩
    simp only [Option.some.injEq] at had
    subst had
    have := hx j u hu
    rw [← add_add] at this
    rwa [show (⟨b, off, none⟩ : Addr).add (k * 16) = ⟨b, off + k * 16, none⟩ from (by unfold Addr.add; split <;> simp_all)] at this

theorem encTo_dig_len (ds : List (List UInt8)) (hd : ∀ d ∈ ds, d.length = 16) (hn : ds.length ≤ 1099511627776) (k : Nat) (hk : k ≤ ds.length) :
    (encTo (fun d => d) ds k).length ≤ 10 + 16 * k := by
  induction k with
  | zero => rw [encTo_zero]; have := enc_len (ds.length : Int) (by omega) (by omega); omega
  | succ k ih =>
    rw [← encTo_succ (fun d => d) ds k (by omega), List.length_append]
    have := ih (by omega)
    have h1 := hd ds[k] (List.getElem_mem _)
    omega

set_option maxRecDepth 20000 in
set_option maxHeartbeats 400000 in
theorem refDigests_any (ds : List (List UInt8)) (a : Option Addr) (cap : Nat) (w : World) (hrd : Rd w a ds.length cap 16 (digVals ds)) (hd : Hid (∀ d ∈ ds, d.length = 16)) (hn : ds.length ≤ 1099511627776) :
    Calls Try.prog 23 #[.slice a ds.length cap] w (RetB (encL (fun d => d) ds) w) := by
  go_enter Try.func23, Try.ntmps23
  go_wp2_with (go_at_call 15; refine (refInt_any _ _ (by omega) (by omega)).mono ?_; rintro e w1 ⟨a2, cap2, rfl, hown2, hb2⟩)
  go_loopw [3, 4] (fun v i wr => ∃ (k : Nat) (l : List UInt8) (a : Option Addr) (cap : Nat), k ≤ ds.length ∧ i = .int .i64 k ∧ v = .slice a l.length cap ∧ wr.ownsRow w.heap.size 5 1 (.slice a l.length cap) l.length (byteVals l) ∧ Below w.heap.size w wr ∧ Hid (l = encTo (fun d => d) ds k))
    (fun _ i _ => ds.length - (intOf i).toNat)
  case atStart => exact ⟨0, _, a2, cap2, Nat.zero_le _, rfl, rfl, hown2, hb2, (encTo_zero _ ds).symm⟩
  case round =>
    obtain ⟨k, l, a1, cap1, hk, rfl, rfl, hown, hbel, HE⟩ := hrel
    have hsz := hbel.size
    have hll : l.length ≤ 10 + 16 * k := by rw [HE.out]; exact encTo_dig_len ds hd.out hn k hk
    by_cases hlt : k < ds.length
    · obtain ⟨b, off, rfl, hrk⟩ := hrd.digAt hd.out k hlt
      have hS := Lib.hid (encTo_succ (fun d => d) ds k hlt)
      have hxl := Lib.hid (hd.out ds[k] (List.getElem_mem _))
      clear hown2 hb2
      generalize ds[k] = x at *
      go_wp2_with (at_builtin; refine wpList_append_src rfl _ _ 28 28 rfl sl28 (.inl sl28.ht) rfl hown rfl (Src.below hrk (byteVals_one _) hbel (Nat.le_refl _)) (by omega) (by unfold maxLen; omega) (by omega) ?_; intro a3 cap3 w3 hown3 hgr3 _)
      have hb3 := below_grown hbel hgr3 hown (Nat.le_refl _) hsz
      go_roundw
      case rel => exact ⟨k + 1, l ++ x, a3, cap3, by omega, by go_num, by rw [List.length_append, hxl.out], by rw [List.length_append, byteVals_append, hxl.out]; exact hown3, hb3, by show _ = _; rw [← hS.out, HE.out]⟩
      case measure => simp [intOf]; omega
    · have hkl : k = ds.length := by omega
      subst hkl
      go_wp2_with fail
      go_ret
      exact retB_mk (l := l) rfl hown hbel (Nat.le_refl _) rfl rfl (by rw [HE.out, encTo_all])

set_option maxRecDepth 20000 in
set_option maxHeartbeats 400000 in
theorem listDig_any (ds : List (List UInt8)) (a : Option Addr) (cap : Nat) (w : World) (hrd : Rd w a ds.length cap 16 (digVals ds)) (hd : Hid (∀ d ∈ ds, d.length = 16)) (hn : ds.length ≤ 1099511627776) :
    Calls Try.prog 40 #[.slice a ds.length cap, .func (.func 41) #[] #[]] w (RetB (encL (fun d => d) ds) w) := by
  go_enter Try.func40, Try.ntmps40
  go_wp2_with (go_at_call 14; refine (int_any _ _ (by omega) (by omega)).mono ?_; rintro e w1 ⟨a2, cap2, rfl, hown2, hb2⟩)
  go_loopw [5, 13] (fun v i wr => ∃ (k : Nat) (l : List UInt8) (a : Option Addr) (cap : Nat), k ≤ ds.length ∧ i = .int .i64 k ∧ v = .slice a l.length cap ∧ wr.ownsRow w.heap.size 5 1 (.slice a l.length cap) l.length (byteVals l) ∧ Below w.heap.size w wr ∧ Hid (l = encTo (fun d => d) ds k))
    (fun _ i _ => ds.length - (intOf i).toNat)
  case atStart => exact ⟨0, _, a2, cap2, Nat.zero_le _, rfl, rfl, hown2, hb2, (encTo_zero _ ds).symm⟩
  case round =>
    obtain ⟨k, l, a1, cap1, hk, rfl, rfl, hown, hbel, HE⟩ := hrel
    have hsz := hbel.size
    have hll : l.length ≤ 10 + 16 * k := by rw [HE.out]; exact encTo_dig_len ds hd.out hn k hk
    by_cases hlt : k < ds.length
    · obtain ⟨b, off, rfl, hrk0⟩ := hrd.digAt hd.out k hlt
      have hrk := hrk0.below hbel (Nat.le_refl _)
      clear hrk0
      have hS := Lib.hid (encTo_succ (fun d => d) ds k hlt)
      have hxl := Lib.hid (hd.out ds[k] (List.getElem_mem _))
      clear hown2 hb2
      generalize ds[k] = x at *
      have hxl2 : (byteVals x).length = 16 := by rw [byteVals_length, hxl.out]
      have Hx2 := Lib.hid hxl2; clear hxl2
      go_wp2_with (first
        | ((with_reducible show wpList _ _ _ _ _ _); refine wpList_load_agg (o := ⟨some 16, _, _, _, _, _⟩) rfl 57 _ rfl agg57 rfl Hx2.out (hrk.hcell _ rfl) ?_)
        | ((with_reducible show wpList _ _ _ _ _ _); refine wpList_store_fresh (o := ⟨none, .store 57 (.tmp 7) (.tmp 16), _, _, _, _⟩) rfl 57 _ _ rfl rfl agg57.info rfl rfl rfl Hx2.out (byteVals_one _) ?_)
        | ((with_reducible show wpList _ _ _ _ _ _); refine wpList_load_agg (o := ⟨some 19, _, _, _, _, _⟩) rfl 57 _ rfl agg57 rfl Hx2.out (block_cells (heap_alloc_new _ _) 0 _ (fun j hj => by simp)) ?_)
        | (go_at_call 41; refine (digest_any x hxl.out _).mono ?_; rintro e w2 ⟨a2, cap2, rfl, hown2, hb2⟩)
        | (at_builtin; refine wpList_append_src rfl _ _ 28 28 rfl sl28 (.inl sl28.ht) rfl (own_below (hown.alloc _) hb2 (Nat.le_refl _)) rfl (Src.ofRd (Rd.ofOwn hown2) (byteVals_one _)) (by have := hxl.out; omega) (by have := hxl.out; unfold maxLen; omega) (by have := hb2.size; simp at this; omega) ?_; intro a3 cap3 w3 hown3 hgr3 _))
      have hb3 := below_grown ((hbel.alloc hsz _).trans (hb2.mono (by simp; omega))) hgr3 (own_below (hown.alloc _) hb2 (Nat.le_refl _)) (Nat.le_refl _) (by have := hb2.size; simp at this; omega)
      go_roundw
      case rel => exact ⟨k + 1, l ++ x, a3, cap3, by omega, by go_num, by rw [List.length_append], by rw [List.length_append, byteVals_append]; exact hown3, hb3, by show _ = _; rw [← hS.out, HE.out]⟩
      case measure => simp [intOf]; omega
    · have hkl : k = ds.length := by omega
      subst hkl
      go_wp2_with fail
      go_ret
      exact retB_mk (l := l) rfl hown hbel (Nat.le_refl _) rfl rfl (by rw [HE.out, encTo_all])

set_option maxHeartbeats 400000 in
theorem digests_any (ds : List (List UInt8)) (a : Option Addr) (cap : Nat) (w : World) (hrd : Rd w a ds.length cap 16 (digVals ds)) (hd : Hid (∀ d ∈ ds, d.length = 16)) (hn : ds.length ≤ 1099511627776) :
    Calls Try.prog 22 #[.slice a ds.length cap] w (RetB (encL (fun d => d) ds) w) := by
  go_enter Try.func22, Try.ntmps22
  go_wp2_with (go_at_call 40; refine (listDig_any ds a cap _ hrd hd hn).mono ?_; rintro e w1 ⟨a2, cap2, rfl, hown2, hb2⟩)
  go_ret
  exact ⟨a2, cap2, rfl, hown2, hb2⟩
end Go.Proofs.Ytppmlhjpdmndoaa
