/-
  The walk of copied. No condition.
-/
import Derived.Test.YtpgdfhncigmmbaaTOwn
namespace Go.Proofs.Ytpgdfhncigmmbaa
open Go.RowKit

/-- What lies in memory while a table is copied. -/
structure CpI (w : World) (X : TabP) (s1 s2 s3 : Value) (wr : World) : Prop where
  below : Below w.heap.size w wr
  blk : Blk wr w.heap.size 26 [.string ⟨X.name.toArray⟩, s1, s2, s3]
  blk2 : Blk wr (w.heap.size + 1) 26 [.string ⟨#[]⟩, .slice none 0 0, .slice none 0 0, .slice none 0 0]
theorem CpI.big {w wr : World} {X : TabP} {s1 s2 s3 : Value} (h : CpI w X s1 s2 s3 wr) : w.heap.size + 2 ≤ wr.heap.size := h.blk2.lt
theorem CpI.step {w wr wr' : World} {X : TabP} {s1 s2 s3 : Value} (h : CpI w X s1 s2 s3 wr) (hb : Below wr.heap.size wr wr') : CpI w X s1 s2 s3 wr' :=
  ⟨h.below.trans (hb.mono h.below.size), h.blk.call0 hb, h.blk2.call0 hb⟩
theorem CpI.grown {w wr wr' : World} {X : TabP} {s1 s2 s3 : Value} {g : Nat} (h : CpI w X s1 s2 s3 wr) (hg : wr.grownBy wr' (some g)) (hge : w.heap.size + 2 ≤ g) : CpI w X s1 s2 s3 wr' :=
  ⟨h.below.trans ⟨hg.os, hg.tape, hg.output, hg.size, fun k hk => hg.block k (by have := h.big; omega) (fun e => by cases e; omega)⟩, h.blk.eq (hg.block _ h.blk.lt (fun e => by cases e; omega)), h.blk2.eq (hg.block _ h.blk2.lt (fun e => by cases e; omega))⟩
theorem CpI.set1 {w wr : World} {X : TabP} {s1 s2 s3 : Value} (h : CpI w X s1 s2 s3 wr) (v : Value) : CpI w X v s2 s3 (wr.setCell ⟨w.heap.size, 1, none⟩ v) :=
  ⟨h.below.setCell (Nat.le_refl _) v, h.blk.set 1 v, h.blk2.other (by simp) v⟩
theorem CpI.set2 {w wr : World} {X : TabP} {s1 s2 s3 : Value} (h : CpI w X s1 s2 s3 wr) (v : Value) : CpI w X s1 v s3 (wr.setCell ⟨w.heap.size, 2, none⟩ v) :=
  ⟨h.below.setCell (Nat.le_refl _) v, h.blk.set 2 v, h.blk2.other (by simp) v⟩
theorem CpI.set3 {w wr : World} {X : TabP} {s1 s2 s3 : Value} (h : CpI w X s1 s2 s3 wr) (v : Value) : CpI w X s1 s2 v (wr.setCell ⟨w.heap.size, 3, none⟩ v) :=
  ⟨h.below.setCell (Nat.le_refl _) v, h.blk.set 3 v, h.blk2.other (by simp) v⟩
theorem CpI.start {w : World} (X : TabP) : CpI w X (.slice X.ca X.cols.length X.cc) (.slice X.ia X.ixs.length X.ic) (.slice X.ha X.chks.length X.hc)
    ((w.alloc (.cells #[.string ⟨X.name.toArray⟩, .slice X.ca X.cols.length X.cc, .slice X.ia X.ixs.length X.ic, .slice X.ha X.chks.length X.hc] 26)).alloc (.cells #[.string ⟨#[]⟩, .slice none 0 0, .slice none 0 0, .slice none 0 0] 26)) :=
  ⟨((Below.refl _ _).alloc (Nat.le_refl _) _).alloc (by simp) _, (Blk.new rfl rfl).alloc _, Blk.new (by simp) rfl⟩
theorem tab_one (s : ByteArray) (a b c : Option Addr) (n1 c1 n2 c2 n3 c3 : Nat) : ∀ u ∈ [Value.string s, .slice a n1 c1, .slice b n2 c2, .slice c n3 c3], u.oneCell' = true := by
  intro u hu; simp at hu; rcases hu with rfl | rfl | rfl | rfl <;> rfl
theorem own_rowL {w : World} {base B e size : Nat} {v : Value} {n : Nat} {xs : List Value} (h : w.ownsRow base e size v n xs) {b : Nat} (hb : b < base) (ds : Array Value) (hB : B ≤ base := by omega) : (w.setRow b ds).ownsRow B e size v n xs := by
  obtain ⟨hl, hd⟩ := h
  refine ⟨hl, ?_⟩
  rcases hd with hn | ⟨g, c, cur, hv, hbg, hh, rest⟩
  · exact .inl hn
  · exact .inr ⟨g, c, cur, hv, by omega, by rw [setRow_other w b g _ (by omega)]; exact hh, rest⟩
theorem tabT : AggT Try.prog 26 4 := ⟨by kernel_rfl, by kernel_rfl⟩
theorem clone_cells (l : List IxP) : ∀ u ∈ recC IxP.enc l, u.oneCell' = true := recC_one IxP.enc_one l
theorem own_setL {w : World} {base e size : Nat} {v : Value} {n : Nat} {xs : List Value} (h : w.ownsRow base e size v n xs) {b : Nat} (hb : b < base) (j : Nat) (u : Value) : (w.setCell ⟨b, j, none⟩ u).ownsRow base e size v n xs := ownsRow_setCell_below h hb u
theorem own_ge {w : World} {base e size n cap : Nat} {a : Option Addr} {xs : List Value} (h : w.ownsRow base e size (.slice a n cap) n xs) : ∀ ad, a = some ad → base ≤ ad.block ∧ ad.block < w.heap.size := fun ad ha => h.lt ad.block (by rw [ha]; rfl)

theorem nm_clints : (Try.f82.name == "runtime.NumGoroutine") = false := by kernel_rfl
theorem bd_clints : Try.f82.body.isNone = false := by kernel_rfl
/-- What a round of the copying keeps. -/
structure CpL (w w3 : World) (X : TabP) (s1 s3 : Value) (a : Option Addr) (c : Nat) (n : Nat) (L : List IxP) (wr : World) : Prop where
  cp : CpI w X s1 (.slice a n c) s3 wr
  own : wr.ownsRow (w.heap.size + 2) 91 3 (.slice a n c) n (recC IxP.enc L)
  nums : ∀ p ∈ L, Rd wr p.a p.x.cols.length p.cap 1 (intVals p.x.cols) ∧ 0 < p.x.cols.length ∧ p.x.cols.length ≤ 1000 ∧ ∀ ad, p.a = some ad → ad.block < w.heap.size ∨ w3.heap.size ≤ ad.block
  len : L.length = n
  xs : L.map (·.x) = X.ixs.map (·.x)
  keep : w3.grownBy wr (Value.slice a n c).ownBlock

set_option maxRecDepth 20000 in
set_option maxHeartbeats 4000000 in
theorem copied_any (X : TabP) (w : World) (hr : TabRd w X) (h1 : X.cols.length ≤ 1000) (h2 : X.ixs.length ≤ 1000) (h3 : X.chks.length ≤ 1000) (h4 : ∀ p ∈ X.ixs, 0 < p.x.cols.length ∧ p.x.cols.length ≤ 1000) :
    Calls Try.prog 58 #[X.v] w (RetCopy X.t w) := by
  have C0 := Box.mk (CpI.start (w := w) X)
  have HR := Box.mk hr
  have H4 := Box.mk h4
  clear hr h4
  unfold TabP.v
  have x1 := C0.out.blk.cellOf (i := 1) rfl
  go_enter Try.func58, Try.ntmps58
  go_wp2_with fail
  clear x1
  generalize ((w.alloc (.cells #[.string ⟨X.name.toArray⟩, .slice X.ca X.cols.length X.cc, .slice X.ia X.ixs.length X.ic, .slice X.ha X.chks.length X.hc] 26)).alloc (.cells #[.string ⟨#[]⟩, .slice none 0 0, .slice none 0 0, .slice none 0 0] 26)) = W0 at *
  refine (clone_cols _ _ _ _ W0 (HR.out.below C0.out.below).cols (recC_one Col.enc_one _) (by omega)).mono ?_
  rintro e w1 ⟨hb1, a1, c1, rfl, hown1⟩
  have C1 := Box.mk (C0.out.step hb1)
  have O1 := Box.mk (own_setL (own_base hown1 C0.out.big) (b := w.heap.size) (by omega) 1 (.slice a1 X.cols.length c1))
  have x1 := C1.out.blk.cellOf (i := 1) rfl
  have x3 := C1.out.blk.cellOf (i := 3) rfl
  have f1 := C1.out.blk.free 1
  clear hb1 hown1 C0
  go_wp2_with fail
  clear x1 x3 f1
  replace C1 := Box.mk (C1.out.set1 (.slice a1 X.cols.length c1))
  generalize (w1.setCell ⟨w.heap.size, 1, none⟩ (.slice a1 X.cols.length c1)) = W1 at *
  refine (clone_chks _ _ _ _ W1 (HR.out.below C1.out.below).chks (recC_one Chk.enc_one _) (by omega)).mono ?_
  rintro e w2 ⟨hb2, a2, c2, rfl, hown2⟩
  have C2 := Box.mk (C1.out.step hb2)
  have O12 := Box.mk (And.intro (own_setL (own_below O1.out hb2 (Nat.le_refl _)) (b := w.heap.size) (by omega) 3 (.slice a2 X.chks.length c2)) (own_setL (own_base hown2 C1.out.big) (b := w.heap.size) (by omega) 3 (.slice a2 X.chks.length c2)))
  have HNE := Box.mk (show ∀ a b, a1 = some a → a2 = some b → a.block ≠ b.block from fun a b ha hb => by
    have h1 := (own_ge O1.out a ha).2
    have h2 := (own_ge hown2 b hb).1
    omega)
  have x3 := C2.out.blk.cellOf (i := 3) rfl
  have x2 := C2.out.blk.cellOf (i := 2) rfl
  have f3 := C2.out.blk.free 3
  clear hb2 hown2 C1 O1
  go_wp2_with fail
  clear x2 x3 f3
  replace C2 := Box.mk (C2.out.set3 (.slice a2 X.chks.length c2))
  generalize (w2.setCell ⟨w.heap.size, 3, none⟩ (.slice a2 X.chks.length c2)) = W2 at *
  refine (clone_ixs _ _ _ _ W2 (HR.out.below C2.out.below).ixs (recC_one IxP.enc_one _) (by omega)).mono ?_
  rintro e w3 ⟨hb3, a3, c3, rfl, hown3⟩
  have C3 := Box.mk (C2.out.step hb3)
  have O3 := Box.mk (And.intro (own_setL (own_below O12.out.1 hb3 (Nat.le_refl _)) (b := w.heap.size) (by omega) 2 (.slice a3 X.ixs.length c3)) (And.intro (own_setL (own_below O12.out.2 hb3 (Nat.le_refl _)) (b := w.heap.size) (by omega) 2 (.slice a3 X.ixs.length c3)) (own_setL (own_base hown3 C2.out.big) (b := w.heap.size) (by omega) 2 (.slice a3 X.ixs.length c3))))
  have HNE3 := Box.mk (show (∀ a b, a1 = some a → a3 = some b → a.block ≠ b.block) ∧ (∀ a b, a3 = some a → a2 = some b → a.block ≠ b.block) from ⟨fun a b ha hb => by
    have h1 := (own_ge O12.out.1 a ha).2
    have h2 := (own_ge hown3 b hb).1
    omega, fun a b ha hb => by
    have h1 := (own_ge O12.out.2 b hb).2
    have h2 := (own_ge hown3 a ha).1
    omega⟩)
  have x2 := C3.out.blk.cellOf (i := 2) rfl
  have f2 := C3.out.blk.free 2
  clear hb3 hown3 C2 O12
  go_wp2_with fail
  clear x2 f2
  replace C3 := Box.mk (C3.out.set2 (.slice a3 X.ixs.length c3))
  generalize (w3.setCell ⟨w.heap.size, 2, none⟩ (.slice a3 X.ixs.length c3)) = W3 at *
  have HW3 := Box.mk C3.out.big
  have CL := Box.mk (show CpL w W3 X (.slice a1 X.cols.length c1) (.slice a2 X.chks.length c2) a3 c3 X.ixs.length X.ixs W3 from
    ⟨C3.out, O3.out.2.2, fun p hp => ⟨(HR.out.below C3.out.below).nums p hp, (H4.out p hp).1, (H4.out p hp).2, fun ad ha => .inl (by
      have hrd := HR.out.nums p hp
      obtain ⟨b, off, h5, h6⟩ := hrd.at 0 (H4.out p hp).1
      rw [ha] at h5; cases h5
      exact cell_block_lt (h6 0 (by rw [hrd.hlen]; have := (H4.out p hp).1; omega)))⟩, rfl, rfl, ⟨rfl, rfl, rfl, Nat.le_refl _, fun _ _ _ => rfl⟩⟩)
  go_loopw [19] (fun i wr => ∃ (k : Nat) (L : List IxP), k ≤ X.ixs.length ∧ i = .int .i64 k ∧ Box (CpL w W3 X (.slice a1 X.cols.length c1) (.slice a2 X.chks.length c2) a3 c3 X.ixs.length L wr) ∧ Box (∀ p ∈ L.take k, ∀ ad, p.a = some ad → W3.heap.size ≤ ad.block ∧ ad.block < wr.heap.size)) (fun i _ => X.ixs.length - (intOf i).toNat)
  case atStart => exact ⟨0, X.ixs, Nat.zero_le _, rfl, CL, ⟨by simp⟩⟩
  case round =>
    clear CL C3
    obtain ⟨k, L, hk, rfl, CL, HT⟩ := hrel
    by_cases hlt : k < X.ixs.length
    · have hn0 : 0 < X.ixs.length := by omega
      obtain ⟨gi, rfl⟩ : ∃ gi, a3 = some ⟨gi, 0, none⟩ := by
        rcases CL.out.own.2 with ⟨hv, h0⟩ | ⟨g, c, cur, hv, _⟩
        · omega
        · simp only [Value.slice.injEq] at hv; exact ⟨g, hv.1⟩
      have hgi := own_ge CL.out.own _ rfl
      simp only at hgi
      have hkl : k < L.length := by rw [CL.out.len]; exact hlt
      obtain ⟨g', off, hga, _, hc⟩ := (Rd.ofOwn CL.out.own).recAt IxP.enc_len (by omega) k hlt
      simp only [Option.some.injEq, Addr.mk.injEq, and_true] at hga
      obtain ⟨rfl, rfl⟩ := hga
      have hnum := CL.out.nums _ (getD_mem hkl)
      have HY := Box.mk (show ∃ y, y = L.getD k default from ⟨_, rfl⟩)
      obtain ⟨y, hy⟩ := HY.out
      rw [← hy] at hc hnum
      have HYE := Box.mk hy
      clear hy HY
      have HP := Box.mk hnum
      have cc1 := hc 1 _ rfl
      simp only [Nat.zero_add] at cc1
      have hyl := hnum.2.2.1
      clear hc hnum
      obtain ⟨⟨yn, yc, yu⟩, ya, yp⟩ := y
      simp only at cc1 hyl
      have HS0 : CpI w X (.slice a1 X.cols.length c1) (.slice (some ⟨gi, 0, none⟩) X.ixs.length c3) (.slice a2 X.chks.length c2) wr.drew := ⟨CL.out.cp.below.drew, CL.out.cp.blk.drew, CL.out.cp.blk2.drew⟩
      have hOW : wr.drew.ownsRow (w.heap.size + 2) 91 3 (.slice (some ⟨gi, 0, none⟩) X.ixs.length c3) X.ixs.length (recC IxP.enc L) := CL.out.own
      have HOW := Box.mk hOW
      have RN := Box.mk (show Rd wr.drew ya yc.length yp 1 (intVals yc) from HP.out.1.drew)
      have HC1 := Box.mk (show wr.drew.cell? ⟨gi, k * 3 + 1, none⟩ = some (.slice ya yc.length yp) from cc1)
      clear cc1 hOW
      go_wp2_with fail
      refine wp_region_held_drew (S := fun w' => CpI w X (.slice a1 X.cols.length c1) (.slice (some ⟨gi, 0, none⟩) X.ixs.length c3) (.slice a2 X.chks.length c2) w') (by kernel_rfl) HS0 (fun _ => ?_)
      refine wpAnyH_take (i := 0) (v := ?_) rfl (by kernel_rfl) (by kernel_rfl) (by kernel_rfl) (fun _ _ _ h => h) (yieldsIf_val (by rfl) (fun w' hS => ?_)) HS0 ?_
      rotate_left
      · skip
        go_simp
        all_goals with_reducible rfl
      conv =>
        arg 8
        simp [go_sem]
      refine wpAnyH_take (i := 1) (v := ?_) rfl (by kernel_rfl) (by kernel_rfl) (by kernel_rfl) (fun _ _ _ h => h) (yieldsIf_val (by rfl) (fun w' hS => ?_)) HS0 ?_
      rotate_left
      · skip
        have e := hS.blk.cellOf (i := 2) rfl
        go_simp
        all_goals with_reducible rfl
      conv =>
        arg 8
        simp [go_sem]
      refine wpAnyH_take (i := 2) (v := ?_) rfl (by kernel_rfl) (by kernel_rfl) (by kernel_rfl) (fun _ _ _ h => h) (yieldsIf_val (by rfl) (fun w' hS => ?_)) HS0 ?_
      rotate_left
      · skip
        go_simp
        all_goals with_reducible rfl
      conv =>
        arg 8
        simp [go_sem]
      refine wpAnyH_take (i := 3) (v := ?_) rfl (by kernel_rfl) (by kernel_rfl) (by kernel_rfl) (fun _ _ _ h => h) (yieldsIf_val (by rfl) (fun w' hS => ?_)) HS0 ?_
      rotate_left
      · skip
        go_simp
        all_goals with_reducible rfl
      conv =>
        arg 8
        simp [go_sem]
      refine wpAnyH_take (i := 4) (v := ?_) rfl (by kernel_rfl) (by kernel_rfl) (by kernel_rfl) (fun _ _ _ h => h) (yieldsIf_val (by rfl) (fun w' hS => ?_)) HS0 ?_
      rotate_left
      · skip
        have e := hS.blk.cellOf (i := 2) rfl
        go_simp
        all_goals with_reducible rfl
      conv =>
        arg 8
        simp [go_sem]
      refine wpAnyH_take (i := 5) (v := ?_) rfl (by kernel_rfl) (by kernel_rfl) (by kernel_rfl) (fun _ _ _ h => h) (yieldsIf_val (by rfl) (fun w' hS => ?_)) HS0 ?_
      rotate_left
      · skip
        go_simp
        all_goals with_reducible rfl
      conv =>
        arg 8
        simp [go_sem]
      refine wpAnyH_take (i := 6) (v := ?_) rfl (by kernel_rfl) (by kernel_rfl) (by kernel_rfl) (fun _ _ _ h => h) (yieldsIf_val (by rfl) (fun w' hS => ?_)) HS0 ?_
      rotate_left
      · skip
        go_simp
        all_goals with_reducible rfl
      conv =>
        arg 8
        simp [go_sem]
      refine wpAnyH_take (i := 7) (v := ?_) rfl (by kernel_rfl) (by kernel_rfl) (by kernel_rfl) (fun _ _ _ h => h) (yieldsIf_val (by rfl) (fun w' hS => ?_)) HS0 ?_
      rotate_left
      · skip
        go_simp
        all_goals with_reducible rfl
      conv =>
        arg 8
        simp [go_sem]
      conv =>
        arg 8
        simp [go_sem]
      refine wpAnyH_ready (rs := [8]) (by kernel_rfl) (by simp) (AllReadyH.cons rfl (fun K' hK' => oper_val (by rfl) (v := .slice ya yc.length yp) (by have e := HC1.out; go_simp) ?_) AllReadyH.nil)
      have HT1 := HS0
      refine hK'.out _ _ HT1 (fun _ => ?_)
      clear hK' K'
      conv =>
        arg 8
        simp [go_sem]
      conv =>
        arg 8
        simp [go_sem]
      refine wpAnyH_ready (rs := [9]) (by kernel_rfl) (by simp) (AllReadyH.cons rfl (fun K' hK' => oper_call (by rfl) 82 [.tmp 30] #[29] rfl (vs := [.slice ya yc.length yp]) rfl Try.func82 nm_clints bd_clints (clone_ints (intVals yc) ya yc.length yp _ RN.out (intVals_one _) (by omega)) ?_) AllReadyH.nil)
      rintro e w5 ⟨hb5, a5, c5, rfl, hown5⟩
      have O5 := own_below HOW.out hb5 (Nat.le_refl _)
      have HT2 := HT1.step hb5
      refine ⟨_, rfl, hK'.out _ _ HT2 (fun _ => ?_)⟩
      clear hK' K'
      conv =>
        arg 8
        simp [go_sem]
      refine wpAnyH_take (i := 10) (v := ?_) rfl (by kernel_rfl) (by kernel_rfl) (by kernel_rfl) (fun _ _ _ h => h) (yieldsIf_val (by rfl) (fun w' hS => ?_)) HT2 ?_
      rotate_left
      · skip
        go_simp
        all_goals with_reducible rfl
      conv =>
        arg 8
        simp [go_sem]
      refine wpAnyH_take (i := 11) (v := ?_) rfl (by kernel_rfl) (by kernel_rfl) (by kernel_rfl) (fun _ _ _ h => h) (yieldsIf_val (by rfl) (fun w' hS => ?_)) HT2 ?_
      rotate_left
      · skip
        go_simp
        all_goals with_reducible rfl
      conv =>
        arg 8
        simp [go_sem]
      conv =>
        arg 8
        simp [go_sem]
      obtain ⟨cur7, hB7, hcl7, hown7, hg7⟩ := own_store1 O5 (k * 3 + 1) (by rw [recC_length IxP.enc_len]; omega) (.slice a5 yc.length c5)
      refine wpAnyH_ready (rs := [12]) (by kernel_rfl) (by simp) (AllReadyH.cons rfl (fun K' hK' => oper_store_part (by rfl) 29 (.tmp 33) (.tmp 31) rfl rfl (size := 1) (g := gi) (off := k * 3 + 1) (by kernel_rfl) hB7 hcl7 (by go_simp) (cs := [.slice a5 yc.length c5]) rfl rfl (by simp [Value.oneCell']) ?_) AllReadyH.nil)
      have HT3 := HT2.grown hg7 hgi.1
      refine hK'.out _ _ HT3 (fun _ => ?_)
      clear hK' K'
      conv =>
        arg 8
        simp [go_sem]
      refine ⟨by kernel_rfl, ?_⟩
      conv =>
        arg 5
        simp [go_sem]
      go_wp2_with fail
      go_roundw
      case rel =>
        have hg3 := (own_ge O3.out.2.2 _ rfl).2
        simp only at hg3
        have hsz := CL.out.keep.size
        have hb5s : wr.heap.size ≤ w5.heap.size := hb5.size
        refine ⟨k + 1, L.set k ⟨⟨yn, yc, yu⟩, a5, c5⟩, by omega, by go_num, ⟨HT3, ?_, ?_, by rw [List.length_set]; exact CL.out.len, ?_, ?_⟩, ⟨?_⟩⟩
        · rw [← recC_set IxP.enc_len L k hkl 1 (by omega) (.slice a5 yc.length c5) ⟨⟨yn, yc, yu⟩, a5, c5⟩ (by rw [← HYE.out]; rfl)]
          exact hown7
        · intro p hp
          rcases List.mem_or_eq_of_mem_set hp with h | h
          · obtain ⟨n1, n2, n3, n4⟩ := CL.out.nums p h
            exact ⟨((n1.drew).call0 hb5).grown hg7 (fun ad ha e => by cases e; rcases n4 ad ha with h | h <;> omega), n2, n3, n4⟩
          · subst h
            have hge := own_ge hown5
            have h5 : ∀ ad, a5 = some ad → wr.heap.size ≤ ad.block := fun ad ha => (hge ad ha).1
            exact ⟨(Rd.ofOwn hown5).grown hg7 (fun ad ha e => by cases e; have := h5 ad ha; omega), HP.out.2.1, HP.out.2.2.1, fun ad ha => .inr (by have := h5 ad ha; omega)⟩
        · rw [List.map_set, ← CL.out.xs]
          refine List.ext_getElem (by simp) (fun i hi hj => ?_)
          rw [List.getElem_set]
          split
          · rename_i e; subst e
            rw [List.getElem_map]
            have : L[k] = L.getD k default := by rw [List.getD_eq_getElem?_getD, List.getElem?_eq_getElem hkl]; rfl
            rw [this, ← HYE.out]
          · rfl
        · have hk2 := CL.out.keep
          exact ⟨hg7.os.trans (hb5.os.trans hk2.os), hg7.tape.trans (hb5.tape.trans hk2.tape), hg7.output.trans (hb5.output.trans hk2.output), by have := hg7.size; omega, fun j hj hne => by
            rw [hg7.block j (by omega) hne, hb5.block j (by show j < wr.heap.size; omega)]
            exact hk2.block j hj hne⟩
        · intro p hp ad ha
          obtain ⟨i, hi, rfl⟩ := List.mem_take_iff_getElem.1 hp
          rw [List.getElem_set] at ha
          split at ha
          · have := own_ge hown5 ad ha
            have h2 : wr.drew.heap.size = wr.heap.size := rfl
            have := hg7.size
            omega
          · rename_i hne
            have := HT.out _ (List.mem_take_iff_getElem.2 ⟨i, by rw [List.length_set] at hi; omega, rfl⟩) ad ha
            have := hg7.size
            omega
      case measure => simp [intOf]; omega
    · have x0 := CL.out.cp.blk.cellOf (i := 0) rfl
      have x1 := CL.out.cp.blk.cellOf (i := 1) rfl
      have x2 := CL.out.cp.blk.cellOf (i := 2) rfl
      have x3 := CL.out.cp.blk.cellOf (i := 3) rfl
      go_wp2_with (with_reducible refine wpList_store_row rfl _ _ _ rfl rfl (by kernel_rfl) CL.out.cp.blk2 rfl rfl (cs := [.string ⟨X.name.toArray⟩, .slice a1 X.cols.length c1, .slice a3 X.ixs.length c3, .slice a2 X.chks.length c2]) rfl rfl (tab_one _ _ _ _ _ _ _ _ _ _) ?_)
      have hlen := CL.out.len
      have hkp := CL.out.keep
      have o1 : wr.ownsRow (w.heap.size + 2) 55 3 (.slice a1 X.cols.length c1) X.cols.length (recC Col.enc X.cols) := own_eq O3.out.1 (fun j hj => hkp.block j ((O3.out.1).lt j hj).2 (fun e => by
        obtain ⟨x, hx1, hx2⟩ := ownBlock_eq hj
        obtain ⟨y, hy1, hy2⟩ := ownBlock_eq e.symm
        exact HNE3.out.1 x y hx1 hy1 (hx2.trans hy2.symm)))
      have o2 : wr.ownsRow (w.heap.size + 2) 86 5 (.slice a2 X.chks.length c2) X.chks.length (recC Chk.enc X.chks) := own_eq O3.out.2.1 (fun j hj => hkp.block j ((O3.out.2.1).lt j hj).2 (fun e => by
        obtain ⟨x, hx1, hx2⟩ := ownBlock_eq hj
        obtain ⟨y, hy1, hy2⟩ := ownBlock_eq e.symm
        exact HNE3.out.2 y x hy1 hx1 (hy2.trans hx2.symm)))
      have hfar : ∀ p ∈ L, ∀ ad, p.a = some ad → ad.block ≠ w.heap.size + 1 := fun p hp ad ha e => by
        have h := (CL.out.nums p hp).2.2.2 ad ha
        have hb := CL.out.cp.big
        have h3 := HW3.out
        omega
      refine bodyPost_ret (results_cell1 rfl _ rfl (CL.out.cp.blk2.row [.string ⟨X.name.toArray⟩, .slice a1 X.cols.length c1, .slice a3 X.ixs.length c3, .slice a2 X.chks.length c2]) tabT) rfl ?_
      refine ⟨below_setRow CL.out.cp.below (by omega) _, ⟨X.name, a1, c1, X.cols, a3, c3, L, a2, c2, X.chks⟩, ?_, ⟨own_rowL o1 (by omega) _, ?_, own_rowL o2 (by omega) _, fun p hp => ?_, HNE3.out.1, HNE.out, HNE3.out.2, ?_, ?_, ?_⟩, ?_⟩
      · show Ending.returned _ = Ending.returned (TabP.v _)
        unfold TabP.v
        simp only [hlen]
      · rw [show (⟨X.name, a1, c1, X.cols, a3, c3, L, a2, c2, X.chks⟩ : TabP).ixs.length = X.ixs.length from hlen]
        exact own_rowL CL.out.own (by omega) _
      · exact ((CL.out.nums p hp).1).eq (fun ad ha => setRow_other wr _ _ _ (hfar p hp ad ha))
      · intro p hp a b ha hb e
        have h := (CL.out.nums p hp).2.2.2 a ha
        have h2 := own_ge O3.out.1 b hb
        omega
      · intro p hp a b ha hb e
        have h := (CL.out.nums p hp).2.2.2 a ha
        have h2 := own_ge O3.out.2.2 b hb
        omega
      · intro p hp a ha
        have := HT.out p (by rw [List.take_of_length_le (by omega)]; exact hp) a ha
        have := HW3.out
        have h9 : ∀ ds, (wr.setRow (w.heap.size + 1) ds).heap.size = wr.heap.size := fun ds => by simp
        rw [h9]
        omega
      · unfold TabP.t
        simp only [CL.out.xs]
end Go.Proofs.Ytpgdfhncigmmbaa
