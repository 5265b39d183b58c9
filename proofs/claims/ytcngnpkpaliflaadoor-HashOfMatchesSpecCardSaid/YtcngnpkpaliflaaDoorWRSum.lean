/-
  The walk of the reference's Sum. No condition.
-/
import Derived.Test.YtcngnpkpaliflaaDoorWRWords
import Derived.Test.YtcngnpkpaliflaaDoorWStSum
namespace Go.Proofs.YtcngnpkpaliflaaDoor
open Go.RowKit

/-- The reference's constants lie in memory. -/
def KonsR (w : World) : Prop := ∀ t, t < 64 → w.cell? ⟨0, t, none⟩ = some (.int .u32 ((kAt t).toNat : Int))
theorem KonsR.below {w w' : World} {B : Nat} (h : KonsR w) (hb : Below B w w') (hB : 0 < B) : KonsR w' := fun t ht => by
  rw [hb.cell (p := ⟨0, t, none⟩) hB]; exact h t ht
theorem cell_of_block {w w' : World} {p : Addr} (h : w'.heap[p.block]? = w.heap[p.block]?) : w'.cell? p = w.cell? p := by unfold World.cell?; rw [h]
theorem Rd.other {w : World} {a : Option Addr} {n cap size : Nat} {xs : List Value} (h : Rd w a n cap size xs) {p : Addr} (hp : ∀ ad, a = some ad → ad.block ≠ p.block) (v : Value) : Rd (w.setCell p v) a n cap size xs :=
  ⟨h.hlen, h.hcap, h.hmax, h.hnil, fun ad ha j u hu => by
    have hc := h.hcell ad ha j u hu
    rw [cell_of_block (w := w) (by rw [add_block]; exact Below.heap_setCell _ _ _ _ (hp ad ha))]; exact hc⟩
theorem own_block {w : World} {base e size n cap : Nat} {a : Option Addr} {m : Nat} {xs : List Value} (h : w.ownsRow base e size (.slice a n cap) m xs) : ∀ ad, a = some ad → base ≤ ad.block := by
  obtain ⟨hl, hd⟩ := h
  rcases hd with ⟨hv, h0⟩ | ⟨g, c, cur, hv, hb, _⟩
  · simp only [Value.slice.injEq] at hv
    obtain ⟨rfl, _⟩ := hv
    intro ad h; cases h
  · simp only [Value.slice.injEq] at hv
    obtain ⟨rfl, _⟩ := hv
    intro ad h
    simp only [Option.some.injEq] at h
    subst h; exact hb
theorem byteVals_sub (l : List UInt8) (i n : Nat) : ((byteVals l).drop i).take n = byteVals ((l.drop i).take n) := by simp [byteVals, List.map_drop, List.map_take]

/-- The words of the value, of which the first k are summed up. -/
def part8 (s z : S8) (k : Nat) : List Value := wordVals (z.list.take k ++ s.list.drop k)
theorem part8_zero (s z : S8) : part8 s z 0 = wordVals s.list := rfl
theorem part8_length (s z : S8) (k : Nat) (hk : k ≤ 8) : (part8 s z k).length = 8 := by
  unfold part8; rw [wordVals_length, List.length_append, List.length_take, List.length_drop, s.list_length, z.list_length]; omega
theorem part8_get (s z : S8) (k : Nat) (hk : k < 8) : (part8 s z k)[k]? = some (.int .u32 ((s.list.getD k 0).toNat : Int)) := by
  unfold part8 wordVals
  have hl := s.list_length
  rw [List.getElem?_map, List.getElem?_append_right (by rw [List.length_take, z.list_length]; omega), List.length_take, z.list_length, List.getElem?_drop, show k + (k - min k 8) = k from by omega]
  simp [List.getD_eq_getElem?_getD, List.getElem?_eq_getElem (show k < s.list.length by omega)]
theorem part8_set (s z : S8) (k : Nat) (hk : k < 8) : (part8 s z k).set k (.int .u32 ((z.list.getD k 0).toNat : Int)) = part8 s z (k + 1) := by
  unfold part8 wordVals
  have hs := s.list_length
  have hz := z.list_length
  rw [← List.map_set (f := fun x : UInt32 => Value.int .u32 (x.toNat : Int)) (a := z.list.getD k 0)]
  congr 1
  rw [List.set_append_right _ _ (by rw [List.length_take]; omega), List.length_take, hz, show k - min k 8 = 0 from by omega, List.drop_eq_getElem_cons (by omega), List.set_cons_zero, List.take_succ_eq_append_getElem (by omega), List.append_assoc]
  simp [List.getD_eq_getElem?_getD, List.getElem?_eq_getElem (show k < z.list.length by omega)]
theorem part8_all (s z : S8) : part8 s z 8 = wordVals z.list := by
  unfold part8
  rw [List.take_of_length_le (by rw [z.list_length]; exact Nat.le_refl _), List.drop_eq_nil_of_le (by rw [s.list_length]; exact Nat.le_refl _), List.append_nil]
theorem add8_get (s v : S8) (k : Nat) (hk : k < 8) : (add8 s v).list.getD k 0 = s.list.getD k 0 + v.list.getD k 0 := by
  rcases (show k = 0 ∨ k = 1 ∨ k = 2 ∨ k = 3 ∨ k = 4 ∨ k = 5 ∨ k = 6 ∨ k = 7 by omega) with rfl | rfl | rfl | rfl | rfl | rfl | rfl | rfl <;> rfl
theorem word_get (v : S8) (k : Nat) (hk : k < 8) : (wordVals v.list)[k]? = some (.int .u32 ((v.list.getD k 0).toNat : Int)) := by
  have hv := v.list_length
  simp [wordVals, List.getD_eq_getElem?_getD, List.getElem?_eq_getElem (show k < v.list.length by omega)]
theorem u32_not_lit (x : UInt32) : bits .xor .u32 (x.toNat : Int) 4294967295 = ((x ^^^ 0xffffffff).toNat : Int) := u32_xor_word x 0xffffffff

set_option maxRecDepth 20000 in
set_option maxHeartbeats 4000000 in
theorem refSum_any (l : List UInt8) (a : Option Addr) (n cap : Nat) (w : World) (hrd : Rd w a n cap 1 (byteVals l)) (hn : n ≤ 1000000000) (hK : KonsR w) (h0 : 0 < w.heap.size) :
    Calls Tryd.prog 30 #[.slice a n cap] w (RetV (.agg (byteVals (sha l)).toArray) w) := by
  have hln : l.length = n := hrd.blen
  have HIV := Box.mk (show (wordVals iv.list).toArray = #[.int .u32 1779033703, .int .u32 3144134277, .int .u32 1013904242, .int .u32 2773480762, .int .u32 1359893119, .int .u32 2600822924, .int .u32 528734635, .int .u32 1541459225] from rfl)
  have hPl : (padded l).length ≤ 1000000200 := by unfold padded; rw [List.length_append, padding_length]; unfold zeros; omega
  have HPM := Box.mk (padded_mod l)
  have HSH := Box.mk (show sha l = out32 (absorb (padded l) ((padded l).length / 64)) from rfl)
  have hcall := padded_any l a n cap _ ((hrd.alloc (.cells zero32.toArray 47)).alloc (.cells (wordVals iv.list).toArray 50)) hn
  generalize sha l = res0 at *
  generalize padded l = M at *
  have b1 := (Blk.new (w := w) (ty := 47) (cs := zero32) (k := w.heap.size) rfl rfl).alloc (.cells (wordVals iv.list).toArray 50)
  have b2 := Blk.new (w := w.alloc (.cells zero32.toArray 47)) (ty := 50) (cs := wordVals iv.list) (k := w.heap.size + 1) (by simp) rfl
  have B2 := ((Below.refl w.heap.size w).alloc (Nat.le_refl _) (.cells zero32.toArray 47)).alloc (by simp) (.cells (wordVals iv.list).toArray 50)
  have z2 : ((w.alloc (.cells zero32.toArray 47)).alloc (.cells (wordVals iv.list).toArray 50)).heap.size = w.heap.size + 2 := by simp
  rw [HIV.out] at hcall b1 b2 B2 z2
  clear hrd hln
  go_enter Tryd.func30, Tryd.ntmps30
  go_wp2_with (first
    | ((with_reducible show wpList _ _ _ _ _ _); refine wpList_alloc (o := ⟨some 2, .alloc 47, _, _, _, _⟩) rfl 47 rfl zero47 (zc := zero32.toArray) rfl ?_))
  refine hcall.mono ?_
  rintro e w3 ⟨pa, pc, rfl, hown, hb3⟩
  clear hcall
  have hpb := own_block hown
  rw [z2] at hpb
  have HPB := Box.mk hpb; clear hpb
  have hrp := Rd.ofOwn hown
  have bO := b1.call0 hb3
  have bS := b2.call0 hb3
  have hB := B2.call0 (Nat.le_refl _) hb3
  have hz := hb3.size
  rw [z2] at hz
  clear hown b1 b2 B2 z2 hb3
  generalize hN : M.length = N at *
  have HN := Box.mk hN; clear hN
  go_wp2_with fail
  go_loopw [5] (fun v wr => ∃ q : Nat, 64 * q ≤ N ∧ v = .int .i64 ((64 * q : Nat) : Int) ∧ Rd wr pa N pc 1 (byteVals M) ∧ Blk wr w.heap.size 47 zero32 ∧ Blk wr (w.heap.size + 1) 50 (wordVals (absorb M q).list) ∧ w.heap.size + 2 ≤ wr.heap.size ∧ Below w.heap.size w wr) (fun v _ => N - (intOf v).toNat)
  case atStart => exact ⟨0, by omega, rfl, hrp, bO, bS, hz, hB⟩
  case round =>
    clear hrp bO bS hz hB
    obtain ⟨q, hq, rfl, hrp, bO, bS, hz, hB⟩ := hrel
    have hmod := HPM.out
    obtain ⟨p0, hp0⟩ : ∃ p, p = 64 * q := ⟨_, rfl⟩
    by_cases hlt : 64 * q < N
    · obtain ⟨p1, hp1⟩ : ∃ p, p = p0 + 64 := ⟨_, rfl⟩
      have hle : p1 ≤ N := by omega
      have e1 : IntKind.i64.wrap ((p0 : Int) + 64) = (p1 : Int) := by rw [IntKind.wrap_i64]; omega
      have e2 : (p0 : Int) + 64 = (p1 : Int) := by omega
      rw [← hp0] at hlt ⊢
      have R := Box.mk hrp
      have h01 : p0 ≤ p1 := by omega
      have hpc : p1 ≤ pc := Nat.le_trans hle hrp.hcap
      have H64 := Box.mk (show p1 - p0 = 64 from by omega)
      have HB := Box.mk (show ((M.drop (64 * q)).take 64) = (M.drop p0).take 64 from by rw [hp0])
      have HQ := Box.mk (show absorb M (q + 1) = comp (absorb M q) ((M.drop (64 * q)).take 64) from rfl)
      rw [HB.out] at HQ
      clear HB hmod hrp
      have HP0 := Box.mk hp0
      have HP1 := Box.mk hp1
      have HQ1 := Box.mk (show 64 * (q + 1) = p1 from by omega)
      clear hp0 hp1 hq
      generalize hsn : absorb M (q + 1) = sn at *
      have HSN := Box.mk hsn; clear hsn
      generalize absorb M q = s0 at *
      generalize hblk : (M.drop p0).take 64 = blk at *
      have HBK := Box.mk hblk; clear hblk
      go_wp2_with ((with_reducible show wpList _ _ _ _ _ _); refine wpList_slice_rd (o := ⟨some 27, _, _, _, _, _⟩) rfl 22 (.tmp 23) (some (.tmp 24)) (some (.tmp 26)) none rfl sl22 rfl R.out (some (p0 : Int)) (some (p1 : Int)) none rfl rfl rfl p0 p1 pc rfl rfl rfl (by intro h; cases h) h01 hle hpc (Nat.le_refl _) ?_; intro a8 r8 _; rw [Nat.mul_one, Nat.mul_one, byteVals_sub, H64.out, HBK.out] at r8; rw [H64.out])
      refine (refWords_sched blk a8 _ wr r8).mono ?_
      rintro e w4 ⟨rfl, hb4⟩
      have bO4 := bO.call0 hb4
      have bS4 := bS.call0 hb4
      have hB4 := hB.call0 (Nat.le_refl _) hb4
      have R4 := Box.mk (R.out.call0 hb4)
      have PB := Box.mk (fun ad (ha : pa = some ad) => HPB.out ad ha)
      have hz4 := hb4.size
      have HPL : Box (∀ ad, pa = some ad → ad.block < w4.heap.size) := ⟨fun ad ha => by
        have hrx := R.out
        rw [ha] at hrx
        have hN0 : 0 < N := by omega
        obtain ⟨g, off, hg, hlt', _⟩ := hrx.byteAll hN0
        rw [Option.some.injEq] at hg
        rw [hg]; show g < _
        omega⟩
      clear R r8 bO bS hB hb4 PB
      have HW := Box.mk (show (wordVals (sched blk)).length = 64 from by rw [wordVals_length]; exact schedTo_length blk 64)
      have H1 := Box.mk (wordVals_one (sched blk))
      generalize hcs : wordVals (sched blk) = cs at *
      have HC := Box.mk hcs; clear hcs
      have HS8 := Box.mk (show (wordVals s0.list).length = 8 from rfl)
      have HS1 := Box.mk (wordVals_one s0.list)
      generalize hsv : wordVals s0.list = sv at *
      have HSV := Box.mk hsv; clear hsv
      have bO5 := (bO4.alloc (.cells cs.toArray 73)).alloc (.cells sv.toArray 50)
      have bS5a := bS4.alloc (.cells cs.toArray 73)
      have bS5 := bS5a.alloc (.cells sv.toArray 50)
      have bW5 := (Blk.new (w := w4) (ty := 73) (cs := cs) rfl rfl).alloc (.cells sv.toArray 50)
      have bV5 := Blk.new (w := w4.alloc (.cells cs.toArray 73)) (ty := 50) (cs := sv) (k := w4.heap.size + 1) (by simp) rfl
      have hB5 := (hB4.new (Nat.le_refl _) (.cells cs.toArray 73)).new (Nat.le_refl _) (.cells sv.toArray 50)
      have z5 : ((w4.alloc (.cells cs.toArray 73)).alloc (.cells sv.toArray 50)).heap.size = w4.heap.size + 2 := by simp
      have R5 := Box.mk ((R4.out.alloc (.cells cs.toArray 73)).alloc (.cells sv.toArray 50))
      clear bO4 bS4 hB4 R4
      go_wp2_with (first
        | ((with_reducible show wpList _ _ _ _ _ _); refine wpList_store_fresh (o := ⟨none, .store 73 (.tmp 6) (.tmp 28), _, _, _, _⟩) (cs := cs) rfl 73 _ _ rfl rfl agg73.info rfl rfl rfl HW.out H1.out ?_)
        | ((with_reducible show wpList _ _ _ _ _ _); refine wpList_load_agg (o := ⟨some 29, _, _, _, _, _⟩) rfl 50 _ rfl agg50 rfl (cs := sv) HS8.out bS5a.agg ?_)
        | ((with_reducible show wpList _ _ _ _ _ _); refine wpList_store_fresh (o := ⟨none, .store 50 (.tmp 7) (.tmp 29), _, _, _, _⟩) (cs := sv) rfl 50 _ _ rfl rfl agg50.info rfl (by simp [go_sem]) rfl HS8.out HS1.out ?_))
      clear bS5a
      generalize (w4.alloc (.cells cs.toArray 73)).alloc (.cells sv.toArray 50) = w5 at *
      generalize w4.heap.size = g6 at *
      have hK5 := hK.below hB5 h0
      have HG := Box.mk (show wr.heap.size ≤ g6 from hz4)
      have hg0 : w.heap.size + 2 ≤ g6 := Nat.le_trans hz hz4
      have BV := Box.mk bV5
      rw [← HSV.out] at BV
      clear hz4 hz bV5
      go_loopw [8] (fun i wr => ∃ (t : Nat) (v : S8), t ≤ 64 ∧ i = .int .i64 t ∧ Box (v = rndTo s0 (sched blk) t) ∧ Blk wr (g6 + 1) 50 (wordVals v.list) ∧ Below (g6 + 1) w5 wr) (fun i _ => 64 - (intOf i).toNat)
      case atStart => exact ⟨0, s0, by omega, rfl, ⟨rfl⟩, BV.out, Below.refl _ _⟩
      case round =>
        obtain ⟨t, v, ht, rfl, HV, bV, hbv⟩ := hrel
        by_cases hlt64 : t < 64
        · obtain ⟨va, vb, vc, vd, ve, vf, vg, vh⟩ := v
          replace bV : Blk wr (g6 + 1) 50 [.int .u32 (va.toNat : Int), .int .u32 (vb.toNat : Int), .int .u32 (vc.toNat : Int), .int .u32 (vd.toNat : Int), .int .u32 (ve.toNat : Int), .int .u32 (vf.toNat : Int), .int .u32 (vg.toNat : Int), .int .u32 (vh.toNat : Int)] := bV
          obtain ⟨wo, rfl⟩ : ∃ wo : World, wo = wr := ⟨_, rfl⟩
          have hkt := (hK5.below hbv (Nat.succ_pos _)) t hlt64
          have hwt : wo.cell? ⟨g6, t, none⟩ = some (.int .u32 (((sched blk).getD t 0).toNat : Int)) := (bW5.keep hbv (Nat.lt_succ_self _)).cellOf (by
            have hl : t < (sched blk).length := by rw [show (sched blk).length = 64 from schedTo_length blk 64]; exact hlt64
            rw [← HC.out]; simp [wordVals, List.getD_eq_getElem?_getD, List.getElem?_eq_getElem hl])
          have HR : Box (rndTo s0 (sched blk) (t + 1) = rnd ⟨va, vb, vc, vd, ve, vf, vg, vh⟩ (kAt t) ((sched blk).getD t 0)) := ⟨by rw [HV.out]; rfl⟩
          have C1 := Box.mk (show RotrC ve 6 _ from rotr_any ve 6 (by omega) (by omega))
          have C2 := Box.mk (show RotrC ve 11 _ from rotr_any ve 11 (by omega) (by omega))
          have C3 := Box.mk (show RotrC ve 25 _ from rotr_any ve 25 (by omega) (by omega))
          have C4 := Box.mk (show RotrC va 2 _ from rotr_any va 2 (by omega) (by omega))
          have C5 := Box.mk (show RotrC va 13 _ from rotr_any va 13 (by omega) (by omega))
          have C6 := Box.mk (show RotrC va 22 _ from rotr_any va 22 (by omega) (by omega))
          have c7 := bV.cellOf (i := 7) rfl
          have c4 := bV.cellOf (i := 4) rfl
          have c5 := bV.cellOf (i := 5) rfl
          have c6 := bV.cellOf (i := 6) rfl
          have HX : Box (tx ⟨va, vb, vc, vd, ve, vf, vg, vh⟩ (kAt t) ((sched blk).getD t 0) = vh + (rot ve 6 ^^^ rot ve 11 ^^^ rot ve 25) + ((ve &&& vf) ^^^ ((ve ^^^ 0xffffffff) &&& vg)) + kAt t + (sched blk).getD t 0) := ⟨rfl⟩
          have HY : Box (ty ⟨va, vb, vc, vd, ve, vf, vg, vh⟩ = (rot va 2 ^^^ rot va 13 ^^^ rot va 22) + ((va &&& vb) ^^^ (va &&& vc) ^^^ (vb &&& vc))) := ⟨rfl⟩
          generalize (sched blk).getD t 0 = wt at *
          generalize kAt t = kt at *
          generalize rot ve 6 = r1 at *
          generalize rot ve 11 = r2 at *
          generalize rot ve 25 = r3 at *
          generalize rot va 2 = r4 at *
          generalize rot va 13 = r5 at *
          generalize rot va 22 = r6 at *
          have m1 := u32_xor_word r1 r2
          have m2 := u32_xor_word (r1 ^^^ r2) r3
          have m3 := u32_xor_word r4 r5
          have m4 := u32_xor_word (r4 ^^^ r5) r6
          generalize (r1 ^^^ r2) ^^^ r3 = M1 at *
          generalize r1 ^^^ r2 = M0 at *
          generalize (r4 ^^^ r5) ^^^ r6 = M2 at *
          generalize r4 ^^^ r5 = M3 at *
          have k1 := u32_and_word ve vf
          have k2 := u32_not_lit ve
          have k3 := u32_and_word (ve ^^^ 0xffffffff) vg
          have k4 := u32_xor_word (ve &&& vf) ((ve ^^^ 0xffffffff) &&& vg)
          have g1' := u32_and_word va vb
          have g2' := u32_and_word va vc
          have g3' := u32_and_word vb vc
          have g4' := u32_xor_word (va &&& vb) (va &&& vc)
          have g5' := u32_xor_word (va &&& vb ^^^ va &&& vc) (vb &&& vc)
          generalize (va &&& vb ^^^ va &&& vc) ^^^ vb &&& vc = MJ at *
          generalize va &&& vb ^^^ va &&& vc = MK at *
          generalize va &&& vb = B1 at *
          generalize va &&& vc = B2 at *
          generalize vb &&& vc = B3 at *
          generalize (ve &&& vf) ^^^ ((ve ^^^ 0xffffffff) &&& vg) = CH at *
          generalize (ve ^^^ 0xffffffff) &&& vg = A2 at *
          generalize ve ^^^ 0xffffffff = NE at *
          generalize ve &&& vf = A1 at *
          have s1 := u32_add_word vh M1
          have z1 := u32_add_wrap vh M1
          have s2 := u32_add_word (vh + M1) CH
          have z2 := u32_add_wrap (vh + M1) CH
          have s3 := u32_add_word (vh + M1 + CH) kt
          have z3 := u32_add_wrap (vh + M1 + CH) kt
          have s4 := u32_add_word (vh + M1 + CH + kt) wt
          have z4 := u32_add_wrap (vh + M1 + CH + kt) wt
          have s5 := u32_add_word M2 MJ
          have z5' := u32_add_wrap M2 MJ
          have r1' := u32_add_word vd (vh + M1 + CH + kt + wt)
          have r2' := u32_add_word (vh + M1 + CH + kt + wt) (M2 + MJ)
          generalize vh + M1 + CH + kt + wt = X at *
          generalize vh + M1 + CH + kt = N3 at *
          generalize vh + M1 + CH = N2 at *
          generalize vh + M1 = N1 at *
          generalize M2 + MJ = Y at *
          have HNN : Box (rndTo s0 (sched blk) (t + 1) = ⟨X + Y, va, vb, vc, vd + X, ve, vf, vg⟩) := ⟨by rw [HR.out]; unfold rnd; rw [HX.out, HY.out]⟩
          generalize X + Y = V at *
          generalize vd + X = U at *
          go_wp2_with fail
          go_quiet (first
            | (with_reducible exact C1.out.quiet)
            | (with_reducible exact C2.out.quiet)
            | (with_reducible exact C3.out.quiet))
          have bV' := bV.drewN nq
          have hbv' := below_drewN hbv nq
          have d0 := bV'.cellOf (i := 0) rfl
          have d1 := bV'.cellOf (i := 1) rfl
          have d2 := bV'.cellOf (i := 2) rfl
          clear c4 c5 c6 c7 bV hbv hkt hwt
          generalize wo.drewN nq = wd at *
          go_wp2_with fail
          go_quiet (first
            | (with_reducible exact C4.out.quiet)
            | (with_reducible exact C5.out.quiet)
            | (with_reducible exact C6.out.quiet))
          have bV2 := bV'.drewN nq
          have hbv2 := below_drewN hbv' nq
          have e0 := bV2.cellOf (i := 0) rfl
          have e1 := bV2.cellOf (i := 1) rfl
          have e2 := bV2.cellOf (i := 2) rfl
          have e3 := bV2.cellOf (i := 3) rfl
          have e4 := bV2.cellOf (i := 4) rfl
          have e5 := bV2.cellOf (i := 5) rfl
          have e6 := bV2.cellOf (i := 6) rfl
          clear d0 d1 d2 bV' hbv'
          generalize wd.drewN nq = we at *
          go_wp2_with (first
            | ((with_reducible show wpList _ _ _ _ _ _); refine wpList_store_row (o := ⟨none, .store 50 (.tmp 7) (.tmp 117), _, _, _, _⟩) rfl 50 _ _ rfl rfl agg50.info bV2 rfl rfl (cs := [.int .u32 (V.toNat : Int), .int .u32 (va.toNat : Int), .int .u32 (vb.toNat : Int), .int .u32 (vc.toNat : Int), .int .u32 (U.toNat : Int), .int .u32 (ve.toNat : Int), .int .u32 (vf.toNat : Int), .int .u32 (vg.toNat : Int)]) rfl rfl (by simp [Value.oneCell']) ?_))
          go_roundw
          case rel => exact ⟨t + 1, ⟨V, va, vb, vc, U, ve, vf, vg⟩, by omega, by go_num, ⟨HNN.out.symm⟩, bV2.row _, below_setRow hbv2 (Nat.le_refl _) _⟩
          case measure => simp [intOf]; omega
        · have h64 : t = 64 := by omega
          have HZ := Box.mk (show add8 s0 v = sn from by rw [HQ.out]; unfold comp; rw [← h64, ← HV.out])
          clear h64 HV ht
          have hge : ¬ ((t : Int) < 64) := by omega
          clear hlt64
          have bO6 := bO5.keep hbv (by omega)
          have bS6 := bS5.keep hbv (by omega)
          have hB6 := hB5.trans (hbv.mono (by omega))
          have R6 := Box.mk (R5.out.belowAt hbv (fun ad ha => Nat.lt_succ_of_lt (HPL.out ad ha)))
          have hz6 := hbv.size
          have hz7 : w.heap.size + 2 ≤ wr.heap.size := by omega
          have HGET := Box.mk (fun k hk => add8_get s0 v k hk)
          rw [HZ.out] at HGET
          have HVG := Box.mk (fun k hk => word_get v k hk)
          generalize wordVals v.list = vv at *
          rw [← HSV.out, ← part8_zero s0 sn] at bS6
          clear bO5 bS5 hB5 R5 bW5 hbv hK5 hz6
          go_wp2_with fail
          go_loopw [11] (fun i wr => ∃ k : Nat, k ≤ 8 ∧ i = .int .i64 k ∧ Blk wr (w.heap.size + 1) 50 (part8 s0 sn k) ∧ Blk wr (g6 + 1) 50 vv ∧ Blk wr w.heap.size 47 zero32 ∧ Box (Rd wr pa N pc 1 (byteVals M)) ∧ w.heap.size + 2 ≤ wr.heap.size ∧ Below w.heap.size w wr) (fun i _ => 8 - (intOf i).toNat)
          case atStart => exact ⟨0, by omega, rfl, bS6, bV, bO6, R6, hz7, hB6⟩
          case round =>
            clear bS6 bV bO6 R6 hz7 hB6
            obtain ⟨k, hk8, rfl, bS, bV, bO, R, hz, hB⟩ := hrel
            by_cases hltk : k < 8
            · have x0 := bS.cellOf (part8_get s0 sn k hltk)
              have x1 := bV.cellOf (HVG.out k hltk)
              have y0 := bS.free k
              have HS2 := Box.mk (part8_set s0 sn k hltk)
              rw [HGET.out k hltk] at HS2
              generalize s0.list.getD k 0 = sk at *
              generalize v.list.getD k 0 = vk at *
              have q1 := u32_add_word sk vk
              have q2 := u32_add_wrap sk vk
              generalize sk + vk = zk at *
              have hg61 : w.heap.size + 1 < g6 := by omega
              have R2 := Box.mk (R.out.other (p := ⟨w.heap.size + 1, k, none⟩) (fun ad ha => by have := HPB.out ad ha; show ad.block ≠ w.heap.size + 1; omega) (.int .u32 (zk.toNat : Int)))
              have bS2 := bS.set k (.int .u32 (zk.toNat : Int))
              rw [HS2.out] at bS2
              have bV2 := bV.other (p := ⟨w.heap.size + 1, k, none⟩) (by simp; omega) (.int .u32 (zk.toNat : Int))
              have bO2 := bO.other (p := ⟨w.heap.size + 1, k, none⟩) (by simp) (.int .u32 (zk.toNat : Int))
              have hB2 := hB.setCell (p := ⟨w.heap.size + 1, k, none⟩) (by simp) (.int .u32 (zk.toNat : Int))
              go_wp2_with fail
              go_still_tail 9, (by kernel_rfl)
              go_wp2_with fail
              go_roundw
              case rel => exact ⟨k + 1, by omega, by go_num, bS2.drew, bV2.drew, bO2.drew, ⟨(show Rd _ _ _ _ _ _ from R2.out).drew⟩, by simpa using hz, hB2.drew⟩
              case measure => simp [intOf]; omega
            · have h8 : k = 8 := by omega
              subst h8
              rw [part8_all] at bS
              go_wp2_with fail
              go_roundw
              case rel => exact ⟨q + 1, by rw [HQ1.out]; exact hle, by rw [HQ1.out], R.out, bO, by rw [HSN.out]; exact bS, hz, hB⟩
              case measure => simp [intOf]; omega
    · have hqN : q = N / 64 := by omega
      subst hqN
      clear hrp hp0 hlt
      generalize absorb M (N / 64) = s3 at *
      have HWD := Box.mk (fun j hj => word_get s3 j hj)
      generalize wordVals s3.list = cs3 at *
      go_wp2_with (first
        | ((with_reducible show wpList _ _ _ _ _ _); refine wpList_alloc (o := ⟨some 12, .alloc 47, _, _, _, _⟩) rfl 47 rfl zero47 (zc := zero32.toArray) rfl ?_))
      have b6 := Blk.new (w := wr) (ty := 47) (cs := zero32) (k := wr.heap.size) rfl rfl
      have bS5 := bS.alloc (.cells zero32.toArray 47)
      have bO5 := bO.alloc (.cells zero32.toArray 47)
      have hB5 := hB.new (Nat.le_refl _) (.cells zero32.toArray 47)
      clear bS bO hB
      generalize wr.alloc (.cells zero32.toArray 47) = w5 at *
      generalize wr.heap.size = g6 at *
      have ho32 := Box.mk (out32_length s3)
      go_loopw [13] (fun v wr => ∃ i : Nat, i ≤ 32 ∧ v = .int .i64 i ∧ Blk wr g6 47 (byteVals ((out32 s3).take i) ++ List.replicate (32 - i) (Value.int .u8 0)) ∧ Blk wr (w.heap.size + 1) 50 cs3 ∧ Blk wr w.heap.size 47 zero32 ∧ Below w.heap.size w wr)
        (fun v _ => 32 - (intOf v).toNat)
      case atStart => exact ⟨0, by omega, rfl, b6, bS5, bO5, hB5⟩
      case round =>
        clear b6 bS5 bO5 hB5
        obtain ⟨i, hi32, rfl, b6, bS5, bO5, hB5⟩ := hrel
        by_cases hlt : i < 32
        · have hby := out_byte s3 i hlt
          have hset := fill_set (out32 s3) 32 i ho32.out hlt
          have kq := bS5.cellOf (HWD.out (i / 4) (by omega))
          have kf := b6.free i
          have b7 := b6.set i (.int .u8 (((out32 s3).getD i 0).toNat : Int))
          rw [hset] at b7
          have HS := Box.mk hset; clear hset
          obtain ⟨c0, hc0⟩ := (show ∃ u, (byteVals ((out32 s3).take i) ++ List.replicate (32 - i) (Value.int .u8 0))[i]? = some u from ⟨_, List.getElem?_eq_getElem (by rw [List.length_append, byteVals_length, List.length_take, ho32.out, List.length_replicate]; omega)⟩)
          have kc := b6.cellOf hc0
          have HC0 := Box.mk hc0; clear hc0
          obtain ⟨q, hq⟩ : ∃ q, i / 4 = q := ⟨_, rfl⟩
          obtain ⟨r, hr⟩ : ∃ r, i % 4 = r := ⟨_, rfl⟩
          have hqi : (i : Int) / 4 = (q : Int) := by omega
          have hri : (i : Int) % 4 = (r : Int) := by omega
          have hq8 : q < 8 := by omega
          have hr4 : r < 4 := by omega
          rw [hq, hr] at hby
          rw [hq] at kq
          clear hq hr
          generalize (out32 s3).getD i 0 = c at *
          generalize s3.list.getD q 0 = x at *
          have hx32 := x.toNat_lt
          have bS6 := bS5.other (p := ⟨g6, i, none⟩) (by simp; omega) (.int .u8 (c.toNat : Int))
          have bO6 := bO5.other (p := ⟨g6, i, none⟩) (by simp; omega) (.int .u8 (c.toNat : Int))
          have hB6 := hB5.setCell (p := ⟨g6, i, none⟩) (by simp; omega) (.int .u8 (c.toNat : Int))
          go_wp2_with fail
          go_roundw
          case rel => exact ⟨i + 1, by omega, by go_num, b7, bS6, bO6, hB6⟩
          case measure => simp [intOf]; omega
        · have h32 : i = 32 := by omega
          subst h32
          have hfin : byteVals ((out32 s3).take 32) ++ List.replicate (32 - 32) (Value.int .u8 0) = byteVals res0 := by
            rw [List.take_of_length_le (by rw [ho32.out]; exact Nat.le_refl _), Nat.sub_self, List.replicate_zero, List.append_nil, HSH.out]
          rw [hfin] at b6
          have hl32 := Box.mk (show (byteVals res0).length = 32 from by rw [byteVals_length, HSH.out, out32_length])
          have ho1 := Box.mk (byteVals_one res0)
          clear hfin
          generalize byteVals res0 = res at *
          go_wp2_with (first
            | ((with_reducible show wpList _ _ _ _ _ _); refine wpList_load_agg (o := ⟨some 147, _, _, _, _, _⟩) rfl 47 _ rfl agg47 rfl (cs := res) hl32.out b6.agg ?_)
            | ((with_reducible show wpList _ _ _ _ _ _); refine wpList_store_row (o := ⟨none, .store 47 (.tmp 2) (.tmp 147), _, _, _, _⟩) rfl 47 _ _ rfl rfl agg47.info bO5 rfl rfl (cs := res) rfl hl32.out ho1.out ?_))
          exact bodyPost_ret (results_cell1 (g := w.heap.size) (cs := res) rfl _ rfl (bO5.row res) (by rw [hl32.out]; exact agg47)) rfl ⟨rfl, below_setRow hB5 (Nat.le_refl _) _⟩
end Go.Proofs.YtcngnpkpaliflaaDoor
