/-
  The walk of a stream's Sum. No condition.
-/
import Derived.Test.YtcngnpkpaliflaaDoorWStrm
import Derived.Test.YtcngnpkpaliflaaDoorWSmall
namespace Go.Proofs.YtcngnpkpaliflaaDoor
open Go.RowKit

theorem own_new {w : World} {g base e size n : Nat} {cs : List Value} (hb : Blk w g e cs) (hbase : base ≤ g) (hl : cs.length = n * size) (hn : n ≤ maxLen) : w.ownsRow base e size (.slice (some ⟨g, 0, none⟩) n n) n cs :=
  ⟨hl, .inr ⟨g, n, cs.toArray, rfl, hbase, hb, Nat.le_refl _, hn, by simp [hl], by rw [← hl]; simp⟩⟩

theorem Blk.keep {w w' : World} {g B : Nat} {ty : TypeId} {cs : List Value} (h : Blk w g ty cs) (hb : Below B w w') (hg : g < B) : Blk w' g ty cs := by
  unfold Blk at h ⊢
  rw [hb.block g hg]; exact h

def zero32 : List Value := List.replicate 32 (Value.int .u8 0)
theorem zero47 : (Tryd.prog.info? 47).map (·.zero) = some (some (.agg zero32.toArray)) := by kernel_rfl
theorem agg47 : AggT Tryd.prog 47 32 := ⟨by kernel_rfl, by kernel_rfl⟩

theorem u8wrap (x : Int) : IntKind.u8.wrap x = x % 256 := by simp [IntKind.wrap, IntKind.bits, IntKind.signed]
theorem be8_byte (n : Nat) (k : Nat) : IntKind.u8.wrap (8 * (n : Int) / 2 ^ (56 - 8 * k)) = ((UInt8.ofNat (8 * n / 2 ^ (56 - 8 * k))).toNat : Int) := by
  have f : (UInt8.ofNat (8 * n / 2 ^ (56 - 8 * k))).toNat = 8 * n / 2 ^ (56 - 8 * k) % 256 := by simp
  rw [u8wrap, f]; simp
theorem be8_take (n k : Nat) (hk : k < 8) : (be8 n).take (k + 1) = (be8 n).take k ++ [UInt8.ofNat (n / 2 ^ (56 - 8 * k))] := by
  rw [List.take_succ_eq_append_getElem (by rw [be8_length]; exact hk)]; simp [be8]

theorem fill_set (l : List UInt8) (n i : Nat) (hn : l.length = n) (hi : i < n) : (byteVals (l.take i) ++ List.replicate (n - i) (Value.int .u8 0)).set i (.int .u8 ((l.getD i 0).toNat : Int)) = byteVals (l.take (i + 1)) ++ List.replicate (n - (i + 1)) (Value.int .u8 0) := by
  have h1 : (byteVals (l.take i)).length = i := by rw [byteVals_length, List.length_take]; omega
  rw [List.set_append_right _ _ (by omega), h1, Nat.sub_self, show n - i = (n - (i + 1)) + 1 from by omega, List.replicate_succ, List.set_cons_zero, List.take_succ_eq_append_getElem (by omega), byteVals_append, List.append_assoc]
  simp [byteVals, List.getD, List.getElem?_eq_getElem (show i < l.length by omega)]

theorem out_byte (s : S8) (i : Nat) (hi : i < 32) : IntKind.u8.wrap (((s.list.getD (i / 4) 0).toNat : Int) / 2 ^ (24 - 8 * (i % 4))) = (((out32 s).getD i 0).toNat : Int) := by
  have f : (out32 s).getD i 0 = UInt8.ofNat ((s.list.getD (i / 4) 0).toNat / 2 ^ (24 - 8 * (i % 4))) := by
    simp [out32, List.getD, hi]
  rw [f, u8wrap]; simp

set_option maxRecDepth 20000 in
set_option maxHeartbeats 1000000 in
theorem strmSum_any (m : List UInt8) (s : S8) (held : List UInt8) (n : Nat) (hH : Has m s held n) (w : World) (hm : m.length ≤ 1099511627776) (hK : Kons w) (h2 : 2 < w.heap.size) :
    Calls Tryd.prog 33 #[.agg (strmVals s held n).toArray] w (RetV (.agg (byteVals (sha m)).toArray) w) := by
  have hn : n = m.length := by rw [hH.total]; omega
  have HH := Box.mk hH
  have h0 := Box.mk (strmVals_length (s := s) (n := n) hH.len)
  have h1 := Box.mk (strmVals_one s held n)
  have hc72 := strmVals_n (s := s) (n := n) hH.len
  clear hH
  have hn40 : n ≤ 1099511627776 := by omega
  have HN := Box.mk hn; clear hn
  generalize hcs : strmVals s held n = cs at *
  have HC := Box.mk hcs; clear hcs
  have b1 := (Blk.new (w := w) (ty := 53) (cs := cs) rfl rfl).alloc (.cells zero32.toArray 47)
  have b2 := Blk.new (w := w.alloc (.cells cs.toArray 53)) (ty := 47) (cs := zero32) (k := w.heap.size + 1) (by simp) rfl
  have B2 := ((Below.refl w.heap.size w).alloc (Nat.le_refl _) (.cells cs.toArray 53)).alloc (by simp) (.cells zero32.toArray 47)
  have z2 : ((w.alloc (.cells cs.toArray 53)).alloc (.cells zero32.toArray 47)).heap.size = w.heap.size + 2 := by simp
  have k72 := b1.cellOf (i := 72) hc72
  go_enter Tryd.func33, Tryd.ntmps33
  go_wp2_with (first
    | ((with_reducible show wpList _ _ _ _ _ _); refine wpList_alloc (o := ⟨some 2, .alloc 47, _, _, _, _⟩) rfl 47 rfl zero47 (zc := zero32.toArray) rfl ?_; rw [show (w.alloc (Obj.cells cs.toArray 53)).heap.size = w.heap.size + 1 from by simp]; generalize (w.alloc (.cells cs.toArray 53)).alloc (.cells zero32.toArray 47) = w2 at *))
  have hz64 : zeros n ≤ 63 := by unfold zeros; omega
  have hzz : zeros n = (119 - n % 64) % 64 := rfl
  have HZ := Box.mk hzz; clear hzz
  generalize zeros n = zn at *
  go_loopw [4] (fun v wr => ∃ (L : Nat) (a : Option Addr) (cap : Nat), 1 ≤ L ∧ L ≤ 1 + zn ∧ v = .slice a L cap ∧ wr.ownsRow (w.heap.size + 2) 5 1 (.slice a L cap) L (byteVals (128 :: List.replicate (L - 1) 0)) ∧ Below (w.heap.size + 2) w2 wr)
    (fun v _ => match v with | .slice _ l _ => 65 - l | _ => 0)
  case atStart =>
    exact ⟨1, _, _, Nat.le_refl _, by omega, rfl, own_new (Blk.new z2.symm rfl) (Nat.le_refl _) rfl (by unfold maxLen; omega), (Below.refl _ _).alloc (by omega) _⟩
  case round =>
    obtain ⟨L, a, cap, hL1, hL2, rfl, hown, hbel⟩ := hrel
    have hsz := hbel.size
    have k73 := (b1.keep hbel (by omega)).cellOf (i := 72) hc72
    by_cases hlt : L < 1 + zn
    · have htest : (((n : Int) + (L : Int)) % 64 != 56) = true := by
        have := HZ.out; simp; omega
      have hS := Lib.hid (show (128 :: List.replicate (L + 1 - 1) 0 : List UInt8) = (128 :: List.replicate (L - 1) 0) ++ [0] from by
        rw [show L + 1 - 1 = (L - 1) + 1 from by omega, List.replicate_succ', List.cons_append])
      go_wp2_with (at_builtin; refine wpList_append_src rfl _ _ 22 22 rfl sl22 (.inl sl22.ht) rfl (hown.alloc _) rfl (Src.oneNew _ _ _ rfl) (by omega) (by unfold maxLen; omega) (by simp; omega) ?_; intro a1 cap1 w1 hown1 hgr1 _)
      have hb2 := below_grown (hbel.alloc (by omega) _) hgr1 (hown.alloc _) (Nat.le_refl _) (by simp; omega)
      go_roundw
      case rel => exact ⟨L + 1, a1, cap1, by omega, by omega, rfl, by rw [hS.out, byteVals_snoc]; exact hown1, hb2⟩
      case measure => simp; omega
    · have hLz : L = 1 + zn := by omega
      have htest : (((n : Int) + (L : Int)) % 64 != 56) = false := by
        have := HZ.out; simp; omega
      clear hlt
      have HL := Box.mk hLz
      have hL64 : L ≤ 64 := by omega
      clear hLz hL1 hL2
      go_wp2_with fail
      have hpz : padding m.length = (128 :: List.replicate (L - 1) 0) ++ be8 (8 * n) := by
        rw [← HN.out]; unfold padding
        rw [show zeros n = L - 1 from by rw [HL.out]; have := HZ.out; unfold zeros; omega, List.cons_append]
      generalize (128 :: List.replicate (L - 1) 0 : List UInt8) = pz at *
      have HPZ := Box.mk hpz; clear hpz
      go_loopw [4, 23] (fun v i wr => ∃ (k : Nat) (a : Option Addr) (cap : Nat), k ≤ 8 ∧ i = .int .i64 k ∧ v = .slice a (L + k) cap ∧ wr.ownsRow (w.heap.size + 2) 5 1 (.slice a (L + k) cap) (L + k) (byteVals (pz ++ (be8 (8 * n)).take k)) ∧ Below (w.heap.size + 2) w2 wr)
        (fun _ i _ => 8 - (intOf i).toNat)
      case atStart => exact ⟨0, a, cap, by omega, rfl, rfl, by rw [List.take_zero, List.append_nil]; exact hown, hbel⟩
      case round =>
        clear hown hbel k73 hsz
        obtain ⟨k, a, cap, hk8, rfl, rfl, hown, hbel⟩ := hrel
        have hsz := hbel.size
        by_cases hlt : k < 8
        · have hbyte := be8_byte n k
          have hS := Lib.hid (be8_take (8 * n) k hlt)
          generalize UInt8.ofNat (8 * n / 2 ^ (56 - 8 * k)) = c at *
          go_wp2_with (at_builtin; refine wpList_append_src rfl _ _ 22 22 rfl sl22 (.inl sl22.ht) rfl (hown.alloc _) rfl (Src.oneNew _ _ _ rfl) (by omega) (by unfold maxLen; omega) (by simp; omega) ?_; intro a1 cap1 w1 hown1 hgr1 _)
          have hb2 := below_grown (hbel.alloc (by omega) _) hgr1 (hown.alloc _) (Nat.le_refl _) (by simp; omega)
          go_roundw
          case rel => exact ⟨k + 1, a1, cap1, by omega, by go_num, rfl, by rw [hS.out, ← List.append_assoc, byteVals_snoc]; exact hown1, hb2⟩
          case measure => simp [intOf]; omega
        · have h8 : k = 8 := by omega
          subst h8
          have hp8 : pz ++ (be8 (8 * n)).take 8 = padding m.length := by rw [HPZ.out, List.take_of_length_le (by rw [be8_length]; exact Nat.le_refl _)]
          rw [hp8] at hown
          clear hp8 hlt htest
          have bS := b1.keep hbel (by omega)
          have bO := b2.keep hbel (by omega)
          have hB := B2.trans (hbel.mono (by omega))
          have hst := run_string_rd (P := Tryd.prog) (src := 22) (dst := 9) (e := 5) (by kernel_rfl) (by kernel_rfl) (by kernel_rfl) (Rd.ofOwn hown)
          clear hown
          have hz3 := hB.size
          go_wp2_with (first
            | ((with_reducible show wpList _ _ _ _ _ _); refine wpList_load_agg (o := ⟨some 36, _, _, _, _, _⟩) rfl 53 _ rfl agg53 rfl (cs := cs) h0.out bS.agg ?_))
          have hcall := strmAdd_any m s held n (padding m.length) HH.out wr (by rw [padding_length, ← HN.out]; unfold zeros; omega) (Kons.below hK hB (Nat.le_refl _)) (by omega)
          rw [HC.out] at hcall
          refine hcall.mono ?_
          rintro e w3 ⟨s3, held3, n3, H3, rfl, hb3⟩
          clear hcall hst
          have bS3 := bS.call0 hb3
          have bO3 := bO.call0 hb3
          have hB3 := hB.call0 (Nat.le_refl _) hb3
          have hz4 := hB3.size
          have bS4 := bS3.row (strmVals s3 held3 n3)
          have bO4 := bO3.rowOther (k := w.heap.size) (by omega) (strmVals s3 held3 n3).toArray
          have hB4 := below_setRow hB3 (Nat.le_refl _) (strmVals s3 held3 n3).toArray
          have zz4 : (w3.setRow w.heap.size (strmVals s3 held3 n3).toArray).heap.size = w3.heap.size := by simp
          have hsha := Box.mk H3.sha
          have hlen3 := Box.mk (strmVals_length (s := s3) (n := n3) H3.len)
          have hone3 := Box.mk (strmVals_one s3 held3 n3)
          have hword : ∀ q, q < 8 → (strmVals s3 held3 n3)[q]? = some (.int .u32 ((s3.list.getD q 0).toNat : Int)) := fun q hq => by
            have hw : (wordVals s3.list).length = 8 := rfl
            have hs : s3.list.length = 8 := rfl
            unfold strmVals
            rw [List.append_assoc, List.getElem?_append_left (by omega)]
            simp [wordVals, List.getD, List.getElem?_eq_getElem (show q < s3.list.length by omega)]
          have HWD := Lib.hid hword; clear hword
          generalize strmVals s3 held3 n3 = cs3 at *
          have hz5 := hb3.size
          clear H3 hb3 bS bO hB
          go_wp2_with (first
            | ((with_reducible show wpList _ _ _ _ _ _); refine wpList_store_row (o := ⟨none, .store 53 (.tmp 1) (.tmp 39), _, _, _, _⟩) rfl 53 _ _ rfl rfl agg53.info bS3 h0.out rfl (cs := cs3) rfl hlen3.out hone3.out ?_; clear bS3 bO3 hB3; generalize w3.setRow w.heap.size cs3.toArray = w4 at *)
            | ((with_reducible show wpList _ _ _ _ _ _); refine wpList_alloc (o := ⟨some 6, .alloc 47, _, _, _, _⟩) rfl 47 rfl zero47 (zc := zero32.toArray) rfl ?_))
          have hg6 : w.heap.size + 2 ≤ w3.heap.size := by omega
          have b6 := Blk.new (w := w4) (ty := 47) (cs := zero32) (k := w3.heap.size) zz4.symm rfl
          have bS5 := bS4.alloc (.cells zero32.toArray 47)
          have bO5 := bO4.alloc (.cells zero32.toArray 47)
          have hB5 := hB4.new (Nat.le_refl _) (.cells zero32.toArray 47)
          clear bS4 bO4 hB4
          generalize w4.alloc (.cells zero32.toArray 47) = w5 at *
          generalize w3.heap.size = g6 at *
          have ho32 := Box.mk (out32_length s3)
          go_loopw [40] (fun v wr => ∃ i : Nat, i ≤ 32 ∧ v = .int .i64 i ∧ Blk wr g6 47 (byteVals ((out32 s3).take i) ++ List.replicate (32 - i) (Value.int .u8 0)) ∧ Blk wr w.heap.size 53 cs3 ∧ Blk wr (w.heap.size + 1) 47 zero32 ∧ Below w.heap.size w wr)
            (fun v _ => 32 - (intOf v).toNat)
          case atStart => exact ⟨0, by omega, rfl, b6, bS5, bO5, hB5⟩
          case round =>
            clear b6 bS5 bO5 hB5
            obtain ⟨i, hi32, rfl, b6, bS5, bO5, hB5⟩ := hrel
            by_cases hlt : i < 32
            · have hby := out_byte s3 i hlt
              have hset := fill_set (out32 s3) 32 i ho32.out hlt
              have kq := bS5.cellOf (HWD.out (i / 4) (by omega))
              have kf := b6.free i
              have b7 := b6.set i (.int .u8 (((out32 s3).getD i 0).toNat : Int))
              rw [hset] at b7
              have HS := Box.mk hset; clear hset
              obtain ⟨c0, hc0⟩ := (show ∃ u, (byteVals ((out32 s3).take i) ++ List.replicate (32 - i) (Value.int .u8 0))[i]? = some u from ⟨_, List.getElem?_eq_getElem (by rw [List.length_append, byteVals_length, List.length_take, ho32.out, List.length_replicate]; omega)⟩)
              have kc := b6.cellOf hc0
              have HC0 := Box.mk hc0; clear hc0
              obtain ⟨q, hq⟩ : ∃ q, i / 4 = q := ⟨_, rfl⟩
              obtain ⟨r, hr⟩ : ∃ r, i % 4 = r := ⟨_, rfl⟩
              have hqi : (i : Int) / 4 = (q : Int) := by omega
              have hri : (i : Int) % 4 = (r : Int) := by omega
              have hq8 : q < 8 := by omega
              have hr4 : r < 4 := by omega
              rw [hq, hr] at hby
              rw [hq] at kq
              clear hq hr
              generalize (out32 s3).getD i 0 = c at *
              generalize s3.list.getD q 0 = x at *
              have hx32 := x.toNat_lt
              have bS6 := bS5.other (p := ⟨g6, i, none⟩) (by simp; omega) (.int .u8 (c.toNat : Int))
              have bO6 := bO5.other (p := ⟨g6, i, none⟩) (by simp; omega) (.int .u8 (c.toNat : Int))
              have hB6 := hB5.setCell (p := ⟨g6, i, none⟩) (by simp; omega) (.int .u8 (c.toNat : Int))
              go_wp2_with fail
              go_roundw
              case rel => exact ⟨i + 1, by omega, by go_num, b7, bS6, bO6, hB6⟩
              case measure => simp [intOf]; omega
            · have h32 : i = 32 := by omega
              subst h32
              have hfin : byteVals ((out32 s3).take 32) ++ List.replicate (32 - 32) (Value.int .u8 0) = byteVals (sha m) := by
                rw [List.take_of_length_le (by rw [ho32.out]; exact Nat.le_refl _), Nat.sub_self, List.replicate_zero, List.append_nil, hsha.out]
              rw [hfin] at b6
              have hl32 := Box.mk (show (byteVals (sha m)).length = 32 from by rw [byteVals_length, sha_length])
              have ho1 := Box.mk (byteVals_one (sha m))
              clear hfin
              generalize byteVals (sha m) = res at *
              go_wp2_with (first
                | ((with_reducible show wpList _ _ _ _ _ _); refine wpList_load_agg (o := ⟨some 57, _, _, _, _, _⟩) rfl 47 _ rfl agg47 rfl (cs := res) hl32.out b6.agg ?_)
                | ((with_reducible show wpList _ _ _ _ _ _); refine wpList_store_row (o := ⟨none, .store 47 (.tmp 2) (.tmp 57), _, _, _, _⟩) rfl 47 _ _ rfl rfl agg47.info bO5 rfl rfl (cs := res) rfl hl32.out ho1.out ?_))
              exact bodyPost_ret (results_cell1 (g := w.heap.size + 1) (cs := res) rfl _ rfl (bO5.row res) (by rw [hl32.out]; exact agg47)) rfl ⟨rfl, below_setRow hB5 (by omega) _⟩
end Go.Proofs.YtcngnpkpaliflaaDoor
