/-
  The walk of hex. No condition.
-/
import Derived.Test.YtcngnpkpaliflaaDoorWOf
namespace Go.Proofs.YtcngnpkpaliflaaDoor
open Go.RowKit

def dgs : List UInt8 := [48, 49, 50, 51, 52, 53, 54, 55, 56, 57, 97, 98, 99, 100, 101, 102]
def hexOf (l : List UInt8) : List UInt8 := l.flatMap fun c => [dgs.getD (c.toNat / 16) 0, dgs.getD (c.toNat % 16) 0]
theorem hexOf_length (l : List UInt8) : (hexOf l).length = 2 * l.length := by
  induction l with
  | nil => rfl
  | cons x l ih => rw [hexOf, List.flatMap_cons, List.length_append]; unfold hexOf at ih; rw [ih]; simp; omega

/-- A new block of several cells, as a source. -/
theorem src_new {P : Program} {w : World} {g e : Nat} {cs : List Value} {n : Nat} (hb : Blk w g e cs) (hl : cs.length = n) (hn : n ≤ maxLen) (h1 : ∀ u ∈ cs, u.oneCell' = true) : Src P w (.slice (some ⟨g, 0, none⟩) n n) n 1 cs :=
  Src.ofRd (Rd.ofOwn (own_new hb (Nat.zero_le _) (by rw [hl, Nat.mul_one]) hn)) h1

set_option maxRecDepth 20000 in
set_option maxHeartbeats 1000000 in
theorem hex_any (s : List UInt8) (w : World) (hs : s.length ≤ 1000000) :
    Calls Tryd.prog 37 #[.string ⟨s.toArray⟩] w fun e w' => e = .returned (.string ⟨(hexOf s).toArray⟩) ∧ Below w.heap.size w w' := by
  have hz : (⟨s.toArray⟩ : ByteArray).size = s.length := str_size s
  go_enter Tryd.func37, Tryd.ntmps37
  go_wp2_with fail
  go_loopw [4, 5] (fun v i wr => ∃ (k m : Nat) (a : Option Addr) (cap : Nat), k ≤ s.length ∧ m = 2 * k ∧ i = .int .i64 k ∧ v = .slice a m cap ∧ wr.ownsRow w.heap.size 5 1 (.slice a m cap) m (byteVals (hexOf (s.take k))) ∧ Below w.heap.size w wr)
    (fun _ i _ => s.length - (intOf i).toNat)
  case atStart => exact ⟨0, 0, none, 0, Nat.zero_le _, rfl, rfl, rfl, World.ownsRow_nil _ _ _ _, Below.refl _ _⟩
  case round =>
    obtain ⟨k, m, a, cap, hk, hm, rfl, rfl, hown, hbel⟩ := hrel
    have Hm := Lib.hid hm
    have hm2 : m ≤ 2 * s.length := by omega
    clear hm
    have hsz := hbel.size
    by_cases hlt : k < s.length
    · have hS := Lib.hid (show hexOf (s.take (k + 1)) = hexOf (s.take k) ++ [dgs.getD ((s.getD k 0).toNat / 16) 0, dgs.getD ((s.getD k 0).toNat % 16) 0] from by
        rw [List.take_succ_eq_append_getElem hlt, hexOf, List.flatMap_append]; simp [hexOf, List.getD, List.getElem?_eq_getElem hlt])
      have i1 := run_index_str (P := Tryd.prog) (t := 9) (by kernel_rfl) s .i64 k hlt
      have hc := (s.getD k 0).toNat_lt
      have i2 := run_index_str (P := Tryd.prog) (t := 9) (by kernel_rfl) dgs .u8 ((s.getD k 0).toNat / 16) (by show _ < 16; omega)
      have i3 := run_index_str (P := Tryd.prog) (t := 9) (by kernel_rfl) dgs .u8 ((s.getD k 0).toNat % 16) (by show _ < 16; omega)
      generalize dgs.getD ((s.getD k 0).toNat / 16) 0 = d1 at *
      generalize dgs.getD ((s.getD k 0).toNat % 16) 0 = d2 at *
      generalize (s.getD k 0) = c at *
      obtain ⟨q, hq⟩ : ∃ q, c.toNat / 16 = q := ⟨_, rfl⟩
      obtain ⟨r, hr⟩ : ∃ r, c.toNat % 16 = r := ⟨_, rfl⟩
      have t1 : ((c.toNat : Int)).tdiv 16 = (q : Int) := by rw [Int.tdiv_eq_ediv_of_nonneg (by omega)]; omega
      have t2 : ((c.toNat : Int)).tmod 16 = (r : Int) := by rw [Int.tmod_eq_emod_of_nonneg (by omega)]; omega
      rw [hq] at i2; rw [hr] at i3
      have hq16 : q < 16 := by omega
      have hr16 : r < 16 := by omega
      have w1 : IntKind.u8.wrap (q : Int) = (q : Int) := by rw [u8wrap]; omega
      have w2 : IntKind.u8.wrap (r : Int) = (r : Int) := by rw [u8wrap]; omega
      unfold dgs at i2 i3
      clear hq hr
      go_wp2_with fail
      --REGION [0,1,2,3,4,5,6,7,8,9,10,11,12]
      --BEGIN
      refine wp_region_any (by kernel_rfl) ?_
      (change wpAny _ _ _ _ _ _ _ (World.drew _))
      refine wpAny_take (i := 0) (v := ?_) rfl (by kernel_rfl) (by kernel_rfl) (by kernel_rfl) (fun _ _ _ h => h) (Or.inl ⟨by rfl, ?_⟩) ?_
      rotate_left
      · intro w
        go_simp
        all_goals with_reducible rfl
      refine wpAny_take (i := 1) (v := ?_) rfl (by kernel_rfl) (by kernel_rfl) (by kernel_rfl) (fun _ _ _ h => h) (Or.inl ⟨by rfl, ?_⟩) ?_
      rotate_left
      · intro w
        go_simp
        all_goals with_reducible rfl
      refine wpAny_take (i := 2) (v := ?_) rfl (by kernel_rfl) (by kernel_rfl) (by kernel_rfl) (fun _ _ _ h => h) (Or.inl ⟨by rfl, ?_⟩) ?_
      rotate_left
      · intro w
        go_simp
        all_goals with_reducible rfl
      refine wpAny_take (i := 3) (v := ?_) rfl (by kernel_rfl) (by kernel_rfl) (by kernel_rfl) (fun _ _ _ h => h) (Or.inl ⟨by rfl, ?_⟩) ?_
      rotate_left
      · intro w
        go_simp
        all_goals with_reducible rfl
      refine wpAny_take (i := 4) (v := ?_) rfl (by kernel_rfl) (by kernel_rfl) (by kernel_rfl) (fun _ _ _ h => h) (Or.inl ⟨by rfl, ?_⟩) ?_
      rotate_left
      · intro w
        go_simp
        all_goals with_reducible rfl
      refine wpAny_take (i := 5) (v := ?_) rfl (by kernel_rfl) (by kernel_rfl) (by kernel_rfl) (fun _ _ _ h => h) (Or.inl ⟨by rfl, ?_⟩) ?_
      rotate_left
      · intro w
        go_simp
        all_goals with_reducible rfl
      refine wpAny_take (i := 6) (v := ?_) rfl (by kernel_rfl) (by kernel_rfl) (by kernel_rfl) (fun _ _ _ h => h) (Or.inl ⟨by rfl, ?_⟩) ?_
      rotate_left
      · intro w
        go_simp
        all_goals with_reducible rfl
      refine wpAny_take (i := 7) (v := ?_) rfl (by kernel_rfl) (by kernel_rfl) (by kernel_rfl) (fun _ _ _ h => h) (Or.inl ⟨by rfl, ?_⟩) ?_
      rotate_left
      · intro w
        go_simp
        all_goals with_reducible rfl
      refine wpAny_take (i := 8) (v := ?_) rfl (by kernel_rfl) (by kernel_rfl) (by kernel_rfl) (fun _ _ _ h => h) (Or.inl ⟨by rfl, ?_⟩) ?_
      rotate_left
      · intro w
        go_simp
        all_goals with_reducible rfl
      refine wpAny_take (i := 9) (v := ?_) rfl (by kernel_rfl) (by kernel_rfl) (by kernel_rfl) (fun _ _ _ h => h) (Or.inl ⟨by rfl, ?_⟩) ?_
      rotate_left
      · intro w
        go_simp
        all_goals with_reducible rfl
      refine wpAny_take (i := 10) (v := ?_) rfl (by kernel_rfl) (by kernel_rfl) (by kernel_rfl) (fun _ _ _ h => h) (Or.inl ⟨by rfl, ?_⟩) ?_
      rotate_left
      · intro w
        go_simp
        all_goals with_reducible rfl
      refine wpAny_take (i := 11) (v := ?_) rfl (by kernel_rfl) (by kernel_rfl) (by kernel_rfl) (fun _ _ _ h => h) (Or.inl ⟨by rfl, ?_⟩) ?_
      rotate_left
      · intro w
        go_simp
        all_goals with_reducible rfl
      refine wpAny_take (i := 12) (v := ?_) rfl (by kernel_rfl) (by kernel_rfl) (by kernel_rfl) (fun _ _ _ h => h) (Or.inl ⟨by rfl, ?_⟩) ?_
      rotate_left
      · intro w
        go_simp
        all_goals with_reducible rfl
      --END
      conv =>
        arg 7
        simp [go_sem]
      refine wpAny_ready (rs := [13]) (by kernel_rfl) (by simp) (AllReady.cons rfl (fun K hK' => oper_lit2 rfl 22 (.tmp 18) (.tmp 24) rfl sl22 (v := .int .u8 (d1.toNat : Int)) (u := .int .u8 (d2.toNat : Int)) rfl rfl (hK' _ _ ?_)) AllReady.nil)
      clear hK' K
      conv =>
        arg 7
        simp [go_sem]
      have hown1 := own_below hown ((((Below.refl wr.heap.size wr).drew).alloc (by simp) (.cells #[.int .u8 (d1.toNat : Int), .int .u8 (d2.toNat : Int)] 5))) (Nat.le_refl _)
      have hsrc := src_new (P := Tryd.prog) (w := wr.drew.alloc (.cells #[.int .u8 (d1.toNat : Int), .int .u8 (d2.toNat : Int)] 5)) (g := wr.heap.size) (e := 5) (cs := byteVals [d1, d2]) (n := 2) (Blk.new rfl rfl) rfl (by unfold maxLen; omega) (byteVals_one _)
      refine wpAny_ready (rs := [14]) (by kernel_rfl) (by simp) (AllReady.cons rfl (fun K hK' => oper_append rfl (.tmp 12) (.tmp 25) 22 22 rfl sl22 (.inl sl22.ht) rfl hown1 rfl hsrc (by omega) (by unfold maxLen; omega) (by simp; omega) (fun a1 cap1 w1 hown2 hgr => hK' _ _ ?_)) AllReady.nil)
      clear hK' K hsrc
      have hb2 := below_grown ((hbel.drew).alloc (by simp; omega) _) hgr hown1 (Nat.le_refl _) (by simp; omega)
      rw [← byteVals_append] at hown2
      refine wpAny_ready (rs := [15]) (by kernel_rfl) (by simp) (AllReady.cons rfl (fun K hK' => oper_val rfl (v := .slice a1 (m + 2) cap1) rfl (hK' _ _ ?_)) AllReady.nil)
      clear hK' K
      refine wpAny_done (by kernel_rfl) ?_ _
      conv =>
        arg 5
        simp [go_sem]
      go_wp2_with fail
      go_roundw
      case rel => exact ⟨k + 1, m + 2, a1, cap1, by omega, by have := Hm.out; omega, by go_num, rfl, by rw [hS.out]; exact hown2, hb2⟩
      case measure => simp [intOf]; omega
    · have hkn : k = s.length := by omega
      subst hkn
      have hA := Lib.hid (show hexOf (s.take s.length) = hexOf s from by rw [List.take_of_length_le (Nat.le_refl _)])
      rw [hA.out] at hown
      have hl := hexOf_length s
      have hst : (convert 22 9 (.slice a m cap)).run Tryd.prog wr = .ok (.string ⟨(hexOf s).toArray⟩) wr := run_string_rd (src := 22) (dst := 9) (e := 5) (by kernel_rfl) (by kernel_rfl) (by kernel_rfl) (Rd.ofOwn hown)
      have HL := Lib.hid hl; clear hl
      go_wp2_with fail
      go_ret
      exact ⟨rfl, hbel⟩
end Go.Proofs.YtcngnpkpaliflaaDoor
