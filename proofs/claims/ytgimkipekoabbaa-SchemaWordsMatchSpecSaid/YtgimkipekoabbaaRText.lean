/-
  The walks of the reference's Text and constant. No condition.
-/
import Derived.Test.YtgimkipekoabbaaWds
import Derived.Test.YtgimkipekoabbaaWCompare
namespace Go.Proofs.Ytgimkipekoabbaa
open Go.RowKit

/-- A list of integers of the call's own. -/
def RetL (L : List Int) (w : World) (e : Ending) (w' : World) : Prop := Below w.heap.size w w' ∧ ∃ a cap, e = .returned (.slice a L.length cap) ∧ w'.ownsRow w.heap.size 3 1 (.slice a L.length cap) L.length (intVals L)

set_option maxRecDepth 20000 in
set_option maxHeartbeats 4000000 in
theorem rtext_any (s : List UInt8) (w : World) (hs : s.length ≤ 100000) : Calls Try.prog 56 #[.string ⟨s.toArray⟩] w (RetL (textW s) w) := by
  have hz : (⟨s.toArray⟩ : ByteArray).size = s.length := str_size s
  go_enter Try.func56, Try.ntmps56
  go_wp2_with fail
  go_loopw [3, 4] (fun v i wr => ∃ (k : Nat) (a : Option Addr) (cap : Nat), k ≤ nWords s.length ∧ i = .int .i64 (5 * k : Nat) ∧ v = .slice a k cap ∧ wr.ownsRow w.heap.size 3 1 (.slice a k cap) k (intVals (textUp s k)) ∧ Below w.heap.size w wr) (fun _ i _ => s.length + 5 - (intOf i).toNat)
  case atStart => exact ⟨0, none, 0, Nat.zero_le _, rfl, rfl, World.ownsRow_nil _ _ _ _, Below.refl _ _⟩
  case round =>
    obtain ⟨k, a, cap, hk, rfl, rfl, hown, hbel⟩ := hrel
    by_cases hlt : 5 * k < s.length
    · obtain ⟨p, hp⟩ : ∃ p, p = 5 * k := ⟨_, rfl⟩
      have HP := Box.mk hp
      have hkn := lt_nWords hlt
      have hup := Box.mk (textUp_succ s k)
      have hp5 := Box.mk (show ((5 * (k + 1) : Nat) : Int) = (p : Int) + 5 from by omega)
      rw [← hp] at hlt ⊢
      clear hp
      have HO := Box.mk (And.intro hown hbel)
      clear hown hbel
      go_wp2_with fail
      go_loopw [5, 6] (fun v j wr2 => ∃ m : Nat, m ≤ 5 ∧ j = .int .i64 m ∧ v = .int .i64 (wordTo s k m : Nat) ∧ wr2 = wr) (fun _ j _ => 5 - (intOf j).toNat)
      case atStart => exact ⟨0, by omega, rfl, rfl, rfl⟩
      case round =>
        obtain ⟨m, hm, rfl, rfl, rfl⟩ := hrel
        by_cases hm5 : m < 5
        · have hwlt := wordTo_lt5 s k m hm5
          by_cases hpm : p + m < s.length
          · have hst : Box (wordTo s k (m + 1) = wordTo s k m * 256 + (s.getD (p + m) 0).toNat) := ⟨by rw [HP.out]; rfl⟩
            have hy := (s.getD (p + m) 0).toNat_lt
            have hix := run_index_str (P := Try.prog) (t := 9) (by kernel_rfl) s .i64 (p + m) hpm wr
            rw [show ((p + m : Nat) : Int) = (p : Int) + (m : Int) from by omega] at hix
            generalize (s.getD (p + m) 0).toNat = y at *
            generalize hv : wordTo s k m = v at *
            clear hv
            go_wp2_with fail
            refine ⟨⟨m + 1, by omega, by go_num, ?_, trivial⟩, by simp [intOf]; omega⟩
            rw [hst.out]; go_num
          · have hst : Box (wordTo s k (m + 1) = wordTo s k m * 256) := ⟨by
              have h1 := HP.out
              show wordTo s k m * 256 + (s.getD (5 * k + m) 0).toNat = _
              rw [List.getD_eq_getElem?_getD, List.getElem?_eq_none (by omega)]; rfl⟩
            generalize hv : wordTo s k m = v at *
            clear hv
            go_wp2_with fail
            refine ⟨⟨m + 1, by omega, by go_num, ?_, trivial⟩, by simp [intOf]; omega⟩
            rw [hst.out]; go_num
        · obtain rfl : m = 5 := by omega
          have hwd := Box.mk (show ((wordTo s k 5 : Nat) : Int) = wordAt s k from rfl)
          obtain ⟨hown, hbel⟩ := HO.out
          have hsz := hbel.size
          have hkl : k ≤ 20000 := by have := HP.out; omega
          go_wp2_with (at_builtin; refine wpList_append_src rfl _ _ 32 32 rfl sl_int (.inl sl_int.ht) rfl (hown.alloc _) rfl (Src.oneNew _ _ _ rfl) (by omega) (by unfold maxLen; omega) (by simp; omega) ?_; intro a3 cap3 w3 hown3 hgr3 _)
          have hb3 := below_grown (hbel.alloc hsz _) hgr3 (hown.alloc _) (Nat.le_refl _) (by simp; omega)
          refine ⟨⟨k + 1, a3, cap3, hkn, by rw [hp5.out], rfl, ?_, hb3⟩, by simp [intOf]; omega⟩
          rw [hup.out]
          simpa [intVals, hwd.out] using hown3
    · have hkn := nWords_le hlt hk
      subst hkn
      go_wp2_with fail
      go_ret
      refine ⟨hbel, a, cap, ?_, ?_⟩
      · rw [textW_length]; rfl
      · rw [textW_length]; exact hown

set_option maxRecDepth 20000 in
set_option maxHeartbeats 4000000 in
theorem rconst_any (k n : Int) (s : List UInt8) (w : World) (hk1 : k = 1 → -549755813888 ≤ n ∧ n ≤ 549755813887) (hs : s.length ≤ 1000) : Calls Try.prog 58 #[.agg #[.int .i64 k, .int .i64 n, .string ⟨s.toArray⟩]] w (RetL (valW ⟨k, n, s⟩) w) := by
  have hz : (⟨s.toArray⟩ : ByteArray).size = s.length := str_size s
  have HT := Box.mk (fun w => rtext_any s w (by omega))
  by_cases h1 : k = 1
  · subst h1
    have hn := hk1 rfl
    have HV := Box.mk (show valW ⟨1, n, s⟩ = [n + 549755813888] from rfl)
    go_enter Try.func58, Try.ntmps58
    go_wp2_with fail
    go_ret
    rw [HV.out]
    exact ⟨((Below.refl _ _).alloc (Nat.le_refl _) _).alloc (by simp) _, _, 1, rfl, own_new (Blk.new (by simp) rfl) (by simp) rfl (by simp [maxLen])⟩
  · by_cases h3 : k = 3
    · subst h3
      have HV := Box.mk (show valW ⟨3, n, s⟩ = [n] from rfl)
      clear h1 hk1
      go_enter Try.func58, Try.ntmps58
      go_wp2_with fail
      go_ret
      rw [HV.out]
      exact ⟨((Below.refl _ _).alloc (Nat.le_refl _) _).alloc (by simp) _, _, 1, rfl, own_new (Blk.new (by simp) rfl) (by simp) rfl (by simp [maxLen])⟩
    · have HV := Box.mk (show valW ⟨k, n, s⟩ = [(s.length : Int)] ++ textW s from by unfold valW; rw [if_neg h1, if_neg h3])
      have t1 : (k == 1) = false := by simp [h1]
      have t3 : (k == 3) = false := by simp [h3]
      clear h1 h3 hk1
      have hw0 : ((w.alloc (.cells #[.int .i64 k, .int .i64 n, .string ⟨s.toArray⟩] 40)).alloc (.cells #[.int .i64 (s.length : Int)] 3)).ownsRow w.heap.size 3 1 (.slice (some ⟨w.heap.size + 1, 0, none⟩) 1 1) 1 [.int .i64 (s.length : Int)] := own_new (Blk.new (by simp) rfl) (by simp) rfl (by simp [maxLen])
      have hB0 : Below w.heap.size w ((w.alloc (.cells #[.int .i64 k, .int .i64 n, .string ⟨s.toArray⟩] 40)).alloc (.cells #[.int .i64 (s.length : Int)] 3)) := ((Below.refl _ _).alloc (Nat.le_refl _) _).alloc (by simp) _
      have b0 := ((Blk.new (w := w) (k := w.heap.size) (ty := 40) (cs := [.int .i64 k, .int .i64 n, .string ⟨s.toArray⟩]) rfl rfl).alloc (.cells #[.int .i64 (s.length : Int)] 3)).cellOf (i := 2) rfl
      have HW0 := Box.mk (And.intro hw0 hB0)
      clear hw0 hB0
      go_enter Try.func58, Try.ntmps58
      go_wp2_with fail
      refine (HT.out _).mono ?_
      rintro e w2 ⟨hb, ta, tc, rfl, hown2⟩
      obtain ⟨hown, hB⟩ := HW0.out
      have hown' := own_below hown hb (Nat.le_refl _)
      have hB2 := hB.trans (hb.mono hB.size)
      have hl : (textW s).length ≤ 200 := by rw [textW_length]; unfold nWords; omega
      generalize textW s = M at *
      go_wp2_with (at_builtin; refine wpList_append_src rfl _ _ 32 32 rfl sl_int (.inl sl_int.ht) rfl hown' rfl (Src.ofRd (Rd.ofOwn hown2) (intVals_one _)) (by omega) (by unfold maxLen; omega) (by have := hB2.size; omega) ?_; intro a3 cap3 w3 hown3 hgr3 _)
      go_ret
      have hb3 := below_grown hB2 hgr3 hown' (Nat.le_refl _) (by have := hB2.size; omega)
      have hlen : ([(s.length : Int)] ++ M).length = 1 + M.length := by simp; omega
      rw [HV.out]
      refine ⟨hb3, a3, cap3, ?_, ?_⟩
      · rw [hlen]; rfl
      · rw [hlen]; simpa [intVals] using hown3
end Go.Proofs.Ytgimkipekoabbaa
