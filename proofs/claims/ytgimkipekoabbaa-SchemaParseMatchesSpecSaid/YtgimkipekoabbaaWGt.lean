/-
  The walk of the reference's Reader.text. No condition.
-/
import Derived.Test.YtgimkipekoabbaaWGr
import Derived.Test.YtgimkipekoabbaaPrs2
namespace Go.Proofs.Ytgimkipekoabbaa
open Go.RowKit

def gBy (l : List Int) : Nat → List UInt8 × List Int
  | 0 => ([], l)
  | k + 1 => ((gBy l k).1 ++ bytesTo (gW (gBy l k).2).1 5, (gW (gBy l k).2).2)
def gT (n : Nat) (l : List Int) : List UInt8 × List Int := if n ≤ 64 then ((gBy l (nWords n)).1.take n, (gBy l (nWords n)).2) else ([], l)
theorem gBy_len (l : List Int) : ∀ k, (gBy l k).1.length = 5 * k
  | 0 => rfl
  | k + 1 => by unfold gBy; rw [List.length_append, gBy_len l k, bytesTo_len]; omega
theorem bytesTo_take (m : Int) (k : Nat) (h : k ≤ 5) : (bytesTo m 5).take k = bytesTo m k := by
  unfold bytesTo
  rw [← List.map_take, List.take_range]
  congr 2; omega

theorem byteAt_int2 (m : Int) (j : Nat) (h : 0 ≤ m) (hj : j < 5) : m / 2 ^ (32 - 8 * j) % 256 = ((byteAt m j).toNat : Int) := by
  rw [← byteAt_int m j h, show 32 - 8 * j = 8 * (4 - j) from by omega]
set_option maxRecDepth 20000 in
set_option maxHeartbeats 4000000 in
theorem gtext_any {B g P : Nat} {l : List Int} {n : Nat} {w : World} (hr : RGP B w g P l) (hP : P ≤ 100000) (hgB : B ≤ g) (hn : (n : Int) ≤ 9223372036854775807) : Calls Try.prog 93 #[.pointer (some ⟨g, 0, none⟩), .int .i64 n] w (fun e w' => e = .returned (.string ⟨(gT n l).1.toArray⟩) ∧ RGP B w' g (P + 13) (gT n l).2 ∧ But [g] w w') := by
  have hglt := hr.lt
  by_cases h64 : n ≤ 64
  · have HG := Box.mk (show gT n l = _ from if_pos h64)
    have hnw : nWords n ≤ 13 := by unfold nWords; omega
    go_enter Try.func93, Try.ntmps93
    go_wp2_with fail
    go_loopw [5, 6] (fun v i wr => ∃ (j : Nat) (a : Option Addr) (c m : Nat), j ≤ nWords n ∧ i = .int .i64 (5 * j : Nat) ∧ v = .slice a m c ∧ Box (m = min n (5 * j) ∧ wr.ownsRow w.heap.size 5 1 (.slice a m c) m (byteVals ((gBy l j).1.take n)) ∧ RGP B wr g (P + j) (gBy l j).2 ∧ But [g] w wr)) (fun _ i _ => n + 5 - (intOf i).toNat)
    case atStart => exact ⟨0, none, 0, 0, Nat.zero_le _, rfl, rfl, ⟨by omega, by simpa [gBy, byteVals] using World.ownsRow_nil _ _ _ _, hr, But.refl _ _⟩⟩
    case round =>
      clear hr
      obtain ⟨j, a, c, m, hj, rfl, rfl, HB⟩ := hrel
      obtain ⟨q, hq⟩ : ∃ q, q = 5 * j := ⟨_, rfl⟩
      have HQ := Box.mk hq
      rw [← hq]
      by_cases hlt : q < n
      · have hjn := lt_nWords (show 5 * j < n by omega)
        obtain rfl : q = m := by have := HB.out.1; omega
        clear hq
        go_wp2_with fail
        refine (gword_any HB.out.2.2.1 (by omega) hgB).mono ?_
        rintro e w1 ⟨rfl, hr1, hb1, hmlt⟩
        have hm0 := gW_ge (gBy l j).2
        have hfst : (gBy l j).1.take n = (gBy l j).1 := List.take_of_length_le (by rw [gBy_len]; have := HQ.out; omega)
        have ho := HB.out.2.1
        rw [hfst] at ho
        have HS := Box.mk (show (gBy l (j + 1)).1 = (gBy l j).1 ++ bytesTo (gW (gBy l j).2).1 5 from rfl)
        have H1 := Box.mk (And.intro (own_eq ho (fun k hk => hb1.block k (ho.lt k hk).2 (fun hmm => by have := (ho.lt k hk).1; simp at hmm; omega))) (And.intro (show RGP B w1 g (P + (j + 1)) (gBy l (j + 1)).2 from hr1) (HB.out.2.2.2.trans hb1 (fun x hx => .inl hx))))
        have HL := Box.mk (gBy_len l j)
        clear HB hr1 hb1 ho hfst
        generalize (gW (gBy l j).2).1 = m at *
        generalize (gBy l j).1 = b at *
        go_wp2_with fail
        go_loopw [5, 8] (fun v i wr => ∃ (k : Nat) (a : Option Addr) (c : Nat), k ≤ 5 ∧ q + k ≤ n ∧ i = .int .i64 k ∧ v = .slice a (q + k) c ∧ Box (wr.ownsRow w.heap.size 5 1 (.slice a (q + k) c) (q + k) (byteVals (b ++ bytesTo m k)) ∧ RGP B wr g (P + (j + 1)) (gBy l (j + 1)).2 ∧ But [g] w wr)) (fun _ i _ => 5 - (intOf i).toNat)
        case atStart => exact ⟨0, a, c, by omega, by omega, rfl, rfl, ⟨by simpa [bytesTo] using H1.out.1, H1.out.2.1, H1.out.2.2⟩⟩
        case round =>
          obtain ⟨k, a, c, hk, hqk, rfl, rfl, H2⟩ := hrel
          by_cases hk5 : k < 5
          · by_cases hqn : q + k < n
            · have hq1 : (0 : Int) ≤ 32 - 8 * (k : Int) := by omega
              obtain ⟨ho, hr2, hb2⟩ := H2.out
              have hsz := hb2.size
              have hqn' : (q : Int) + (k : Int) < (n : Int) := by omega
              go_wp2_with (at_builtin; refine wpList_append_src rfl _ _ 63 63 rfl sl_u8 (.inl sl_u8.ht) rfl (ho.alloc _) rfl (Src.oneNew _ _ _ rfl) (by omega) (by unfold maxLen; omega) (by simp; omega) ?_; intro a3 cap3 w3 hown3 hgr3 _)
              refine ⟨⟨k + 1, a3, cap3, by omega, by omega, by go_num, rfl, ⟨?_, ?_, (hb2.alloc _).grown hgr3 (fun kk hkk => .inr ((ho.lt kk hkk).1))⟩⟩, by simp [intOf]; omega⟩
              · have hb : Value.int IntKind.u8 (m / 2 ^ (32 - 8 * k) % 256) = .int .u8 ((byteAt m k).toNat : Nat) := by rw [byteAt_int2 m k hm0 hk5]
                rw [bytesTo_succ, ← List.append_assoc, byteVals_snoc, ← hb]
                exact hown3
              · have hkp : ∀ kk, kk < w.heap.size → w3.heap[kk]? = wr.heap[kk]? := fun kk hkk => (hgr3.block kk (by simp; omega) (fun e => by have := (ho.lt kk e.symm).1; omega)).trans (heap_alloc_old _ _ (by omega))
                exact hr2.keep (hkp g hglt) (fun kk hkk => hkp kk (by omega))
            · have HQK := Box.mk (show q + k = n by omega)
              have hqn' : ¬ ((q : Int) + (k : Int) < (n : Int)) := by omega
              go_wp2_with fail
              have hq := HQ.out
              have hqk2 := HQK.out
              refine ⟨⟨j + 1, a, c, q + k, hjn, by rw [show ((5 * (j + 1) : Nat) : Int) = (q : Int) + 5 from by omega], rfl, ⟨by omega, ?_, H2.out.2.1, H2.out.2.2⟩⟩, by simp [intOf]; omega⟩
              rw [HS.out, show (b ++ bytesTo m 5).take n = b ++ bytesTo m k from by
                rw [List.take_append, List.take_of_length_le (by rw [HL.out]; omega), show n - b.length = k from by rw [HL.out]; omega, bytesTo_take m k hk]]
              exact H2.out.1
          · obtain rfl : k = 5 := by omega
            go_wp2_with fail
            have hq := HQ.out
            refine ⟨⟨j + 1, a, c, q + 5, hjn, by rw [show ((5 * (j + 1) : Nat) : Int) = (q : Int) + 5 from by omega], rfl, ⟨by omega, ?_, H2.out.2.1, H2.out.2.2⟩⟩, by simp [intOf]; omega⟩
            rw [HS.out, List.take_of_length_le (by rw [List.length_append, HL.out, bytesTo_len]; omega)]
            exact H2.out.1
      · have hjj := nWords_le (n := n) (by omega) hj
        subst hjj
        have hmm := HB.out.1
        have hrd := Rd.ofOwn HB.out.2.1
        obtain rfl : m = n := by omega
        have hcv := run_string_rd (P := Try.prog) (src := 63) (dst := 9) (e := 5) (by kernel_rfl) (by kernel_rfl) (by kernel_rfl) hrd
        clear hrd hmm hq
        go_wp2_with fail
        go_ret
        rw [HG.out]
        exact ⟨rfl, HB.out.2.2.1.mono (by omega), HB.out.2.2.2⟩
  · have HG := Box.mk (show gT n l = ([], l) from if_neg h64)
    have hcv : ∀ w, (convert 63 9 (.slice none 0 0)).run Try.prog w = .ok (.string ⟨#[]⟩) w := fun w => run_string_rd (P := Try.prog) (src := 63) (dst := 9) (e := 5) (l := []) (by kernel_rfl) (by kernel_rfl) (by kernel_rfl) (rd_nil _ _)
    have HR := Box.mk hr
    clear hr
    go_enter Try.func93, Try.ntmps93
    go_wp2_with fail
    go_loopw [5, 6] (fun v i wr => v = .slice none 0 0 ∧ i = .int .i64 0 ∧ wr = w) (fun _ _ _ => 0)
    case atStart => exact ⟨rfl, rfl, rfl⟩
    case round =>
      obtain ⟨rfl, rfl, rfl⟩ := hrel
      have h1 : (0 : Int) < (n : Int) := by omega
      have h2 : ¬ (n : Int) ≤ 64 := by omega
      go_wp2_with fail
      go_ret
      rw [HG.out]
      exact ⟨rfl, HR.out.mono (by omega), But.refl _ _⟩
end Go.Proofs.Ytgimkipekoabbaa
