/-
  The walk of slices.Delete of one index. No condition.
-/
import Derived.Test.YtgimkipekoabbaaTDel
namespace Go.Proofs.Ytgimkipekoabbaa
open Go.RowKit

def RetDel (B g n cap : Nat) (L : List IxP) (w : World) (e : Ending) (w' : World) : Prop :=
  e = .returned (.slice (some ⟨g, 0, none⟩) n cap) ∧ w'.ownsRow B 55 3 (.slice (some ⟨g, 0, none⟩) n cap) n (recC IxP.enc L) ∧ w.grownBy w' (some g)
theorem ixz_one : ∀ u ∈ (Value.agg #[.string ⟨#[]⟩, .slice none 0 0, .bool false]).cells.toList, u.oneCell' = true := by
  intro u hu; simp [Value.cells] at hu; rcases hu with rfl | rfl | rfl <;> rfl

theorem grown2 {w w1 w2 : World} {r : Option Nat} (h1 : w.grownBy w1 r) (h2 : w1.grownBy w2 r) : w.grownBy w2 r :=
  ⟨h2.os.trans h1.os, h2.tape.trans h1.tape, h2.output.trans h1.output, Nat.le_trans h1.size h2.size, fun k hk hne => by rw [h2.block k (by have := h1.size; omega) hne, h1.block k hk hne]⟩
theorem del_end {w w7 w8 : World} {B g k cap m n : Nat} {L M : List IxP} (h1 : w.drew.grownBy w7 (Value.slice (some ⟨g, 0, none⟩) k cap).ownBlock) (h2 : w8.ownsRow B 55 3 (.slice (some ⟨g, 0, none⟩) m cap) m (recC IxP.enc L ++ recC IxP.enc M)) (h3 : w7.grownBy w8 (some g)) (hm : m = n) :
    RetDel B g n cap (L ++ M) w (.returned (.slice (some ⟨g, 0, none⟩) m cap)) w8 := by
  subst hm
  have h4 : w.drew.grownBy w8 (some g) := grown2 h1 h3
  exact ⟨rfl, by rw [recC_append]; exact h2, h4.os, h4.tape, h4.output, h4.size, h4.block⟩

set_option maxRecDepth 20000 in
set_option maxHeartbeats 2000000 in
theorem delete_any (L : List IxP) (B g n cap k : Nat) (w : World) (hk : k < n) (hn : n ≤ 1000) (hown : w.ownsRow B 55 3 (.slice (some ⟨g, 0, none⟩) n cap) n (recC IxP.enc L)) :
    Calls Try.prog 71 #[.slice (some ⟨g, 0, none⟩) n cap, .int .i64 k, .int .i64 ((k : Int) + 1)] w (RetDel B g (n - 1) cap (L.take k ++ L.drop (k + 1)) w) := by
  have hrd := Rd.ofOwn hown
  have hcap := hrd.hcap
  have hmx := hrd.hmax
  unfold maxLen at hmx
  have HO := Box.mk (show World.ownsRow w.drew B 55 3 (.slice (some ⟨g, 0, none⟩) k cap) k (recC IxP.enc (L.take k)) from by
    rw [← recC_take IxP.enc_len]; exact own_pre hown k (by omega) (by simp))
  have hsub := hrd.sub (k + 1) n cap (by omega) (Nat.le_refl _) hcap (Nat.le_refl _)
  rw [recC_drop IxP.enc_len, List.take_of_length_le (by rw [recC_length IxP.enc_len, List.length_drop, hrd.rlen IxP.enc_len (by omega)]; exact Nat.le_refl _)] at hsub
  obtain ⟨A, hA⟩ : ∃ A, (if cap = k + 1 then some (⟨g, 0, none⟩ : Addr) else (some (⟨g, 0, none⟩ : Addr)).map (·.add ((k + 1) * 3))) = A := ⟨_, rfl⟩
  rw [hA] at hsub
  have SRC := Box.mk (Src.ofRd (P := Try.prog) hsub.drew (recC_one IxP.enc_one _))
  have HA := Box.mk hA
  clear hA hsub hrd hown
  have hne : (k == k + 1) = false := by simp
  have hne2 : ((k : Int) == (k : Int) + 1) = false := by simp only [beq_eq_false_iff_ne]; omega
  go_enter Try.func71, Try.ntmps71
  go_wp2_with fail
  have HS0 : True := trivial
  clear hne
  by_cases hck : cap = k + 1
  · have hA := HA.out
    rw [if_pos hck] at hA
    obtain rfl : n = k + 1 := by omega
    subst hck
    subst hA
    clear HA
    rw [Nat.sub_self] at SRC
    have q1 : (0 : Int) ≤ (k : Int) + 1 := by omega
    have q2 : (k : Int) ≤ (k : Int) + 1 := by omega
    refine wp_region_held_drew (S := fun _ => True) (by kernel_rfl) HS0 (fun _ => ?_)
    refine wpAnyH_take (i := 0) (v := ?_) rfl (by kernel_rfl) (by kernel_rfl) (by kernel_rfl) (fun _ _ _ h => h) (yieldsIf_val (by rfl) (fun w' hS => ?_)) HS0 ?_
    rotate_left
    · skip
      go_simp
      all_goals with_reducible rfl
    conv =>
      arg 8
      simp [go_sem]
    refine wpAnyH_take (i := 1) (v := ?_) rfl (by kernel_rfl) (by kernel_rfl) (by kernel_rfl) (fun _ _ _ h => h) (yieldsIf_val (by rfl) (fun w' hS => ?_)) HS0 ?_
    rotate_left
    · skip
      go_simp
      all_goals with_reducible rfl
    conv =>
      arg 8
      simp [go_sem]
    refine wpAnyH_take (i := 2) (v := ?_) rfl (by kernel_rfl) (by kernel_rfl) (by kernel_rfl) (fun _ _ _ h => h) (yieldsIf_val (by rfl) (fun w' hS => ?_)) HS0 ?_
    rotate_left
    · skip
      go_simp
      all_goals with_reducible rfl
    conv =>
      arg 8
      simp [go_sem]
    refine wpAnyH_take (i := 3) (v := ?_) rfl (by kernel_rfl) (by kernel_rfl) (by kernel_rfl) (fun _ _ _ h => h) (yieldsIf_val (by rfl) (fun w' hS => ?_)) HS0 ?_
    rotate_left
    · skip
      go_simp
      all_goals with_reducible rfl
    conv =>
      arg 8
      simp [go_sem]
    refine wpAnyH_take (i := 4) (v := ?_) rfl (by kernel_rfl) (by kernel_rfl) (by kernel_rfl) (fun _ _ _ h => h) (yieldsIf_val (by rfl) (fun w' hS => ?_)) HS0 ?_
    rotate_left
    · skip
      go_simp
      all_goals with_reducible rfl
    conv =>
      arg 8
      simp [go_sem]
    refine wpAnyH_take (i := 5) (v := ?_) rfl (by kernel_rfl) (by kernel_rfl) (by kernel_rfl) (fun _ _ _ h => h) (yieldsIf_val (by rfl) (fun w' hS => ?_)) HS0 ?_
    rotate_left
    · skip
      go_simp
      all_goals with_reducible rfl
    conv =>
      arg 8
      simp [go_sem]
    conv =>
      arg 8
      simp [go_sem]
    refine wpAnyH_ready (rs := [6]) (by kernel_rfl) (by simp) (AllReadyH.cons rfl (fun K' hK' => oper_append_room (by rfl) (.tmp 22) (.tmp 25) 25 25 rfl sl_ixs sl_ixs.ht rfl HO.out rfl SRC.out (by omega) ?_) AllReadyH.nil)
    intro w7 hown7 hgr7
    have HG7 := Box.mk (And.intro hown7 hgr7)
    clear hown7 hgr7
    have HT1 := trivial
    refine hK'.out _ _ HT1 (fun _ => ?_)
    clear hK' K'
    conv =>
      arg 8
      simp [go_sem]
    refine wpAnyH_take (i := 7) (v := ?_) rfl (by kernel_rfl) (by kernel_rfl) (by kernel_rfl) (fun _ _ _ h => h) (yieldsIf_val (by rfl) (fun w' hS => ?_)) HT1 ?_
    rotate_left
    · skip
      go_simp
      all_goals with_reducible rfl
    conv =>
      arg 8
      simp [go_sem]
    refine ⟨by kernel_rfl, ?_⟩
    conv =>
      arg 5
      simp [go_sem]
    go_wp2_with (with_reducible refine wpList_clear_tail rfl (.tmp 31) 25 rfl rfl sl_ixs ixz_one HG7.out.1 rfl rfl (by omega) (by omega) ?_; intro w8 hown8 hgr8; have HG8 := Box.mk (And.intro hown8 hgr8); clear hown8 hgr8)
    go_ret
    exact del_end HG7.out.2 HG8.out.1 HG8.out.2 (by omega)
  · have hA := HA.out
    rw [if_neg hck] at hA
    simp only [Option.map_some, Addr.add_lit, Nat.zero_add] at hA
    subst hA
    clear HA
    have q0 : k ≤ cap := by omega
    have q1 : (0 : Int) ≤ (k : Int) + 1 := by omega
    have q2 : (k : Int) + 1 ≤ (n : Int) := by omega
    refine wp_region_held_drew (S := fun _ => True) (by kernel_rfl) HS0 (fun _ => ?_)
    refine wpAnyH_take (i := 0) (v := ?_) rfl (by kernel_rfl) (by kernel_rfl) (by kernel_rfl) (fun _ _ _ h => h) (yieldsIf_val (by rfl) (fun w' hS => ?_)) HS0 ?_
    rotate_left
    · skip
      go_simp
      all_goals with_reducible rfl
    conv =>
      arg 8
      simp [go_sem]
    refine wpAnyH_take (i := 1) (v := ?_) rfl (by kernel_rfl) (by kernel_rfl) (by kernel_rfl) (fun _ _ _ h => h) (yieldsIf_val (by rfl) (fun w' hS => ?_)) HS0 ?_
    rotate_left
    · skip
      go_simp
      all_goals with_reducible rfl
    conv =>
      arg 8
      simp [go_sem]
    refine wpAnyH_take (i := 2) (v := ?_) rfl (by kernel_rfl) (by kernel_rfl) (by kernel_rfl) (fun _ _ _ h => h) (yieldsIf_val (by rfl) (fun w' hS => ?_)) HS0 ?_
    rotate_left
    · skip
      go_simp
      all_goals with_reducible rfl
    conv =>
      arg 8
      simp [go_sem]
    refine wpAnyH_take (i := 3) (v := ?_) rfl (by kernel_rfl) (by kernel_rfl) (by kernel_rfl) (fun _ _ _ h => h) (yieldsIf_val (by rfl) (fun w' hS => ?_)) HS0 ?_
    rotate_left
    · skip
      go_simp
      all_goals with_reducible rfl
    conv =>
      arg 8
      simp [go_sem]
    refine wpAnyH_take (i := 4) (v := ?_) rfl (by kernel_rfl) (by kernel_rfl) (by kernel_rfl) (fun _ _ _ h => h) (yieldsIf_val (by rfl) (fun w' hS => ?_)) HS0 ?_
    rotate_left
    · skip
      go_simp
      all_goals with_reducible rfl
    conv =>
      arg 8
      simp [go_sem]
    refine wpAnyH_take (i := 5) (v := ?_) rfl (by kernel_rfl) (by kernel_rfl) (by kernel_rfl) (fun _ _ _ h => h) (yieldsIf_val (by rfl) (fun w' hS => ?_)) HS0 ?_
    rotate_left
    · skip
      go_simp
      all_goals with_reducible rfl
    conv =>
      arg 8
      simp [go_sem]
    conv =>
      arg 8
      simp [go_sem]
    refine wpAnyH_ready (rs := [6]) (by kernel_rfl) (by simp) (AllReadyH.cons rfl (fun K' hK' => oper_append_room (by rfl) (.tmp 22) (.tmp 25) 25 25 rfl sl_ixs sl_ixs.ht rfl HO.out rfl SRC.out (by omega) ?_) AllReadyH.nil)
    intro w7 hown7 hgr7
    have HG7 := Box.mk (And.intro hown7 hgr7)
    clear hown7 hgr7
    have HT1 := trivial
    refine hK'.out _ _ HT1 (fun _ => ?_)
    clear hK' K'
    conv =>
      arg 8
      simp [go_sem]
    refine wpAnyH_take (i := 7) (v := ?_) rfl (by kernel_rfl) (by kernel_rfl) (by kernel_rfl) (fun _ _ _ h => h) (yieldsIf_val (by rfl) (fun w' hS => ?_)) HT1 ?_
    rotate_left
    · skip
      go_simp
      all_goals with_reducible rfl
    conv =>
      arg 8
      simp [go_sem]
    refine ⟨by kernel_rfl, ?_⟩
    conv =>
      arg 5
      simp [go_sem]
    go_wp2_with (with_reducible refine wpList_clear_tail rfl (.tmp 31) 25 rfl rfl sl_ixs ixz_one HG7.out.1 rfl rfl (by omega) (by omega) ?_; intro w8 hown8 hgr8; have HG8 := Box.mk (And.intro hown8 hgr8); clear hown8 hgr8)
    go_ret
    exact del_end HG7.out.2 HG8.out.1 HG8.out.2 (by omega)
end Go.Proofs.Ytgimkipekoabbaa
