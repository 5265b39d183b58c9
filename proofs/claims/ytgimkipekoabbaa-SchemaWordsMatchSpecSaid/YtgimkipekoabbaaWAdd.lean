/-
  The walk of writer.add. No condition.
-/
import Derived.Test.YtgimkipekoabbaaWCompare
namespace Go.Proofs.Ytgimkipekoabbaa
open Go.RowKit

/-- A writer that holds the words L, in block g. -/
def WrP (g : Nat) (L : List Int) : HP := fun w F => ∃ a n cap, Blk w g 77 [.slice a n cap] ∧ w.ownsRow 0 3 1 (.slice a n cap) n (intVals L) ∧ (∀ k, (Value.slice a n cap).ownBlock = some k → k ≠ g) ∧ F = g :: (Value.slice a n cap).ownBlock.toList
theorem WrP.stb (g : Nat) (L : List Int) : Stb (WrP g L) := by
  refine ⟨fun w F ⟨a, n, cap, hb, hr, hn, hF⟩ x hx => ?_, fun w w' F ⟨a, n, cap, hb, hr, hn, hF⟩ he => ⟨a, n, cap, hb.eq (he g (by simp [hF])), own_eq hr (fun k hk => he k (by simp [hF, hk])), hn, hF⟩⟩
  subst hF
  rcases List.mem_cons.1 hx with rfl | hx
  · exact hb.lt
  · exact (hr.lt x (by simpa using hx)).2

/-- What a call on a writer leaves. -/
def RetWr (v : Value) (g : Nat) (L : List Int) (F : List Nat) (w : World) (e : Ending) (w' : World) : Prop := e = .returned v ∧ (∃ F', WrP g L w' F' ∧ ∀ x ∈ F', x ∈ F ∨ w.heap.size ≤ x) ∧ But F w w'

set_option maxRecDepth 20000 in
set_option maxHeartbeats 2000000 in
theorem add_but (g : Nat) (L M : List Int) (F : List Nat) (a2 : Option Addr) (m c2 : Nat) (w : World) (h : WrP g L w F) (hr : Rd w a2 m c2 1 (intVals M)) (hs : L.length + M.length ≤ 1000000) :
    Calls Try.prog 53 #[.pointer (some ⟨g, 0, none⟩), .slice a2 m c2] w (RetWr (.tuple #[]) g (L ++ M) F w) := by
  obtain ⟨a, n, cap, hb, hown, hne, hF⟩ := h
  have hm := hr.ilen
  have hn : L.length = n := by have := hown.1; rw [intVals_length] at this; omega
  have c0 := hb.cellOf (i := 0) rfl
  have HB := Box.mk hb
  have HO := Box.mk hown
  have HNE := Box.mk hne
  have HF := Box.mk hF
  have HS := Box.mk (Src.ofRd (P := Try.prog) hr (intVals_one M))
  have HFRE := Box.mk (hb.free 0)
  clear hb hown hne hF hr
  go_enter Try.func53, Try.ntmps53
  go_wp2_with ((with_reducible show wpList _ _ _ _ _ _); refine wpList_append_src (o := ⟨some 10, _, _, _, _, _⟩) rfl (.tmp 8) (.tmp 9) 32 32 rfl sl_int (.inl sl_int.ht) rfl HO.out rfl HS.out (by omega) (by unfold maxLen; omega) (by omega) ?_; intro a3 c3 w3 hown3 hgr3 hnew3; have HB3 := Box.mk (HB.out.eq (hgr3.block g HB.out.lt (fun e => HNE.out g e.symm rfl))); have d0 := HB3.out.cellOf (i := 0) rfl; have f0 := HB3.out.free 0; have HO3 := Box.mk hown3; have HG3 := Box.mk hgr3; have HW3 := Box.mk hnew3; clear hown3 hgr3 hnew3 c0 HFRE)
  go_end0
  have hne3 : ∀ k, (Value.slice a3 (n + m) c3).ownBlock = some k → k ≠ g := fun k hk => by
    cases a3 with
    | none => simp [Value.ownBlock] at hk
    | some ad =>
      simp [Value.ownBlock] at hk
      subst hk
      rcases HW3.out ad rfl with h | h
      · exact HNE.out ad.block (by rw [h]; simp [Value.ownBlock])
      · have := HB.out.lt; omega
  refine ⟨rfl, ⟨g :: (Value.slice a3 (n + m) c3).ownBlock.toList, ⟨a3, n + m, c3, HB3.out.set 0 _, ?_, hne3, rfl⟩, ?_⟩, ?_⟩
  · rw [show intVals (L ++ M) = intVals L ++ intVals M from by simp [intVals]]
    exact own_eq HO3.out (fun k hk => Below.heap_setCell _ _ _ _ (hne3 k hk))
  · intro x hx
    rw [HF.out]
    rcases List.mem_cons.1 hx with rfl | hx
    · exact .inl (by simp)
    · cases a3 with
      | none => simp [Value.ownBlock] at hx
      | some ad =>
        simp [Value.ownBlock] at hx
        subst hx
        rcases HW3.out ad rfl with h | h
        · left; rw [h]; simp [Value.ownBlock]
        · exact .inr h
  · refine ((But.refl F w).grown HG3.out (fun k hk => .inl ?_)).setCell (.inl ?_) _
    · rw [HF.out]; simp [hk]
    · rw [HF.out]; simp
end Go.Proofs.Ytgimkipekoabbaa
