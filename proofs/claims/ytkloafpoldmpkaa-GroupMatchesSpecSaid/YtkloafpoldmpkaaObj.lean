/-
  The group's calls on objects that lie apart. No condition.
-/
import Derived.Test.YtkloafpoldmpkaaCut
import Derived.Test.YtkloafpoldmpkaaStar
namespace Go.Proofs.Ytkloafpoldmpkaa
open Go.RowKit

def GrpP (g : Nat) (S : GS) : HP := fun w F => ∃ m bs ta tc, Grp w g m bs ta tc S ∧ F = fpOf g m bs ta
theorem Grp.fplt {w : World} {g m : Nat} {bs : List Nat} {ta : Option Addr} {tc : Nat} {S : GS} (h : Grp w g m bs ta tc S) : ∀ x ∈ fpOf g m bs ta, x < w.heap.size := by
  intro x hx
  simp only [fpOf, List.mem_cons, List.mem_append, Option.mem_toList] at hx
  rcases hx with rfl | rfl | hx | hx
  · exact h.blk.lt
  · exact h.map.lt
  · obtain ⟨i, hi, rfl⟩ := List.getElem_of_mem hx
    obtain ⟨b, hb1, hb2⟩ := h.nodes i (by rw [← h.blen]; exact hi)
    rw [List.getElem?_eq_getElem hi, Option.some.injEq] at hb1
    rw [hb1]; exact hb2.lt
  · obtain ⟨ad, ha, rfl⟩ := Option.map_eq_some_iff.1 hx
    exact (h.tsep ad ha).2
theorem Grp.eq {w w' : World} {g m : Nat} {bs : List Nat} {ta : Option Addr} {tc : Nat} {S : GS} (h : Grp w g m bs ta tc S) (he : ∀ x ∈ fpOf g m bs ta, w'.heap[x]? = w.heap[x]?) : Grp w' g m bs ta tc S := by
  refine ⟨h.blk.eq (he g (by simp [fpOf])), fun i hi => ?_, h.blen, h.map.eq (he m (by simp [fpOf])), h.txs.eq (fun ad ha => he _ (by rw [ha]; simp [fpOf])), h.nodup, fun ad ha => ⟨(h.tsep ad ha).1, ?_⟩, h.ok⟩
  · obtain ⟨b, hb1, hb2⟩ := h.nodes i hi
    exact ⟨b, hb1, hb2.eq (he b (by simp [fpOf, List.mem_of_getElem? hb1]))⟩
  · have h1 := (h.tsep ad ha).2
    have h2 := he ad.block (by rw [ha]; simp [fpOf])
    rw [Array.getElem?_eq_getElem h1] at h2
    exact (Array.getElem?_eq_some_iff.1 h2).1
theorem GrpP.stb (g : Nat) (S : GS) : Stb (GrpP g S) :=
  ⟨fun w F ⟨m, bs, ta, tc, h, hF⟩ => by subst hF; exact h.fplt, fun w w' F ⟨m, bs, ta, tc, h, hF⟩ he => by subst hF; exact ⟨m, bs, ta, tc, h.eq he, rfl⟩⟩

section
variable {B : Nat} {w : World} {l : List HP} (O : Own B w l) (i : Nat) {g : Nat} {S : GS} (hi : l[i]? = some (GrpP g S))
include O

def RetNewO (S : GS) (B : Nat) (l : List HP) (w : World) (e : Ending) (w' : World) : Prop := ∃ g, e = .returned (.pointer (some ⟨g, 0, none⟩)) ∧ Own B w' (l ++ [GrpP g S]) ∧ Below B w w'
theorem new_own (most room delay next : Int) (hr : right most room delay next = true) : Calls Try.prog 8 #[.int .i64 most, .int .i64 room, .int .i64 delay, .int .i64 next] w (RetNewO (GS.new most room delay next) B l w) := by
  refine (new_right most room delay next w hr).mono ?_
  rintro e w' ⟨g, m, rfl, hG, h1, h2, hb⟩
  refine ⟨g, rfl, O.more hb (GrpP.stb _ _) ⟨m, [], none, 0, hG, rfl⟩ (fun x hx => ?_), (Below.mono hb O.base)⟩
  simp [fpOf] at hx
  rcases hx with rfl | rfl <;> omega

include hi
theorem Own.ok : S.OK := by
  obtain ⟨F, ⟨m, bs, ta, tc, h, _⟩, _⟩ := O.get i hi; exact h.ok

theorem own_retG {v : Value} {S' : GS} {f : FuncId} {args : Array Value} (h : ∀ m bs ta tc, Grp w g m bs ta tc S → Calls Try.prog f args w (RetG v g m bs ta S' w)) : Calls Try.prog f args w (RetW v B (l.set i (GrpP g S')) w) := by
  obtain ⟨F, ⟨m, bs, ta, tc, hG, hF⟩, hB, ht⟩ := O.turn i hi
  subst hF
  refine (h m bs ta tc hG).mono ?_
  rintro e w' ⟨bs', ta', tc', rfl, hG', hbut, hsub⟩
  exact ⟨rfl, ht _ w' _ (GrpP.stb _ _) hbut ⟨m, bs', ta', tc', hG', rfl⟩ hsub⟩

theorem ask_own (tx words tick : Int) (hx : In64 tx) : Calls Try.prog 10 #[.pointer (some ⟨g, 0, none⟩), .int .i64 tx, .int .i64 words, .int .i64 tick] w (RetW (.int .i64 (S.ask tx words tick).2) B (l.set i (GrpP g (S.ask tx words tick).1)) w) :=
  own_retG O i hi (fun _ _ _ _ hG => ask_any hG tx words tick hx)
theorem drop_own (tx : Int) (hx : In64 tx) : Calls Try.prog 22 #[.pointer (some ⟨g, 0, none⟩), .int .i64 tx] w (RetW (.bool (decide (tx ∈ S.q.map Nd.tx))) B (l.set i (GrpP g (S.drop tx))) w) :=
  own_retG O i hi (fun _ _ _ _ hG => drop_any hG tx hx)
theorem due_own (tick : Int) : Calls Try.prog 13 #[.pointer (some ⟨g, 0, none⟩), .int .i64 tick] w (RetQ (.bool (S.due tick)) w) := by
  obtain ⟨F, ⟨m, bs, ta, tc, hG, hF⟩, _⟩ := O.get i hi
  exact due_any hG tick
theorem next_own : Calls Try.prog 28 #[.pointer (some ⟨g, 0, none⟩)] w fun e w' => e = .returned (.int .i64 S.stamp) ∧ w' = w := by
  obtain ⟨F, ⟨m, bs, ta, tc, hG, hF⟩, _⟩ := O.get i hi
  exact next_any hG

def RetWait (xs : List Int) (B : Nat) (l : List HP) (w : World) (e : Ending) (w' : World) : Prop :=
  ∃ a cap, e = .returned (.slice a xs.length cap) ∧ Own B w' (l ++ [RowP 3 1 a xs.length cap (intVals xs)]) ∧ Below B w w'
theorem waiting_own : Calls Try.prog 16 #[.pointer (some ⟨g, 0, none⟩)] w (RetWait (S.q.map Nd.tx) B l w) := by
  obtain ⟨F, ⟨m, bs, ta, tc, hG, hF⟩, _⟩ := O.get i hi
  refine (waiting_any hG).mono ?_
  rintro e w' ⟨a, cap, rfl, hown, hb⟩
  exact ⟨a, cap, rfl, O.newRow hb hown (Nat.le_refl _), hb.mono O.base⟩

def RetOpenO (S : GS) (B : Nat) (l : List HP) (w : World) (e : Ending) (w' : World) : Prop :=
  ∃ a cap, e = .returned (.tuple #[.agg #[.int .i64 S.first, .slice a S.txs.length cap], .bool S.opn]) ∧ Own B w' (l ++ [RdP 1 a S.txs.length cap (intVals S.txs)]) ∧ Below B w w'
theorem open_own : Calls Try.prog 25 #[.pointer (some ⟨g, 0, none⟩)] w (RetOpenO S B l w) := by
  obtain ⟨F, ⟨m, bs, ta, tc, hG, hF⟩, _⟩ := O.get i hi
  refine (open_any hG).mono ?_
  rintro e w' ⟨a, cap, rfl, hrd, hge, hb⟩
  exact ⟨a, cap, rfl, O.newRd hb hrd hge, hb.mono O.base⟩

def RetCutO (S : GS) (tick : Int) (B : Nat) (l : List HP) (i g : Nat) (w : World) (e : Ending) (w' : World) : Prop :=
  ∃ a cap, e = .returned (.tuple #[.agg #[.int .i64 (S.cutFirst tick), .slice a (S.cutTxs tick).length cap], .bool (S.due tick)]) ∧ Own B w' (l.set i (GrpP g (S.tryCut tick)) ++ [RdP 1 a (S.cutTxs tick).length cap (intVals (S.cutTxs tick))]) ∧ Below B w w'
theorem cut_own (tick : Int) : Calls Try.prog 11 #[.pointer (some ⟨g, 0, none⟩), .int .i64 tick] w (RetCutO S tick B l i g w) := by
  obtain ⟨F, ⟨m, bs, ta, tc, hG, hF⟩, hB, ht⟩ := O.turn i hi
  subst hF
  have hil : i < l.length := (List.getElem?_eq_some_iff.1 hi).1
  refine (cut_any hG tick).mono ?_
  rintro e w' ⟨bs', ta', tc', a, cap, rfl, hrd, hge, hG', hbut, hsub⟩
  have hR : ∃ G, RdP 1 a (S.cutTxs tick).length cap (intVals (S.cutTxs tick)) w' G ∧ (∀ x ∈ G, w.heap.size ≤ x ∧ x ∉ fpOf g m bs' ta') := by
    cases a with
    | none => exact ⟨[], ⟨hrd, by simp, fun _ h => by cases h⟩, by simp⟩
    | some ad =>
      cases hx : intVals (S.cutTxs tick) with
      | nil => rw [hx] at hrd; exact ⟨[], ⟨hrd, by simp, fun _ _ h => absurd rfl h⟩, by simp⟩
      | cons y ys =>
        rw [hx] at hrd
        have hc := hrd.hcell ad rfl 0 y rfl
        have hl := cell_block_lt hc
        rw [add_block] at hl
        exact ⟨[ad.block], ⟨hrd, by simp [hl], fun ad' h _ => by cases h; simp⟩, by simp; exact hge ad rfl⟩
  obtain ⟨G, hR, hGn⟩ := hR
  have hT := ht (Both (GrpP g (S.tryCut tick)) (RdP 1 a (S.cutTxs tick).length cap (intVals (S.cutTxs tick)))) w' (fpOf g m bs' ta' ++ G) (Both.stb (GrpP.stb _ _) (RdP.stb _ _ _ _ _)) hbut ⟨_, _, ⟨m, bs', ta', tc', hG', rfl⟩, hR, fun x hx hm => (hGn x hm).2 hx, rfl⟩ (fun x hx => by
    rcases List.mem_append.1 hx with h | h
    · exact hsub x h
    · exact .inr (hGn x h).1)
  have := hT.1.part i (List.getElem?_set_self hil) (GrpP.stb _ _) (RdP.stb _ _ _ _ _)
  rw [List.set_set] at this
  exact ⟨a, cap, rfl, this, hT.2⟩

def RetDoneO (S : GS) (B : Nat) (l : List HP) (i g : Nat) (w : World) (e : Ending) (w' : World) : Prop :=
  ∃ a cap, e = .returned (.slice a S.txs.length cap) ∧ Own B w' (l.set i (GrpP g S.done) ++ [RowP 65 2 a S.txs.length cap (repVals S.first S.txs S.txs.length)]) ∧ Below B w w'
theorem done_own : Calls Try.prog 12 #[.pointer (some ⟨g, 0, none⟩)] w (RetDoneO S B l i g w) := by
  obtain ⟨F, ⟨m, bs, ta, tc, hG, hF⟩, hB, ht⟩ := O.turn i hi
  subst hF
  have hil : i < l.length := (List.getElem?_eq_some_iff.1 hi).1
  refine (done_any hG).mono ?_
  rintro e w' ⟨a, cap, rfl, hown, hG', hbut⟩
  have hfp : ∀ x ∈ fpOf g m bs none, x ∈ fpOf g m bs ta := fun x hx => by
    simp only [fpOf, List.mem_cons, List.mem_append, Option.map_none, Option.toList_none, List.not_mem_nil, or_false] at hx ⊢
    rcases hx with h | h | h
    · exact .inl h
    · exact .inr (.inl h)
    · exact .inr (.inr (.inl h))
  have hlt := hG.fplt
  have hT := ht (Both (GrpP g S.done) (RowP 65 2 a S.txs.length cap (repVals S.first S.txs S.txs.length))) w' (fpOf g m bs none ++ (Value.slice a S.txs.length cap).ownBlock.toList) (Both.stb (GrpP.stb _ _) (RowP.stb _ _ _ _ _ _)) hbut
    ⟨_, _, ⟨m, bs, none, 0, hG', rfl⟩, ⟨own_base hown (Nat.zero_le _), rfl⟩, fun x hx hm => by have h1 := hlt x (hfp x hx); have h2 := (hown.lt x (by simpa using hm)).1; omega, rfl⟩ (fun x hx => by
    rcases List.mem_append.1 hx with h | h
    · exact .inl (hfp x h)
    · exact .inr (hown.lt x (by simpa using h)).1)
  have := hT.1.part i (List.getElem?_set_self hil) (GrpP.stb _ _) (RowP.stb _ _ _ _ _ _)
  rw [List.set_set] at this
  exact ⟨a, cap, rfl, this, hT.2⟩
end
end Go.Proofs.Ytkloafpoldmpkaa
