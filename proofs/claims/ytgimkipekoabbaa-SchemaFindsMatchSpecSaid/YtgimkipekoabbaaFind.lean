/-
  The walks of Column, Index and of the reference's. No condition.
-/
import Derived.Test.YtgimkipekoabbaaWIdxI
namespace Go.Proofs.Ytgimkipekoabbaa
open Go.RowKit

/-- The first place with a property, or 0. -/
def placeP {α : Type} (p : α → Bool) (l : List α) : Int := if l.any p = true then (l.findIdx p : Int) else 0
theorem placeP_max {α : Type} (p : α → Bool) (l : List α) : max 0 (idxP p l) = placeP p l := by
  unfold idxP placeP
  cases h : l.any p
  · rfl
  · simp only [if_true]; omega
theorem placeP_hit {α : Type} [Inhabited α] {p : α → Bool} {l : List α} {k : Nat} (h : ∀ j, j < k → p (l.getD j default) = false) (hk : k < l.length) (hp : p (l.getD k default) = true) : placeP p l = k ∧ l.any p = true := by
  have h2 : l.any p = true := List.any_eq_true.2 ⟨_, getD_mem hk, hp⟩
  have := idxP_hit h hk hp
  unfold idxP at this
  rw [if_pos h2] at this
  exact ⟨by unfold placeP; rw [if_pos h2]; exact this, h2⟩
theorem placeP_miss {α : Type} [Inhabited α] {p : α → Bool} {l : List α} (h : ∀ j, j < l.length → p (l.getD j default) = false) : placeP p l = 0 ∧ l.any p = false := by
  have h2 : l.any p = false := by
    cases ha : l.any p
    · rfl
    · obtain ⟨x, hx, hp⟩ := List.any_eq_true.1 ha
      obtain ⟨i, hi, rfl⟩ := List.getElem_of_mem hx
      have := h i hi
      rw [getD_eq hi, hp] at this
      cases this
  exact ⟨by unfold placeP; rw [if_neg (by rw [h2]; decide)], h2⟩
def colIs (s : List UInt8) (c : Col) : Bool := c.name == s
def ixIs (s : List UInt8) (x : Ix) : Bool := x.name == s
def ixPIs (s : List UInt8) (x : IxP) : Bool := ixIs s x.x

/-- What Column and Index return. -/
def RetF (v : Int) (b : Bool) (w : World) (e : Ending) (w' : World) : Prop := e = .returned (.tuple #[.int .i64 v, .bool b]) ∧ Below w.heap.size w w'

set_option maxRecDepth 20000 in
theorem colp_any (s : List UInt8) (b : Nat) (w : World) (hb : w.cell? ⟨b, 0, none⟩ = some (.string ⟨s.toArray⟩)) : PredB 62 #[.pointer (some ⟨b, 0, none⟩)] Col.v (colIs s) w := by
  intro W x hW
  have hlt := cell_block_lt hb
  have c0 := (hW.cell (p := ⟨b, 0, none⟩) hlt).trans hb
  obtain ⟨n1, k1, u1⟩ := x
  have e0 := Lib.cell?_alloc_some (.cells #[.string ⟨n1.toArray⟩, .int .i64 k1, .bool u1] 50) c0
  unfold Col.v colIs
  generalize hd : (n1 == s) = d
  show Calls Try.prog 62 #[.agg #[.string ⟨n1.toArray⟩, .int .i64 k1, .bool u1], .pointer (some ⟨b, 0, none⟩)] W _
  go_enter Try.func62, Try.ntmps62
  go_wp2_with fail
  go_ret
  exact ⟨by rw [← hd]; rfl, (Below.refl _ _).alloc (Nat.le_refl _) _⟩
set_option maxRecDepth 20000 in
theorem ixp_any (s : List UInt8) (b : Nat) (w : World) (hb : w.cell? ⟨b, 0, none⟩ = some (.string ⟨s.toArray⟩)) : PredB 64 #[.pointer (some ⟨b, 0, none⟩)] IxP.v (ixPIs s) w := by
  intro W x hW
  have hlt := cell_block_lt hb
  have c0 := (hW.cell (p := ⟨b, 0, none⟩) hlt).trans hb
  obtain ⟨⟨n1, k1, u1⟩, a1, p1⟩ := x
  have e0 := Lib.cell?_alloc_some (.cells #[.string ⟨n1.toArray⟩, .slice a1 k1.length p1, .bool u1] 55) c0
  unfold IxP.v ixPIs ixIs
  generalize hd : (n1 == s) = d
  show Calls Try.prog 64 #[.agg #[.string ⟨n1.toArray⟩, .slice a1 k1.length p1, .bool u1], .pointer (some ⟨b, 0, none⟩)] W _
  generalize k1.length = kl at *
  go_enter Try.func64, Try.ntmps64
  go_wp2_with fail
  go_ret
  exact ⟨by rw [← hd]; rfl, (Below.refl _ _).alloc (Nat.le_refl _) _⟩

set_option maxRecDepth 20000 in
set_option maxHeartbeats 2000000 in
theorem column_any (X : TabP) (s : List UInt8) (w : World) (hr : TabRd w X) : Calls Try.prog 25 #[X.v, .string ⟨s.toArray⟩] w (RetF (placeP (colIs s) X.cols) (X.cols.any (colIs s)) w) := by
  have hmf : ∀ (fn : Fn) (first cap : Array Value) (w : World), (Instr.makeFunc fn first cap).run Try.prog w = .ok (.func fn first cap) w := fun _ _ _ _ => rfl
  have eg : ∀ args w, (callFunc 62 args).run Try.prog w = .ok (.enter 62 args) w := enters_fn Try.func62 (by kernel_rfl) (by kernel_rfl)
  have T1 := Box.mk ((TabIn.start hr).alloc (.cells #[.string ⟨s.toArray⟩] 9))
  have cn : ((w.alloc (.cells X.cs.toArray 28)).alloc (.cells #[.string ⟨s.toArray⟩] 9)).cell? ⟨w.heap.size + 1, 0, none⟩ = some (.string ⟨s.toArray⟩) := (Blk.new (cs := [.string ⟨s.toArray⟩]) (by simp) rfl).cellOf (i := 0) rfl
  have CN := Box.mk cn
  clear cn
  have hm := placeP_max (colIs s) X.cols
  have hn := idxP_nonneg (colIs s) X.cols
  rw [← hm, ← hn]
  clear hm hn hr
  generalize hi : idxP (colIs s) X.cols = i
  have HI := Box.mk hi
  clear hi
  unfold TabP.cs at T1 CN
  unfold TabP.v
  have u1 := T1.out.c1
  by_cases h0 : 0 ≤ i
  · rw [show max 0 i = i from by omega]
    go_enter Try.func25, Try.ntmps25
    go_wp2_with fail
    refine (cidx_any (colIs s) _ _ eg X.cols _ _ _ _ T1.out.rd.cols (colp_any s _ _ CN.out)).mono ?_
    rintro e w2 ⟨he, hb⟩
    rw [HI.out] at he
    subst he
    have T2 := Box.mk (T1.out.step hb)
    clear hb u1 T1 CN
    go_wp2_with fail
    all_goals first
      | (go_ret2; exact ⟨rfl, T2.out.below⟩)
      | (obtain rfl : i = 0 := by omega
         go_ret2; exact ⟨rfl, T2.out.below⟩)
      | (exfalso; omega)
  · rw [show max 0 i = 0 from by omega]
    go_enter Try.func25, Try.ntmps25
    go_wp2_with fail
    refine (cidx_any (colIs s) _ _ eg X.cols _ _ _ _ T1.out.rd.cols (colp_any s _ _ CN.out)).mono ?_
    rintro e w2 ⟨he, hb⟩
    rw [HI.out] at he
    subst he
    have T2 := Box.mk (T1.out.step hb)
    clear hb u1 T1 CN
    go_wp2_with fail
    all_goals first
      | (go_ret2; exact ⟨rfl, T2.out.below⟩)
      | (obtain rfl : i = 0 := by omega
         go_ret2; exact ⟨rfl, T2.out.below⟩)
      | (exfalso; omega)
set_option maxRecDepth 20000 in
set_option maxHeartbeats 2000000 in
theorem index_any2 (X : TabP) (s : List UInt8) (w : World) (hr : TabRd w X) : Calls Try.prog 27 #[X.v, .string ⟨s.toArray⟩] w (RetF (placeP (ixPIs s) X.ixs) (X.ixs.any (ixPIs s)) w) := by
  have hmf : ∀ (fn : Fn) (first cap : Array Value) (w : World), (Instr.makeFunc fn first cap).run Try.prog w = .ok (.func fn first cap) w := fun _ _ _ _ => rfl
  have eg : ∀ args w, (callFunc 64 args).run Try.prog w = .ok (.enter 64 args) w := enters_fn Try.func64 (by kernel_rfl) (by kernel_rfl)
  have T1 := Box.mk ((TabIn.start hr).alloc (.cells #[.string ⟨s.toArray⟩] 9))
  have cn : ((w.alloc (.cells X.cs.toArray 28)).alloc (.cells #[.string ⟨s.toArray⟩] 9)).cell? ⟨w.heap.size + 1, 0, none⟩ = some (.string ⟨s.toArray⟩) := (Blk.new (cs := [.string ⟨s.toArray⟩]) (by simp) rfl).cellOf (i := 0) rfl
  have CN := Box.mk cn
  clear cn
  have hm := placeP_max (ixPIs s) X.ixs
  have hn := idxP_nonneg (ixPIs s) X.ixs
  rw [← hm, ← hn]
  clear hm hn hr
  generalize hi : idxP (ixPIs s) X.ixs = i
  have HI := Box.mk hi
  clear hi
  unfold TabP.cs at T1 CN
  unfold TabP.v
  have u1 := T1.out.c2
  by_cases h0 : 0 ≤ i
  · rw [show max 0 i = i from by omega]
    go_enter Try.func27, Try.ntmps27
    go_wp2_with fail
    refine (iidx_any (ixPIs s) _ _ eg X.ixs _ _ _ _ T1.out.rd.ixs (ixp_any s _ _ CN.out)).mono ?_
    rintro e w2 ⟨he, hb⟩
    rw [HI.out] at he
    subst he
    have T2 := Box.mk (T1.out.step hb)
    clear hb u1 T1 CN
    go_wp2_with fail
    all_goals first
      | (go_ret2; exact ⟨rfl, T2.out.below⟩)
      | (obtain rfl : i = 0 := by omega
         go_ret2; exact ⟨rfl, T2.out.below⟩)
      | (exfalso; omega)
  · rw [show max 0 i = 0 from by omega]
    go_enter Try.func27, Try.ntmps27
    go_wp2_with fail
    refine (iidx_any (ixPIs s) _ _ eg X.ixs _ _ _ _ T1.out.rd.ixs (ixp_any s _ _ CN.out)).mono ?_
    rintro e w2 ⟨he, hb⟩
    rw [HI.out] at he
    subst he
    have T2 := Box.mk (T1.out.step hb)
    clear hb u1 T1 CN
    go_wp2_with fail
    all_goals first
      | (go_ret2; exact ⟨rfl, T2.out.below⟩)
      | (obtain rfl : i = 0 := by omega
         go_ret2; exact ⟨rfl, T2.out.below⟩)
      | (exfalso; omega)

set_option maxRecDepth 20000 in
set_option maxHeartbeats 4000000 in
theorem rcolumn_any (X : TabP) (s : List UInt8) (w : World) (hr : TabRd w X) : Calls Try.prog 26 #[X.v, .string ⟨s.toArray⟩] w (RetF (placeP (colIs s) X.cols) (X.cols.any (colIs s)) w) := by
  generalize hE : placeP (colIs s) X.cols = E
  generalize hF : X.cols.any (colIs s) = F
  have HE := Box.mk (And.intro hE hF)
  clear hE hF
  have T1 := Box.mk (TabIn.start hr)
  have mc := hr.cols.lenMax
  clear hr
  unfold TabP.cs at T1
  unfold TabP.v
  have u1 := T1.out.c1
  go_enter Try.func26, Try.ntmps26
  go_wp2_with fail
  generalize (w.alloc (.cells #[.string ⟨X.name.toArray⟩, .slice X.ca X.cols.length X.cc, .slice X.ia X.ixs.length X.ic, .slice X.ha X.chks.length X.hc] 28)) = W at *
  generalize hg : w.heap.size = g at *
  have HG := Box.mk hg
  clear hg
  go_loopw [6] (fun i wr => ∃ k : Nat, k ≤ X.cols.length ∧ i = .int .i64 k ∧ Box (∀ j, j < k → colIs s (X.cols.getD j default) = false) ∧ wr = W) (fun i _ => X.cols.length - (intOf i).toNat)
  case atStart => exact ⟨0, Nat.zero_le _, rfl, ⟨fun j h => by omega⟩, rfl⟩
  case round =>
    obtain ⟨k, hk, rfl, HZ, rfl⟩ := hrel
    by_cases hlt : k < X.cols.length
    · obtain ⟨b, off, hca, hgb, hc⟩ := T1.out.rd.cols.recAt Col.enc_len (by omega) k hlt
      rw [hca] at u1
      have c0 := hc 0 _ rfl
      simp only [Nat.add_zero] at c0
      clear hc hca hgb
      have HHIT := Box.mk (fun (h : colIs s (X.cols.getD k default) = true) => show E = k ∧ F = true from by
        have := placeP_hit HZ.out hlt h; rw [HE.out.1, HE.out.2] at this; exact this)
      have HST := Box.mk (fun (h : colIs s (X.cols.getD k default) = false) => show ∀ j, j < k + 1 → colIs s (X.cols.getD j default) = false from fun j hj => by
        by_cases e : j = k
        · subst e; exact h
        · exact HZ.out j (by omega))
      unfold colIs at HHIT HST
      generalize (X.cols.getD k default).name = yn at *
      cases hd : (yn == s) with
      | true =>
        obtain ⟨h1, h2⟩ := HHIT.out hd
        subst h1 h2
        have hdd : decide (yn = s) = true := by rw [← name_beq]; exact hd
        have hyn : yn = s := by simpa using hd
        clear HHIT HST hd
        go_wp2_with fail
        all_goals first
          | (go_ret2; exact ⟨rfl, HG.out ▸ T1.out.below⟩)
          | (exfalso; simp_all)
      | false =>
        have HS2 := Box.mk (HST.out hd)
        have hyn : ¬ yn = s := by intro e; rw [e] at hd; simp at hd
        clear HHIT HST hd
        go_wp2_with fail
        all_goals first
          | (exact ⟨⟨k + 1, by omega, by go_num, HS2, trivial⟩, by simp [intOf]; omega⟩)
          | (exfalso; simp_all)
    · obtain ⟨h1, h2⟩ := placeP_miss (p := colIs s) (l := X.cols) (fun j hj => HZ.out j (by omega))
      rw [HE.out.1] at h1
      rw [HE.out.2] at h2
      subst h1 h2
      go_wp2_with fail
      go_ret2
      exact ⟨rfl, HG.out ▸ T1.out.below⟩
set_option maxRecDepth 20000 in
set_option maxHeartbeats 4000000 in
theorem rindex_any (X : TabP) (s : List UInt8) (w : World) (hr : TabRd w X) : Calls Try.prog 28 #[X.v, .string ⟨s.toArray⟩] w (RetF (placeP (ixPIs s) X.ixs) (X.ixs.any (ixPIs s)) w) := by
  generalize hE : placeP (ixPIs s) X.ixs = E
  generalize hF : X.ixs.any (ixPIs s) = F
  have HE := Box.mk (And.intro hE hF)
  clear hE hF
  have T1 := Box.mk (TabIn.start hr)
  have mc := hr.ixs.lenMax
  clear hr
  unfold TabP.cs at T1
  unfold TabP.v
  have u2 := T1.out.c2
  go_enter Try.func28, Try.ntmps28
  go_wp2_with fail
  generalize (w.alloc (.cells #[.string ⟨X.name.toArray⟩, .slice X.ca X.cols.length X.cc, .slice X.ia X.ixs.length X.ic, .slice X.ha X.chks.length X.hc] 28)) = W at *
  generalize hg : w.heap.size = g at *
  have HG := Box.mk hg
  clear hg
  go_loopw [6] (fun i wr => ∃ k : Nat, k ≤ X.ixs.length ∧ i = .int .i64 k ∧ Box (∀ j, j < k → ixPIs s (X.ixs.getD j default) = false) ∧ wr = W) (fun i _ => X.ixs.length - (intOf i).toNat)
  case atStart => exact ⟨0, Nat.zero_le _, rfl, ⟨fun j h => by omega⟩, rfl⟩
  case round =>
    obtain ⟨k, hk, rfl, HZ, rfl⟩ := hrel
    by_cases hlt : k < X.ixs.length
    · obtain ⟨b, off, hca, hgb, hc⟩ := T1.out.rd.ixs.recAt IxP.enc_len (by omega) k hlt
      rw [hca] at u2
      have c0 := hc 0 _ rfl
      simp only [Nat.add_zero] at c0
      clear hc hca hgb
      have HHIT := Box.mk (fun (h : ixPIs s (X.ixs.getD k default) = true) => show E = k ∧ F = true from by
        have := placeP_hit HZ.out hlt h; rw [HE.out.1, HE.out.2] at this; exact this)
      have HST := Box.mk (fun (h : ixPIs s (X.ixs.getD k default) = false) => show ∀ j, j < k + 1 → ixPIs s (X.ixs.getD j default) = false from fun j hj => by
        by_cases e : j = k
        · subst e; exact h
        · exact HZ.out j (by omega))
      unfold ixPIs ixIs at HHIT HST
      generalize (X.ixs.getD k default).x.name = yn at *
      cases hd : (yn == s) with
      | true =>
        obtain ⟨h1, h2⟩ := HHIT.out hd
        subst h1 h2
        have hdd : decide (yn = s) = true := by rw [← name_beq]; exact hd
        have hyn : yn = s := by simpa using hd
        clear HHIT HST hd
        go_wp2_with fail
        all_goals first
          | (go_ret2; exact ⟨rfl, HG.out ▸ T1.out.below⟩)
          | (exfalso; simp_all)
      | false =>
        have HS2 := Box.mk (HST.out hd)
        have hyn : ¬ yn = s := by intro e; rw [e] at hd; simp at hd
        clear HHIT HST hd
        go_wp2_with fail
        all_goals first
          | (exact ⟨⟨k + 1, by omega, by go_num, HS2, trivial⟩, by simp [intOf]; omega⟩)
          | (exfalso; simp_all)
    · obtain ⟨h1, h2⟩ := placeP_miss (p := ixPIs s) (l := X.ixs) (fun j hj => HZ.out j (by omega))
      rw [HE.out.1] at h1
      rw [HE.out.2] at h2
      subst h1 h2
      go_wp2_with fail
      go_ret2
      exact ⟨rfl, HG.out ▸ T1.out.below⟩
end Go.Proofs.Ytgimkipekoabbaa
