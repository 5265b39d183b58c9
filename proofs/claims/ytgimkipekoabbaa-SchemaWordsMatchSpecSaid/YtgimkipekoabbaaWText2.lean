/-
  The walk of writer.text. No condition.
-/
import Derived.Test.YtgimkipekoabbaaWText
import Derived.Test.YtgimkipekoabbaaIdx
namespace Go.Proofs.Ytgimkipekoabbaa
open Go.RowKit Go.Shelf
attribute [local go_sem] Oper.semAt_some

theorem isCells_blk {w : World} {g : Nat} {ty : TypeId} {cs : List Value} (h : Blk w g ty cs) : ∃ o, w.heap[g]? = some o ∧ o.isCells = true := ⟨_, h, rfl⟩
theorem WrP.cells {g : Nat} {L : List Int} {w : World} {F : List Nat} (h : WrP g L w F) : ∀ x ∈ F, ∃ o, w.heap[x]? = some o ∧ o.isCells = true := by
  obtain ⟨a, n, cap, hb, hr, hn, hF⟩ := h
  subst hF
  intro x hx
  rcases List.mem_cons.1 hx with rfl | hx
  · exact ⟨_, hb, rfl⟩
  · obtain ⟨hl, hd⟩ := hr
    rcases hd with ⟨hv, _⟩ | ⟨g', c, cur, hv, hbg, hh, rest⟩
    · simp only [Value.slice.injEq] at hv
      obtain ⟨rfl, _⟩ := hv
      simp [Value.ownBlock] at hx
    · simp only [Value.slice.injEq] at hv
      obtain ⟨rfl, _⟩ := hv
      simp [Value.ownBlock] at hx
      subst hx
      exact ⟨_, hh, rfl⟩

/-- What a round of text keeps. -/
def TextI (g : Nat) (L : List Int) (F : List Nat) (s : List UInt8) (W0 : World) (pre : List Nat) (W : World) : Prop :=
  (∃ F', WrP g (L ++ pre.map (wordAt s)) W F' ∧ ∀ x ∈ F', x ∈ F ∨ W0.heap.size ≤ x) ∧ But F W0 W
theorem TextI.own (g : Nat) (L : List Int) (F : List Nat) (s : List UInt8) (W0 : World) : OwnFrom W0.heap.size (TextI g L F s W0) := by
  rintro pre W W' row ⟨⟨F', hW, hF⟩, hB⟩ hg hr
  refine ⟨⟨F', (WrP.stb g _).eq _ _ _ hW (fun k hk => hg.block k ((WrP.stb g _).lt _ _ hW k hk) (fun e => ?_)), hF⟩, hB.grown hg (fun k hk => .inr (hr k hk).1)⟩
  obtain ⟨_, o, ho, hc⟩ := hr k e.symm
  obtain ⟨o2, ho2, hc2⟩ := hW.cells k hk
  rw [ho] at ho2; cases ho2; rw [hc] at hc2; cases hc2
theorem KeepB.refl (b1 b2 : Nat) (W : World) : KeepB b1 b2 W W := ⟨rfl, rfl⟩
theorem KeepB.trans {b1 b2 : Nat} {A B C : World} (h : KeepB b1 b2 A B) (k : KeepB b1 b2 B C) : KeepB b1 b2 A C := ⟨k.1.trans h.1, k.2.trans h.2⟩
theorem KeepB.putObj {b1 b2 : Nat} (W : World) (l : Nat) (o' : Obj) (h1 : l ≠ b1) (h2 : l ≠ b2) : KeepB b1 b2 W (W.putObj l o') :=
  ⟨World.putObj_heap_other (fun e => h1 e.symm), World.putObj_heap_other (fun e => h2 e.symm)⟩
theorem chunk_stops (m b1 b2 gs n cap : Nat) (hn : n ≤ cap) (hbig : n ≤ 1000000) (w : World) (hl1 : b1 < w.heap.size) (hl2 : b2 < w.heap.size) (hb1 : w.cell? ⟨b1, 0, none⟩ = some (.slice (some ⟨gs, 0, none⟩) n cap)) (hb2 : w.cell? ⟨b2, 0, none⟩ = some (.int .i64 5)) :
    SeqStopsK Fence.wide m Try.prog 95 #[.pointer (some ⟨b1, 0, none⟩), .pointer (some ⟨b2, 0, none⟩)] (fun x : Nat => chunkV gs n x) (KeepB b1 b2) (fun xs => xs = List.range (nWords n)) (fun _ => True) (nWords n) w :=
  fun l J Jx W hW hJ _ hY h0 =>
    (chunks_in m l b1 b2 gs n cap hn hbig J Jx hY W ((hW.cell (p := ⟨b1, 0, none⟩) hl1).trans hb1) ((hW.cell (p := ⟨b2, 0, none⟩) hl2).trans hb2) h0
      (fun pre W1 q hj => hJ pre W1 (W1.drewN q) none hj ⟨rfl, rfl, rfl, Nat.le_refl _, fun _ _ _ => rfl⟩ (fun r e => by cases e)))

set_option maxRecDepth 20000 in
set_option maxHeartbeats 4000000 in
theorem text_but (g : Nat) (L : List Int) (F : List Nat) (s : List UInt8) (w : World) (h : WrP g L w F) (hs : s.length ≤ 100000) (hl : L.length + nWords s.length ≤ 1000000) :
    Calls Try.prog 54 #[.pointer (some ⟨g, 0, none⟩), .string ⟨s.toArray⟩] w (RetWr (.tuple #[]) g (L ++ textW s) F w) := by
  have hz : (⟨s.toArray⟩ : ByteArray).size = s.length := by simp [ByteArray.size]
  have HL := Box.mk hl
  clear hl
  refine (callsIn_wide (n := 3)).1 ?_
  refine callsIn_of_wp_marks Try.func54 rfl trivial ?_ rfl
  simp only [Try.ntmps54, List.size_toArray, List.length_cons, List.length_nil, Nat.reduceAdd, Nat.reduceSub, Array.replicate_succ, Array.replicate_zero, List.push_toArray, List.append_toArray, List.nil_append, List.cons_append]
  obtain ⟨w1, hw1⟩ : ∃ w1, w1 = w.alloc (.cells #[.pointer (some ⟨g, 0, none⟩)] 75) := ⟨_, rfl⟩
  have hcv := Lib.run_convert_string_bytes (P := Try.prog) w1 9 63 5 ⟨s.toArray⟩ (u := .string) (by kernel_rfl) (by kernel_rfl) (by kernel_rfl)
  have hbel := Box.mk (bytesWorld_below (w := w1) 5 ⟨s.toArray⟩)
  have HC := Box.mk (fun j (hj : j < s.length) => Lib.bytesWorld_cell w1 5 ⟨s.toArray⟩ j (by rw [hz]; exact hj))
  have HSZ := Box.mk (Lib.bytesWorld_size w1 5 ⟨s.toArray⟩)
  have hge := Box.mk (grownCap_ge w1 s.length 0 5)
  rw [hz] at hcv
  generalize Lib.bytesWorld w1 5 ⟨s.toArray⟩ = W1 at *
  generalize grownCap w1 s.length 0 5 = cap at *
  rw [hw1] at hcv
  gi_wp2
  refine ⟨trivial, ?_⟩
  refine (callsIn_wide.2 (chunk_any _ _ _ _)).mono ?_
  rintro e w' ⟨rfl, rfl⟩
  have hsz : W1.heap.size = w.heap.size + 2 := by rw [HSZ.out, hw1]; simp
  have hB1 : But F w W1 := (((But.refl F w).alloc _).below (hw1 ▸ hbel.out))
  have hbox : W1.cell? ⟨w.heap.size, 0, none⟩ = some (.pointer (some ⟨g, 0, none⟩)) := by
    rw [hbel.out.cell (p := ⟨w.heap.size, 0, none⟩) (by rw [hw1]; simp), hw1]; exact (Blk.new (w := w) rfl rfl).cellOf (i := 0) (cs := [.pointer (some ⟨g, 0, none⟩)]) rfl
  have hbytes : ∀ j, j < s.length → W1.cell? ⟨w.heap.size + 1, j, none⟩ = some (.int .u8 ((s.getD j 0).toNat : Nat)) := fun j hj => by
    have := HC.out j hj; rw [hw1] at this; simpa using this
  have hW1 : WrP g L W1 F := (WrP.stb g L).eq _ _ _ h (fun x hx => by
    have hx1 := (WrP.stb g L).lt _ _ h x hx
    rw [hbel.out.block x (by rw [hw1]; simp; omega), hw1]; exact Below.heap_alloc _ _ _ hx1)
  have hFlt := (WrP.stb g L).lt _ _ h
  obtain ⟨W0, hW0⟩ : ∃ W0, (W1.alloc (.cells #[.slice (some ⟨w.heap.size + 1, 0, none⟩) s.length cap] 63)).alloc (.cells #[.int .i64 5] 3) = W0 := ⟨_, rfl⟩
  rw [hW0]
  have hs0 : W0.heap.size = w.heap.size + 4 := by rw [← hW0]; simp; omega
  have hB10 : Below W1.heap.size W1 W0 := by rw [← hW0]; exact ((Below.refl _ _).alloc (Nat.le_refl _) _).alloc (by simp) _
  have hB0 := Box.mk (hB1.below hB10)
  have HBOX := Box.mk ((hB10.cell (p := ⟨w.heap.size, 0, none⟩) (by simp; omega)).trans hbox)
  have HBY : Box (∀ j, j < s.length → W0.cell? ⟨w.heap.size + 1, j, none⟩ = some (.int .u8 ((s.getD j 0).toNat : Nat))) := ⟨fun j hj => (hB10.cell (p := ⟨w.heap.size + 1, j, none⟩) (by simp; omega)).trans (hbytes j hj)⟩
  have hb1 : W0.cell? ⟨W1.heap.size, 0, none⟩ = some (.slice (some ⟨w.heap.size + 1, 0, none⟩) s.length cap) := by
    rw [← hW0]; exact ((Blk.new (w := W1) (cs := [.slice (some ⟨w.heap.size + 1, 0, none⟩) s.length cap]) rfl rfl).call0 ((Below.refl _ _).alloc (Nat.le_refl _) _)).cellOf (i := 0) rfl
  have hb2 : W0.cell? ⟨W1.heap.size + 1, 0, none⟩ = some (.int .i64 5) := by
    rw [← hW0]; simp
  have HI0 : Box (TextI g L F s W0 [] W0) := ⟨⟨F, (List.append_nil L).symm ▸ (WrP.stb g L).eq _ _ _ hW1 (fun x hx => hB10.block x (by have := hFlt x hx; omega)), fun x hx => .inl hx⟩, But.refl _ _⟩
  have HFL := Box.mk hFlt
  rw [hsz] at hb1 hb2
  clear hbox hbytes hW1 hFlt hB10 hB1 hcv HC HSZ hbel hW0 hw1 h
  gi_wp2
  refine wpIn_rangeFunc_ownG rfl (by omega) (gf := 95) (lb := #[.pointer (some ⟨w.heap.size + 2, 0, none⟩), .pointer (some ⟨w.heap.size + 2 + 1, 0, none⟩)]) rfl trivial (enters_fn Try.func95 (by kernel_rfl) (by kernel_rfl))
    (chunk_stops 2 (w.heap.size + 2) (w.heap.size + 2 + 1) (w.heap.size + 1) s.length cap hge.out (by omega) W0 (by omega) (by omega) hb1 hb2)
    (fun h k => h.trans k) (fun W l o o' hl ho hc hw => KeepB.putObj W l o' (by omega) (by omega)) (Below.refl _ _) (fun _ => rfl)
    (TextI g L F s W0) (fun _ _ _ => False) (TextI.own g L F s W0) (fun _ _ _ _ _ hs _ _ => hs) HI0.out
    (fun x => { tmps := #[.pointer (some ⟨g, 0, none⟩), .string ⟨s.toArray⟩, .pointer (some ⟨w.heap.size, 0, none⟩), undef, .slice (some ⟨w.heap.size + 1, 5 * x, none⟩) (min 5 (s.length - 5 * x)) (min 5 (s.length - 5 * x)), undef, undef, .string ⟨s.toArray⟩, .slice (some ⟨w.heap.size + 1, 0, none⟩) s.length cap, .func (.func 95) #[] #[.pointer (some ⟨w.heap.size + 2, 0, none⟩), .pointer (some ⟨w.heap.size + 2 + 1, 0, none⟩)], .slice (some ⟨w.heap.size + 1, 5 * x, none⟩) (min 5 (s.length - 5 * x)) (min 5 (s.length - 5 * x)), undef, undef, undef, undef, undef, undef, undef, undef, undef, undef, undef, undef, undef, undef, undef, undef, undef, undef, undef, undef, undef], defers := [] }) ?assign ?body ?done ?stop
  case assign =>
    intro l x W K hK
    unfold chunkV
    gi_wp2
    exact hK
  case body =>
    rintro l pre x W hI hN
    obtain ⟨q, hq⟩ : ∃ q, q = 5 * x := ⟨_, rfl⟩
    obtain ⟨c, hc⟩ : ∃ c, c = min 5 (s.length - 5 * x) := ⟨_, rfl⟩
    rw [← hc, ← hq]
    have hc5 : c ≤ 5 := by omega
    have HCQ : Box (c = min 5 (s.length - q) ∧ q = 5 * x) := ⟨by omega, hq⟩
    have HBYW : Box (∀ j, q + j < s.length → W.cell? ⟨w.heap.size + 1, q + j, none⟩ = some (.int .u8 ((s.getD (5 * x + j) 0).toNat : Nat))) := ⟨fun j hj => by
      rw [← hq, cell_eq (w := W0) (w' := W) (hI.2.block _ (by show w.heap.size + 1 < _; omega) (fun hm => by have h1 := HFL.out _ hm; simp at h1; omega))]; exact HBY.out _ hj⟩
    have hboxW : W.cell? ⟨w.heap.size, 0, none⟩ = some (.pointer (some ⟨g, 0, none⟩)) := by
      rw [cell_eq (w := W0) (w' := W) (hI.2.block _ (by show w.heap.size < _; omega) (fun hm => by have h1 := HFL.out _ hm; simp at h1))]; exact HBOX.out
    have HIW := Box.mk hI
    clear hI hc hq hb1 hb2 hsz HI0
    gi_wp2
    gi_loopw [5, 11] (fun v i wr => ∃ k : Nat, k ≤ 5 ∧ i = .int .i64 k ∧ v = .int .i64 (wordTo s x k : Nat) ∧ wr = W) (fun _ i _ => 5 - (intOf i).toNat)
    case atStart => exact ⟨0, by omega, rfl, rfl, rfl⟩
    case round =>
      obtain ⟨k, hk, rfl, rfl, rfl⟩ := hrel
      by_cases hk5 : k < 5
      · have hwlt := wordTo_lt5 s x k hk5
        by_cases hkc : k < c
        · have hby := HBYW.out k (by have := HCQ.out.1; omega)
          have hst : Box (wordTo s x (k + 1) = wordTo s x k * 256 + (s.getD (5 * x + k) 0).toNat) := ⟨rfl⟩
          have hy := (s.getD (5 * x + k) 0).toNat_lt
          generalize (s.getD (5 * x + k) 0).toNat = y at *
          generalize hv : wordTo s x k = v at *
          clear hv
          gi_wp2
          refine ⟨⟨k + 1, by omega, by go_num, ?_, trivial⟩, by simp [intOf]; omega⟩
          rw [show ((v : Int) * 256) = ((v * 256 : Nat) : Int) from by simp, i64_or_byte v y hwlt (by omega), hst.out]
        · have hst : Box (wordTo s x (k + 1) = wordTo s x k * 256) := ⟨by
            have h1 := HCQ.out
            show wordTo s x k * 256 + (s.getD (5 * x + k) 0).toNat = _
            rw [List.getD_eq_getElem?_getD, List.getElem?_eq_none (by omega)]; rfl⟩
          generalize hv : wordTo s x k = v at *
          clear hv
          gi_wp2
          refine ⟨⟨k + 1, by omega, by go_num, ?_, trivial⟩, by simp [intOf]; omega⟩
          rw [hst.out]; simp
      · obtain rfl : k = 5 := by omega
        gi_wp2
        obtain ⟨⟨F', hW, hF'⟩, hB⟩ := HIW.out
        have hFl := (WrP.stb g _).lt _ _ hW
        have hw2 : WrP g (L ++ pre.map (wordAt s)) (wr.alloc (.cells #[.int .i64 (wordTo s x 5 : Nat)] 3)) F' := (WrP.stb g _).eq _ _ _ hW (fun y hy => Below.heap_alloc _ _ _ (hFl y hy))
        have hrd : Rd (wr.alloc (.cells #[.int .i64 (wordTo s x 5 : Nat)] 3)) (some ⟨wr.heap.size, 0, none⟩) 1 1 1 (intVals [wordAt s x]) :=
          Rd.ofOwn (own_new (e := 3) (base := 0) (Blk.new (w := wr) (cs := intVals [wordAt s x]) rfl rfl) (Nat.zero_le _) rfl (by decide))
        refine ⟨trivial, ?_⟩
        refine (CallsIn.inRound l (callsIn_wide.2 (add_but g _ [wordAt s x] F' _ 1 1 _ hw2 hrd (by have := HL.out; simp; omega)))).mono ?_
        rintro e W' ⟨rfl, ⟨F2, hW2, hF2⟩, hB2⟩
        gi_wp2
        have hsz2 : W0.heap.size ≤ wr.heap.size := hB.size
        have hB2' : But F' wr W' := ((But.refl F' wr).alloc _).trans hB2 (fun y hy => .inl hy)
        have hk2 : ∀ b, b < W0.heap.size → w.heap.size ≤ b → W'.heap[b]? = wr.heap[b]? := fun b h1 h2 => hB2'.block b (by omega) (fun hm => by
          rcases hF' b hm with h3 | h3
          · have := HFL.out b h3; omega
          · omega)
        refine ⟨⟨hB2'.size, fun k o _ hk ho => ?_⟩, ⟨hk2 _ (by omega) (by omega), hk2 _ (by omega) (by omega)⟩, ⟨F2, ?_, fun y hy => ?_⟩, ?_⟩
        · have hkl := (Array.getElem?_eq_some_iff.1 hk).1
          rw [hB2'.block k hkl (fun hm => by
            obtain ⟨o2, h1, h2⟩ := hW.cells k hm
            rw [hk] at h1; cases h1; rw [ho] at h2; cases h2), hk]
        · have := hW2; rw [List.append_assoc] at this; simpa using this
        · rcases hF2 y hy with h1 | h1
          · exact hF' y h1
          · simp at h1; exact .inr (by omega)
        · exact hB.trans hB2' (fun y hy => hF' y hy)
  case done =>
    rintro D xs W hD rfl ⟨⟨F', hW, hF'⟩, hB⟩ hK
    gi_wp2
    refine ⟨by simp, .inl ⟨_, _, rfl, run_takeDeferred hK, ?_⟩⟩
    refine ⟨_, results_none rfl _ _ _, rfl, ⟨F', (WrP.stb g _).eq _ _ _ hW (fun y hy => World.putObj_heap_other (fun e => ?_)), fun y hy => ?_⟩, ?_⟩
    · obtain ⟨o2, h1, h2⟩ := hW.cells y hy
      rw [e, hK] at h1; cases h1; cases h2
    · rcases hF' y hy with h1 | h1
      · exact .inl h1
      · exact .inr (by omega)
    · exact (hB0.out.trans hB (fun y hy => .inl hy)).grown (grownBy_putObj' _ _ _) (fun k hk => .inr (by cases hk; omega))
  case stop =>
    rintro D c pre W _ _ h _
    exact h.elim
end Go.Proofs.Ytgimkipekoabbaa
