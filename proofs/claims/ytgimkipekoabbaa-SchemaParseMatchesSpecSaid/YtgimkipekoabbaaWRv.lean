/-
  The walk of reader.value. No condition.
-/
import Derived.Test.YtgimkipekoabbaaWPd
namespace Go.Proofs.Ytgimkipekoabbaa
open Go.RowKit

theorem valTT : AggT Try.prog 40 3 := ⟨by kernel_rfl, by kernel_rfl⟩
theorem val_one (k n : Int) (s : ByteArray) : ∀ u ∈ [Value.int .i64 k, .int .i64 n, .string s], u.oneCell' = true := by
  intro u hu; simp at hu; rcases hu with rfl | rfl | rfl <;> rfl
/-- The cells of reader.value: its result, its value. -/
structure VSt (B g s : Nat) (w wr : World) (k : Int) (l : List Int) : Prop where
  r : RdrP B wr g l
  v : Blk wr (s + 1) 40 [.int .i64 k, .int .i64 0, .string ⟨#[]⟩]
  o : Blk wr s 40 [.int .i64 0, .int .i64 0, .string ⟨#[]⟩]
  b : But [g] w wr
theorem VSt.call {B g s : Nat} {w wr w' : World} {k : Int} {l l' : List Int} (h : VSt B g s w wr k l) (hg : g < s) (hr : RdrP B w' g l') (hb : But [g] wr w') : VSt B g s w w' k l' :=
  ⟨hr, h.v.but hb (by simp; omega), h.o.but hb (by simp; omega), h.b.trans hb (fun x hx => .inl hx)⟩
def stW (w : World) (k : Int) : World := (w.alloc (.cells #[.int .i64 0, .int .i64 0, .string ⟨#[]⟩] 40)).alloc (.cells #[.int .i64 k, .int .i64 0, .string ⟨#[]⟩] 40)
theorem VSt.start {B g : Nat} {w : World} {l : List Int} (k : Int) (hr : RdrP B w g l) (hg : g < w.heap.size) (hB : B ≤ w.heap.size) : VSt B g w.heap.size w (stW w k) k l := by
  have hkp : ∀ x, x < w.heap.size → (stW w k).heap[x]? = w.heap[x]? := fun x hx => by
    unfold stW
    rw [heap_alloc_old _ _ (by simp; omega), heap_alloc_old _ _ (by omega)]
  refine ⟨hr.keep (hkp g hg) (fun x hx => hkp x (by omega)), Blk.new (by simp) rfl, (Blk.new rfl rfl).alloc _, ((But.refl _ _).alloc _).alloc _⟩

theorem VSt.fin {B g : Nat} {w wr : World} {k : Int} {l : List Int} (h : VSt B g w.heap.size w wr k l) (hg : g < w.heap.size) (hB : B ≤ w.heap.size) (j : Nat) (v : Value) (ds : Array Value) (x : Val) {O : Option (Val × List Int)} (hO : O = some (x, l)) :
    RetRd Val.v B g O w (.returned x.v) ((wr.setCell ⟨w.heap.size + 1, j, none⟩ v).setRow w.heap.size ds) := by
  have hkp : ∀ y, y < w.heap.size → ((wr.setCell ⟨w.heap.size + 1, j, none⟩ v).setRow w.heap.size ds).heap[y]? = wr.heap[y]? := fun y hy => by
    rw [setRow_other _ _ _ _ (by omega)]
    exact Below.heap_setCell _ _ _ _ (by show y ≠ w.heap.size + 1; omega)
  exact ⟨(h.b.setCell (.inr (by show w.heap.size ≤ w.heap.size + 1; omega)) v).setRow (.inr (Nat.le_refl _)) ds, .inl ⟨x, l, hO, rfl, h.r.keep (hkp g hg) (fun y hy => hkp y (by omega))⟩⟩

set_option maxRecDepth 20000 in
set_option maxHeartbeats 4000000 in
theorem value_rd {B g : Nat} {l : List Int} {k : Int} {w : World} (hr : RdrP B w g l) (hB : B ≤ w.heap.size) : Calls Try.prog 76 #[.pointer (some ⟨g, 0, none⟩), .int .i64 k] w (RetRd Val.v B g (rdV k l) w) := by
  generalize hO : rdV k l = O
  have hgs : g < w.heap.size := by obtain ⟨a, m, c, hb, _⟩ := hr; exact hb.lt
  have H0 := Box.mk (VSt.start k hr hgs hB)
  unfold stW at H0
  clear hr
  unfold rdV at hO
  by_cases h1 : k = 1
  · subst h1
    rw [if_pos rfl] at hO
    have HO := Box.mk hO
    clear hO
    go_enter Try.func76, Try.ntmps76
    go_wp2_with fail
    generalize ((w.alloc (.cells #[.int .i64 0, .int .i64 0, .string ⟨#[]⟩] 40)).alloc (.cells #[.int .i64 1, .int .i64 0, .string ⟨#[]⟩] 40)) = w1 at *
    cases hw : rdW lim40 l with
    | none =>
      refine (word_no H0.out.r hw).mono ?_
      rintro e w2 ⟨rfl, hb2⟩
      have hX := HO.out
      rw [hw] at hX
      subst hX
      go_wp2_with fail
      exact ⟨rfl, H0.out.b.trans hb2 (fun x hx => .inl hx), .inr ⟨rfl, rfl⟩⟩
    | some q =>
      obtain ⟨m, lm⟩ := q
      refine (word_ok H0.out.r hw).mono ?_
      rintro e w2 ⟨rfl, hr2, hb2⟩
      have H2 := Box.mk (H0.out.call hgs hr2 hb2)
      have hX := HO.out
      rw [hw] at hX
      subst hX
      obtain ⟨hm0, hm1⟩ := (rdW_some hw).2
      unfold lim40 at hm1
      have c0 := H2.out.v.cellOf (i := 0) rfl
      have c1 := H2.out.v.cellOf (i := 1) rfl
      have c2 := H2.out.v.cellOf (i := 2) rfl
      have f1 := H2.out.v.free 1
      have HBL := Box.mk (H2.out.o.other (p := ⟨w.heap.size + 1, 1, none⟩) (by show w.heap.size ≠ w.heap.size + 1; omega) (.int .i64 (m - 549755813888)))
      clear hr2 hb2 hw
      go_wp2_with (with_reducible refine wpList_store_row rfl _ _ _ rfl rfl (by kernel_rfl) HBL.out rfl rfl (cs := [.int .i64 1, .int .i64 (m - 549755813888), .string ⟨#[]⟩]) rfl rfl (val_one _ _ _) ?_)
      refine bodyPost_ret (results_cell1 rfl _ rfl (HBL.out.row [.int .i64 1, .int .i64 (m - 549755813888), .string ⟨#[]⟩]) valTT) rfl ?_
      exact H2.out.fin hgs hB 1 _ _ ⟨1, m - 549755813888, []⟩ rfl
  · rw [if_neg h1] at hO
    by_cases h3 : k = 3
    · subst h3
      rw [if_pos rfl] at hO
      have HO := Box.mk hO
      clear hO h1
      go_enter Try.func76, Try.ntmps76
      go_wp2_with fail
      generalize ((w.alloc (.cells #[.int .i64 0, .int .i64 0, .string ⟨#[]⟩] 40)).alloc (.cells #[.int .i64 3, .int .i64 0, .string ⟨#[]⟩] 40)) = w1 at *
      cases hw : rdW 2 l with
      | none =>
        refine (word_no H0.out.r hw).mono ?_
        rintro e w2 ⟨rfl, hb2⟩
        have hX := HO.out
        rw [hw] at hX
        subst hX
        go_wp2_with fail
        exact ⟨rfl, H0.out.b.trans hb2 (fun x hx => .inl hx), .inr ⟨rfl, rfl⟩⟩
      | some q =>
        obtain ⟨m, lm⟩ := q
        refine (word_ok H0.out.r hw).mono ?_
        rintro e w2 ⟨rfl, hr2, hb2⟩
        have H2 := Box.mk (H0.out.call hgs hr2 hb2)
        have hX := HO.out
        rw [hw] at hX
        subst hX
        have c0 := H2.out.v.cellOf (i := 0) rfl
        have c1 := H2.out.v.cellOf (i := 1) rfl
        have c2 := H2.out.v.cellOf (i := 2) rfl
        have f1 := H2.out.v.free 1
        have HBL := Box.mk (H2.out.o.other (p := ⟨w.heap.size + 1, 1, none⟩) (by show w.heap.size ≠ w.heap.size + 1; omega) (.int .i64 m))
        clear hr2 hb2 hw
        go_wp2_with (with_reducible refine wpList_store_row rfl _ _ _ rfl rfl (by kernel_rfl) HBL.out rfl rfl (cs := [.int .i64 3, .int .i64 m, .string ⟨#[]⟩]) rfl rfl (val_one _ _ _) ?_)
        refine bodyPost_ret (results_cell1 rfl _ rfl (HBL.out.row [.int .i64 3, .int .i64 m, .string ⟨#[]⟩]) valTT) rfl ?_
        exact H2.out.fin hgs hB 1 _ _ ⟨3, m, []⟩ rfl
    · rw [if_neg h3] at hO
      have HO := Box.mk hO
      have t1 : (k == 1) = false := by simp [h1]
      have t3 : (k == 3) = false := by simp [h3]
      clear hO h1 h3
      go_enter Try.func76, Try.ntmps76
      go_wp2_with fail
      generalize ((w.alloc (.cells #[.int .i64 0, .int .i64 0, .string ⟨#[]⟩] 40)).alloc (.cells #[.int .i64 k, .int .i64 0, .string ⟨#[]⟩] 40)) = w1 at *
      cases hw : rdW 41 l with
      | none =>
        refine (word_no H0.out.r hw).mono ?_
        rintro e w2 ⟨rfl, hb2⟩
        have hX := HO.out
        rw [hw] at hX
        subst hX
        go_wp2_with fail
        exact ⟨rfl, H0.out.b.trans hb2 (fun x hx => .inl hx), .inr ⟨rfl, rfl⟩⟩
      | some q =>
        obtain ⟨m, lm⟩ := q
        refine (word_ok H0.out.r hw).mono ?_
        rintro e w2 ⟨rfl, hr2, hb2⟩
        have H2 := Box.mk (H0.out.call hgs hr2 hb2)
        have hX := HO.out
        rw [hw] at hX
        simp only [Option.bind_some] at hX
        obtain ⟨hm0, hm1⟩ := (rdW_some hw).2
        obtain ⟨M, rfl⟩ := Int.eq_ofNat_of_zero_le hm0
        rw [Int.toNat_natCast] at hX
        have HX := Box.mk hX
        have h2s : B ≤ w2.heap.size := by have := H2.out.b.size; omega
        clear hr2 hb2 hw HO hX
        go_wp2_with fail
        refine (text_rd H2.out.r h2s (by omega)).mono ?_
        rintro e w3 ⟨hb3, ⟨x, l3, ho3, rfl, hr3⟩ | ⟨ho3, rfl⟩⟩
        · have H3 := Box.mk (H2.out.call hgs hr3 hb3)
          have hX := HX.out
          rw [ho3] at hX
          subst hX
          have c0 := H3.out.v.cellOf (i := 0) rfl
          have c1 := H3.out.v.cellOf (i := 1) rfl
          have c2 := H3.out.v.cellOf (i := 2) rfl
          have f2 := H3.out.v.free 2
          have HBL := Box.mk (H3.out.o.other (p := ⟨w.heap.size + 1, 2, none⟩) (by show w.heap.size ≠ w.heap.size + 1; omega) (.string ⟨x.toArray⟩))
          clear hr3 hb3
          go_wp2_with (with_reducible refine wpList_store_row rfl _ _ _ rfl rfl (by kernel_rfl) HBL.out rfl rfl (cs := [.int .i64 k, .int .i64 0, .string ⟨x.toArray⟩]) rfl rfl (val_one _ _ _) ?_)
          refine bodyPost_ret (results_cell1 rfl _ rfl (HBL.out.row [.int .i64 k, .int .i64 0, .string ⟨x.toArray⟩]) valTT) rfl ?_
          exact H3.out.fin hgs hB 2 _ _ ⟨k, 0, x⟩ rfl
        · have hX := HX.out
          rw [ho3] at hX
          subst hX
          go_wp2_with fail
          exact ⟨rfl, H2.out.b.trans hb3 (fun x hx => .inl hx), .inr ⟨rfl, rfl⟩⟩
end Go.Proofs.Ytgimkipekoabbaa
