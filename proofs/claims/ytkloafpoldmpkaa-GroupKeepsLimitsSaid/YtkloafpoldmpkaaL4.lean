/-
  The walk of GroupKeepsLimits: it returns true and keeps what was there. No condition.
-/
import Derived.Test.YtkloafpoldmpkaaKcut
import Derived.Deep.LoopGhost
namespace Go.Proofs.Ytkloafpoldmpkaa
open Go.RowKit

def boolVals (l : List Bool) : List Value := l.map Value.bool
theorem Rd.boolAtD {w : World} {a : Option Addr} {n cap : Nat} {l : List Bool} (h : Rd w a n cap 1 (boolVals l)) (k : Nat) (hk : k < n) :
    ∃ g off, a = some ⟨g, off, none⟩ ∧ w.cell? ⟨g, off + k, none⟩ = some (.bool (l.getD k false)) := by
  have hl := h.hlen
  have hbl : (boolVals l).length = l.length := by simp [boolVals]
  obtain ⟨b, off, ha, hc⟩ := h.at k hk
  refine ⟨b, off, ha, ?_⟩
  rw [hc k (by omega)]
  simp [boolVals, List.getD_eq_getElem?_getD, List.getElem?_eq_getElem (show k < l.length by omega)]

/-- Where the law stands: what waits and what has been told. -/
structure Stand (B : Nat) (w wr : World) (mo ro de : Int) (W : Nat → Int) (g m gb i : Nat) (f : Int → Int) (L G : List Nat) (a aw : Option Addr) (c nw cw : Nat) : Prop where
  own : Own B wr [GrpP g (QL mo ro de W (1 + (G.length : Int)) L), IntMP Try.prog 3 3 m i f, BlkP gb 22 [.slice a G.length c], RowP 3 1 a G.length c (intVals (ints G)), RowP 3 1 aw nw cw (intVals (ints (G ++ L)))]
  below : Below B w wr
  lt : ∀ j ∈ L, j < i
  val : ∀ j : Nat, j < i → f (j : Int) = W j
  len : (G ++ L).length ≤ i
  nw : nw = (G ++ L).length

section
variable {B : Nat} {w wr : World} {mo ro de : Int} {W : Nat → Int} {g m gb i : Nat} {f : Int → Int} {L G : List Nat} {a aw : Option Addr} {c nw cw : Nat}
theorem Stand.drewN (S : Stand B w wr mo ro de W g m gb i f L G a aw c nw cw) (n : Nat) : Stand B w (wr.drewN n) mo ro de W g m gb i f L G a aw c nw cw :=
  ⟨S.own.drewN n, below_drewN S.below n, S.lt, S.val, S.len, S.nw⟩
theorem Stand.cut (S : Stand B w wr mo ro de W g m gb i f L G a aw c nw cw) {fr : Nat} (hf : fr ≤ L.length) {w' : World} {a' : Option Addr} {c' : Nat}
    (O : Own B w' [GrpP g (QL mo ro de W (1 + (G.length : Int) + fr) (L.drop fr)), IntMP Try.prog 3 3 m i f, BlkP gb 22 [.slice a' (G.length + fr) c'], RowP 3 1 a' (G.length + fr) c' (intVals (ints G ++ ints (L.take fr))), RowP 3 1 aw nw cw (intVals (ints (G ++ L)))]) (hb : Below B wr w') :
    Stand B w w' mo ro de W g m gb i f (L.drop fr) (G ++ L.take fr) a' aw c' nw cw := by
  have h1 : (G ++ L.take fr).length = G.length + fr := by rw [List.length_append, List.length_take]; omega
  have h2 : G ++ L.take fr ++ L.drop fr = G ++ L := by rw [List.append_assoc, List.take_append_drop]
  refine ⟨?_, S.below.trans hb, fun j hj => S.lt j (List.mem_of_mem_drop hj), S.val, by rw [h2]; exact S.len, by rw [h2]; exact S.nw⟩
  rw [h1, h2, ints_append]
  have e : (1 + ((G.length + fr : Nat) : Int)) = 1 + (G.length : Int) + fr := by push_cast; omega
  rw [e]
  exact O
end

set_option maxRecDepth 20000 in
set_option maxHeartbeats 8000000 in
theorem keeps_walk (most room delay : Int) (a : Option Addr) (n cap : Nat) (ws : List Int) (da : Option Addr) (dn dc : Nat) (ds : List Bool) (w : World) (hrd : Rd w a n cap 1 (intVals ws)) (hrd2 : Rd w da dn dc 1 (boolVals ds)) :
    Calls Try.prog 6 #[.int .i64 most, .int .i64 room, .int .i64 delay, .slice a n cap, .slice da dn dc] w (RetBool true w) := by
  have hmax := hrd.lenMax
  have hmax2 := hrd2.lenMax
  have HR := Box.mk hrd; clear hrd
  have HR2 := Box.mk hrd2; clear hrd2
  have HC := Box.mk (begun_own (Own.start w) most room delay)
  have hm0 : 0 ≤ most % 16 ∧ most % 16 ≤ 15 := by omega
  have hr0 : 0 ≤ room % 256 ∧ room % 256 ≤ 255 := by omega
  have hd0 : 0 ≤ delay % 32 ∧ delay % 32 ≤ 31 := by omega
  generalize most % 16 = mm at *
  generalize room % 256 = rr at *
  generalize delay % 32 = dd at *
  obtain ⟨hm1, hm2⟩ := hm0
  obtain ⟨hr1, hr2⟩ := hr0
  obtain ⟨hd1, hd2⟩ := hd0
  by_cases h60 : 60 < n
  · go_enter Try.func6, Try.ntmps6
    go_wp2_with fail
    refine HC.out.mono ?_
    rintro e w1 ⟨g, rfl, O1, B1⟩
    go_wp2_with fail
    refine (sanity_own O1).mono ?_
    rintro e w3 ⟨rfl, O3, B3⟩
    replace B3 := B1.trans B3
    go_wp2_with fail
    go_ret
    exact ⟨rfl, B3⟩
  · have hmm := @run_makeMap Try.prog
    obtain ⟨W, hW⟩ : ∃ W : Nat → Int, W = fun j => 1 + ws.getD j 0 % 256 := ⟨_, rfl⟩
    have HW := Box.mk hW; clear hW
    go_enter Try.func6, Try.ntmps6
    go_wp2_with fail
    refine HC.out.mono ?_
    rintro e w1 ⟨g, rfl, O1, B1⟩
    clear HC
    go_wp2_with fail
    have O2 := (O1.new [.slice none 0 0] 22).newMap Try.prog 3 3
    have B2 := (B1.alloc O1.base (.cells #[.slice none 0 0] 22)).alloc (by have := O1.base; simp; omega) (.map #[] 0)
    replace O2 := (O2.perm (.cons _ (.swap _ _ _))).nilRow 3 1
    replace O2 := O2.nilRow 3 1
    have hz : (w1.alloc (.cells #[.slice none 0 0] 22)).heap.size = w1.heap.size + 1 := by simp
    have S2 : Stand w.heap.size w ((w1.alloc (.cells #[.slice none 0 0] 22)).alloc (.map #[] 0)) (1 + mm) (1 + rr) dd W g (w1.heap.size + 1) w1.heap.size 0 (fun _ => 0) [] [] none none 0 0 0 := by
      rw [← hz]
      exact ⟨O2, B2, fun j h => (by cases h), fun j h => (by omega), Nat.le_refl _, rfl⟩
    clear O1 B1 hmm O2 B2 hz
    generalize ((w1.alloc (.cells #[.slice none 0 0] 22)).alloc (.map #[] 0)) = w2 at *
    generalize w1.heap.size = gb at *
    go_wp2_with fail
    go_loopw [13, 43] (fun vw vi wr => ∃ (i : Nat) (f : Int → Int) (L G : List Nat) (a1 aw : Option Addr) (c1 nw cw : Nat), i ≤ n ∧ vi = .int .i64 i ∧ vw = .slice aw nw cw ∧ Stand w.heap.size w wr (1 + mm) (1 + rr) dd W g (gb + 1) gb i f L G a1 aw c1 nw cw) (fun _ vi _ => n - (intOf vi).toNat)
    case atStart => exact ⟨0, fun _ => 0, [], [], none, none, 0, 0, 0, Nat.zero_le _, rfl, rfl, S2⟩
    case round =>
      clear S2
      obtain ⟨i, f, L, G, a1, aw, c1, nw, cw, hi, rfl, rfl, S⟩ := hrel
      by_cases hl : i < n
      · obtain ⟨bw, off, rfl, hc⟩ := (HR.out.below S.below (Nat.le_refl _)).intAtD i hl
        have m2 := i64_and255 (ws.getD i 0)
        have hwi : W i = 1 + ws.getD i 0 % 256 := by rw [HW.out]
        have hy0 : 0 ≤ ws.getD i 0 % 256 := by omega
        have hy1 : ws.getD i 0 % 256 ≤ 255 := by omega
        have HWI := Box.mk hwi; clear hwi
        generalize ws.getD i 0 % 256 = y at *
        generalize ws.getD i 0 = x at *
        have hnot : i ∉ L := fun h => by have := S.lt i h; omega
        obtain ⟨w3, hrun, hM3, hturn⟩ := (S.own.intM 1 rfl).store ty3 ty3 ty39 (x := (i : Int)) (v := 1 + y) (by unfold In64; omega) (by unfold In64; omega) (by unfold maxLen; omega)
        obtain ⟨O3, B3⟩ := S.own.mapSet 1 rfl hM3 hturn
        replace B3 := S.below.trans B3
        have hval : ∀ j : Nat, j < i + 1 → (fun z => if z = (i : Int) then 1 + y else f z) (j : Int) = W j := fun j hj => by
          by_cases e : j = i
          · subst e; simp [HWI.out]
          · simp only; rw [if_neg (by omega), S.val j (by omega)]
        replace O3 : Own w.heap.size w3 [GrpP g (QL (1 + mm) (1 + rr) dd W (1 + (G.length : Int)) L), IntMP Try.prog 3 3 (gb + 1) (i + 1) (fun z => if z = (i : Int) then 1 + y else f z), BlkP gb 22 [.slice a1 G.length c1], RowP 3 1 a1 G.length c1 (intVals (ints G)), RowP 3 1 aw nw cw (intVals (ints (G ++ L)))] := O3
        generalize (fun z => if z = (i : Int) then 1 + y else f z) = f2 at *
        have HV := Box.mk hval; clear hval hM3 hturn
        have hlen := S.len
        have HLT := Box.mk S.lt
        have hGL : G.length + L.length ≤ i := by rw [List.length_append] at hlen; exact hlen
        by_cases hfit : W i ≤ 1 + rr
        · have hask := QL_ask (mo := 1 + mm) (ro := 1 + rr) (de := dd) (W := W) (s := 1 + (G.length : Int)) (L := L) (i := i) hnot (by rw [HWI.out]; omega) hfit (by omega) (by omega)
          have hA := Box.mk (ask_to O3 0 rfl (i : Int) (W i) (i : Int) hask (by unfold In64; omega))
          rw [HWI.out] at hA
          clear hask hfit
          by_cases hdi : i < dn
          · obtain ⟨bd, od, rfl, hcd⟩ := (HR2.out.below S.below (Nat.le_refl _)).boolAtD i hdi
            have hcd3 : ∀ w4, Below w.heap.size w w4 → w4.cell? ⟨bd, od + i, none⟩ = some (.bool (ds.getD i false)) := fun w4 hb => by
              obtain ⟨b', o', he, hc'⟩ := (HR2.out.below hb (Nat.le_refl _)).boolAtD i hdi
              cases he; exact hc'
            have HCD := Box.mk hcd3; clear hcd3 hcd
            cases hdd : ds.getD i false with
            | true =>
              rw [hdd] at HCD
              clear hdd
              go_wp2_with fail
              refine hA.out.mono ?_
              rintro e w4 ⟨rfl, O4, B4⟩
              replace B4 := B3.trans B4
              replace O4 : Own w.heap.size w4 [GrpP g (QL (1 + mm) (1 + rr) dd W (1 + (G.length : Int)) (L ++ [i])), IntMP Try.prog 3 3 (gb + 1) (i + 1) f2, BlkP gb 22 [.slice a1 G.length c1], RowP 3 1 a1 G.length c1 (intVals (ints G)), RowP 3 1 aw nw cw (intVals (ints (G ++ L)))] := O4
              clear hA O3 B3 hrun
              have hcd := HCD.out w4 B4
              have hDr := Box.mk (drop_own O4 0 rfl (i : Int) (by unfold In64; omega))
              rw [QL_drop_mem, QL_drop hnot] at hDr
              go_wp2_with fail
              refine hDr.out.mono ?_
              rintro e w5 ⟨rfl, O5, B5⟩
              replace B5 := B4.trans B5
              replace O5 : Own w.heap.size w5 [GrpP g (QL (1 + mm) (1 + rr) dd W (1 + (G.length : Int)) L), IntMP Try.prog 3 3 (gb + 1) (i + 1) f2, BlkP gb 22 [.slice a1 G.length c1], RowP 3 1 a1 G.length c1 (intVals (ints G)), RowP 3 1 aw nw cw (intVals (ints (G ++ L)))] := O5
              clear hDr hcd O4 B4
              have hDr := Box.mk (drop_own O5 0 rfl (i : Int) (by unfold In64; omega))
              rw [QL_drop_no hnot, decide_eq_false (QL_mem hnot)] at hDr
              go_wp2_with fail
              refine hDr.out.mono ?_
              rintro e w6 ⟨rfl, O6, B6⟩
              replace B6 := B5.trans B6
              have S6 : Stand w.heap.size w w6 (1 + mm) (1 + rr) dd W g (gb + 1) gb (i + 1) f2 L G a1 aw c1 nw cw :=
                ⟨O6, B6, fun j hj => by have := HLT.out j hj; omega, HV.out, by omega, S.nw⟩
              clear hDr O5 B5 O6 B6 S
              go_wp2_with fail
              go_loopg [86] L.length (fun gk _ wx => ∃ (L2 G2 : List Nat) (a2 : Option Addr) (c2 : Nat), gk = L2.length ∧ G2 ++ L2 = G ++ L ∧ Stand w.heap.size w wx (1 + mm) (1 + rr) dd W g (gb + 1) gb (i + 1) f2 L2 G2 a2 aw c2 nw cw)
              case atStart => exact ⟨L, G, a1, c1, rfl, rfl, S6⟩
              case round =>
                clear S6
                obtain ⟨L2, G2, a2, c2, rfl, hGL2, S2⟩ := hrel
                cases hdue : (QL (1 + mm) (1 + rr) dd W (1 + (G2.length : Int)) L2).due (i : Int) with
                | false =>
                  have hD := Box.mk (due_to S2.own 0 rfl (i : Int) hdue)
                  clear hdue
                  go_wp2_with fail
                  refine hD.out.mono ?_
                  rintro e w6 ⟨rfl, nq, rfl⟩
                  replace S2 := S2.drewN nq
                  clear hD
                  go_wp2_with fail
                  go_roundw
                  case rel => exact ⟨i + 1, f2, L2, G2, a2, aw, c2, nw, cw, by omega, by go_num, rfl, S2⟩
                  case measure => simp [intOf]; omega
                | true =>
                  have hD := Box.mk (due_to S2.own 0 rfl (i : Int) hdue)
                  have HDUE := Box.mk hdue; clear hdue
                  go_wp2_with fail
                  refine hD.out.mono ?_
                  rintro e w6 ⟨rfl, nq, rfl⟩
                  replace S2 := S2.drewN nq
                  clear hD
                  generalize wr.drewN nq = w6 at *
                  have hlen2 := S2.len
                  rw [List.length_append] at hlen2
                  have hfp := QL_front_pos (Own.ok S2.own 0 rfl) (QL_due_ne _ HDUE.out)
                  have hfl := (QL (1 + mm) (1 + rr) dd W (1 + (G2.length : Int)) L2).front_le
                  rw [QL_len] at hfl
                  have hK := Box.mk (kcut_own S2.own (i : Int) HDUE.out (fun j hj => S2.val j (S2.lt j hj)) rfl (fun j hj => by have := S2.lt j hj; omega) (by omega) (by omega))
                  go_wp2_with fail
                  refine hK.out.mono ?_
                  rintro e w7 ⟨a7, c7, rfl, O7, B7⟩
                  have S7 := S2.cut hfl O7 B7
                  clear hK O7 B7
                  go_wp2_with fail
                  generalize (QL (1 + mm) (1 + rr) dd W (1 + (G2.length : Int)) L2).front = fr at *
                  go_roundg (L2.drop fr).length
                  case measure => rw [List.length_drop]; omega
                  case rel => exact ⟨L2.drop fr, G2 ++ L2.take fr, a7, c7, rfl, by rw [List.append_assoc, List.take_append_drop]; exact hGL2, S7⟩
            | false =>
              rw [hdd] at HCD
              clear hdd
              go_wp2_with fail
              refine hA.out.mono ?_
              rintro e w4 ⟨rfl, O4, B4⟩
              replace B4 := B3.trans B4
              replace O4 : Own w.heap.size w4 [GrpP g (QL (1 + mm) (1 + rr) dd W (1 + (G.length : Int)) (L ++ [i])), IntMP Try.prog 3 3 (gb + 1) (i + 1) f2, BlkP gb 22 [.slice a1 G.length c1], RowP 3 1 a1 G.length c1 (intVals (ints G)), RowP 3 1 aw nw cw (intVals (ints (G ++ L)))] := O4
              clear hA O3 B3 hrun
              have hcd := HCD.out w4 B4
              have O5 := O4.alloc (.cells #[.int .i64 (i : Int)] 3)
              have B5 := B4.alloc O4.base (.cells #[.int .i64 (i : Int)] 3)
              have SRC := Src.oneNew (P := Try.prog) w4 (.int .i64 (i : Int)) 3 rfl
              have hown0 := O5.row 4 rfl
              have hnw := S.nw
              rw [List.length_append] at hnw
              have HNW := Box.mk hnw
              have hnw60 : nw ≤ 60 := by omega
              clear hnw
              go_wp2_with (at_builtin; refine wpList_append_src rfl _ _ 22 22 rfl sl22 (.inl sl22.ht) rfl hown0 rfl SRC (by omega) (by unfold maxLen; omega) (Nat.zero_le _) ?_; intro a6 c6 w6 hown6 hgr6 hla6)
              have hcat : intVals (ints (G ++ L)) ++ [Value.int .i64 (i : Int)] = intVals (ints (G ++ (L ++ [i]))) := by
                simp [ints, intVals]
              rw [hcat] at hown6
              obtain ⟨O6, B6⟩ := O5.grown 4 rfl hown6 hgr6 hla6
              have S6 : Stand w.heap.size w w6 (1 + mm) (1 + rr) dd W g (gb + 1) gb (i + 1) f2 (L ++ [i]) G a1 a6 c1 (nw + 1) c6 :=
                ⟨O6, B5.trans B6, fun j hj => by
                  rcases List.mem_append.1 hj with h | h
                  · have := HLT.out j h; omega
                  · simp at h; omega, HV.out, by simp only [List.length_append, List.length_cons, List.length_nil]; omega, by have := HNW.out; simp only [List.length_append, List.length_cons, List.length_nil]; omega⟩
              clear O5 B5 SRC hown0 hcat hown6 hgr6 hla6 O6 B6 O4 B4 S
              clear hcd
              go_loopg [86] (L ++ [i]).length (fun gk _ wx => ∃ (L2 G2 : List Nat) (a2 : Option Addr) (c2 : Nat), gk = L2.length ∧ G2 ++ L2 = G ++ (L ++ [i]) ∧ Stand w.heap.size w wx (1 + mm) (1 + rr) dd W g (gb + 1) gb (i + 1) f2 L2 G2 a2 a6 c2 (nw + 1) c6)
              case atStart => exact ⟨(L ++ [i]), G, a1, c1, rfl, rfl, S6⟩
              case round =>
                clear S6
                obtain ⟨L2, G2, a2, c2, rfl, hGL2, S2⟩ := hrel
                cases hdue : (QL (1 + mm) (1 + rr) dd W (1 + (G2.length : Int)) L2).due (i : Int) with
                | false =>
                  have hD := Box.mk (due_to S2.own 0 rfl (i : Int) hdue)
                  clear hdue
                  go_wp2_with fail
                  refine hD.out.mono ?_
                  rintro e w6 ⟨rfl, nq, rfl⟩
                  replace S2 := S2.drewN nq
                  clear hD
                  go_wp2_with fail
                  go_roundw
                  case rel => exact ⟨i + 1, f2, L2, G2, a2, a6, c2, (nw + 1), c6, by omega, by go_num, rfl, S2⟩
                  case measure => simp [intOf]; omega
                | true =>
                  have hD := Box.mk (due_to S2.own 0 rfl (i : Int) hdue)
                  have HDUE := Box.mk hdue; clear hdue
                  go_wp2_with fail
                  refine hD.out.mono ?_
                  rintro e w6 ⟨rfl, nq, rfl⟩
                  replace S2 := S2.drewN nq
                  clear hD
                  generalize wr.drewN nq = w6 at *
                  have hlen2 := S2.len
                  rw [List.length_append] at hlen2
                  have hfp := QL_front_pos (Own.ok S2.own 0 rfl) (QL_due_ne _ HDUE.out)
                  have hfl := (QL (1 + mm) (1 + rr) dd W (1 + (G2.length : Int)) L2).front_le
                  rw [QL_len] at hfl
                  have hK := Box.mk (kcut_own S2.own (i : Int) HDUE.out (fun j hj => S2.val j (S2.lt j hj)) rfl (fun j hj => by have := S2.lt j hj; omega) (by omega) (by omega))
                  go_wp2_with fail
                  refine hK.out.mono ?_
                  rintro e w7 ⟨a7, c7, rfl, O7, B7⟩
                  have S7 := S2.cut hfl O7 B7
                  clear hK O7 B7
                  go_wp2_with fail
                  generalize (QL (1 + mm) (1 + rr) dd W (1 + (G2.length : Int)) L2).front = fr at *
                  go_roundg (L2.drop fr).length
                  case measure => rw [List.length_drop]; omega
                  case rel => exact ⟨L2.drop fr, G2 ++ L2.take fr, a7, c7, rfl, by rw [List.append_assoc, List.take_append_drop]; exact hGL2, S7⟩
          · have hdn : decide ((i : Int) < (dn : Int)) = false := decide_eq_false (by omega)
            go_wp2_with fail
            refine hA.out.mono ?_
            rintro e w4 ⟨rfl, O4, B4⟩
            replace B4 := B3.trans B4
            replace O4 : Own w.heap.size w4 [GrpP g (QL (1 + mm) (1 + rr) dd W (1 + (G.length : Int)) (L ++ [i])), IntMP Try.prog 3 3 (gb + 1) (i + 1) f2, BlkP gb 22 [.slice a1 G.length c1], RowP 3 1 a1 G.length c1 (intVals (ints G)), RowP 3 1 aw nw cw (intVals (ints (G ++ L)))] := O4
            clear hA O3 B3 hrun
            have O5 := O4.alloc (.cells #[.int .i64 (i : Int)] 3)
            have B5 := B4.alloc O4.base (.cells #[.int .i64 (i : Int)] 3)
            have SRC := Src.oneNew (P := Try.prog) w4 (.int .i64 (i : Int)) 3 rfl
            have hown0 := O5.row 4 rfl
            have hnw := S.nw
            rw [List.length_append] at hnw
            have HNW := Box.mk hnw
            have hnw60 : nw ≤ 60 := by omega
            clear hnw
            go_wp2_with (at_builtin; refine wpList_append_src rfl _ _ 22 22 rfl sl22 (.inl sl22.ht) rfl hown0 rfl SRC (by omega) (by unfold maxLen; omega) (Nat.zero_le _) ?_; intro a6 c6 w6 hown6 hgr6 hla6)
            have hcat : intVals (ints (G ++ L)) ++ [Value.int .i64 (i : Int)] = intVals (ints (G ++ (L ++ [i]))) := by
              simp [ints, intVals]
            rw [hcat] at hown6
            obtain ⟨O6, B6⟩ := O5.grown 4 rfl hown6 hgr6 hla6
            have S6 : Stand w.heap.size w w6 (1 + mm) (1 + rr) dd W g (gb + 1) gb (i + 1) f2 (L ++ [i]) G a1 a6 c1 (nw + 1) c6 :=
              ⟨O6, B5.trans B6, fun j hj => by
                rcases List.mem_append.1 hj with h | h
                · have := HLT.out j h; omega
                · simp at h; omega, HV.out, by simp only [List.length_append, List.length_cons, List.length_nil]; omega, by have := HNW.out; simp only [List.length_append, List.length_cons, List.length_nil]; omega⟩
            clear O5 B5 SRC hown0 hcat hown6 hgr6 hla6 O6 B6 O4 B4 S
            go_loopg [86] (L ++ [i]).length (fun gk _ wx => ∃ (L2 G2 : List Nat) (a2 : Option Addr) (c2 : Nat), gk = L2.length ∧ G2 ++ L2 = G ++ (L ++ [i]) ∧ Stand w.heap.size w wx (1 + mm) (1 + rr) dd W g (gb + 1) gb (i + 1) f2 L2 G2 a2 a6 c2 (nw + 1) c6)
            case atStart => exact ⟨(L ++ [i]), G, a1, c1, rfl, rfl, S6⟩
            case round =>
              clear S6
              obtain ⟨L2, G2, a2, c2, rfl, hGL2, S2⟩ := hrel
              cases hdue : (QL (1 + mm) (1 + rr) dd W (1 + (G2.length : Int)) L2).due (i : Int) with
              | false =>
                have hD := Box.mk (due_to S2.own 0 rfl (i : Int) hdue)
                clear hdue
                go_wp2_with fail
                refine hD.out.mono ?_
                rintro e w6 ⟨rfl, nq, rfl⟩
                replace S2 := S2.drewN nq
                clear hD
                go_wp2_with fail
                go_roundw
                case rel => exact ⟨i + 1, f2, L2, G2, a2, a6, c2, (nw + 1), c6, by omega, by go_num, rfl, S2⟩
                case measure => simp [intOf]; omega
              | true =>
                have hD := Box.mk (due_to S2.own 0 rfl (i : Int) hdue)
                have HDUE := Box.mk hdue; clear hdue
                go_wp2_with fail
                refine hD.out.mono ?_
                rintro e w6 ⟨rfl, nq, rfl⟩
                replace S2 := S2.drewN nq
                clear hD
                generalize wr.drewN nq = w6 at *
                have hlen2 := S2.len
                rw [List.length_append] at hlen2
                have hfp := QL_front_pos (Own.ok S2.own 0 rfl) (QL_due_ne _ HDUE.out)
                have hfl := (QL (1 + mm) (1 + rr) dd W (1 + (G2.length : Int)) L2).front_le
                rw [QL_len] at hfl
                have hK := Box.mk (kcut_own S2.own (i : Int) HDUE.out (fun j hj => S2.val j (S2.lt j hj)) rfl (fun j hj => by have := S2.lt j hj; omega) (by omega) (by omega))
                go_wp2_with fail
                refine hK.out.mono ?_
                rintro e w7 ⟨a7, c7, rfl, O7, B7⟩
                have S7 := S2.cut hfl O7 B7
                clear hK O7 B7
                go_wp2_with fail
                generalize (QL (1 + mm) (1 + rr) dd W (1 + (G2.length : Int)) L2).front = fr at *
                go_roundg (L2.drop fr).length
                case measure => rw [List.length_drop]; omega
                case rel => exact ⟨L2.drop fr, G2 ++ L2.take fr, a7, c7, rfl, by rw [List.append_assoc, List.take_append_drop]; exact hGL2, S7⟩
        · have hask := QL_ask_big (mo := 1 + mm) (ro := 1 + rr) (de := dd) (W := W) (s := 1 + (G.length : Int)) (L := L) (i := i) hnot (by rw [HWI.out]; omega) (by omega) (by omega)
          have hA := Box.mk (ask_to O3 0 rfl (i : Int) (W i) (i : Int) hask (by unfold In64; omega))
          rw [HWI.out] at hA hfit
          have hdec : decide (1 + y ≤ 1 + rr) = false := decide_eq_false hfit
          clear hask
          go_wp2_with fail
          refine hA.out.mono ?_
          rintro e w4 ⟨rfl, O4, B4⟩
          replace B4 := B3.trans B4
          clear hA
          go_wp2_with fail
          go_roundw
          case rel => exact ⟨i + 1, f2, L, G, a1, aw, c1, nw, cw, by omega, by go_num, rfl, O4, B4, fun j hj => by have := HLT.out j hj; omega, HV.out, by omega, S.nw⟩
          case measure => simp [intOf]; omega
      · obtain rfl : i = n := by omega
        go_wp2_with fail
        obtain ⟨wo, rfl⟩ : ∃ wo : World, wo = wr := ⟨_, rfl⟩
        go_loopw [18] (fun vj wx => ∃ (j : Nat) (L2 G2 : List Nat) (a2 : Option Addr) (c2 : Nat), vj = .int .i64 j ∧ j ≤ G2.length ∧ G2 ++ L2 = G ++ L ∧ Stand w.heap.size w wx (1 + mm) (1 + rr) dd W g (gb + 1) gb i f L2 G2 a2 aw c2 nw cw) (fun vj _ => 100 - (intOf vj).toNat)
        case atStart => exact ⟨0, L, G, a1, c1, rfl, Nat.zero_le _, rfl, S⟩
        case round =>
          clear S
          obtain ⟨j, L2, G2, a2, c2, rfl, hj, hGL, S2⟩ := hrel
          have hlen2 := S2.len
          rw [List.length_append] at hlen2
          by_cases hL : L2 = []
          · subst hL
            have hD := Box.mk (due_to S2.own 0 rfl 1000 (QL_due_none 1000))
            have HNW := Box.mk (S2.nw)
            go_wp2_with fail
            refine hD.out.mono ?_
            rintro e w6 ⟨rfl, nq, rfl⟩
            replace S2 := S2.drewN nq
            clear hD
            generalize wr.drewN nq = w6 at *
            go_wp2_with fail
            refine (sanity_own S2.own).mono ?_
            rintro e w7 ⟨rfl, O7, B7⟩
            replace B7 := S2.below.trans B7
            clear S2
            have hg0 := (O7.blk 2 rfl).1.cellOf (i := 0) rfl
            have hS := sameInts_any (ints G2) (ints (G2 ++ [])) a2 aw G2.length nw c2 cw w7 (Rd.ofOwn (O7.row 3 rfl)) (Rd.ofOwn (O7.row 4 rfl))
            rw [decide_eq_true (by rw [List.append_nil])] at hS
            have HS := Box.mk hS; clear hS
            go_wp2_with fail
            refine HS.out.mono ?_
            rintro e w8 ⟨rfl, n8, rfl⟩
            replace O7 := O7.drewN n8
            replace B7 := below_drewN B7 n8
            clear HS hg0
            generalize w7.drewN n8 = w8 at *
            have hN := Box.mk (next_own O7 0 rfl)
            have hst : (QL (1 + mm) (1 + rr) dd W (1 + (G2.length : Int)) []).stamp = 1 + (nw : Int) := by rw [HNW.out, List.append_nil]; rfl
            rw [hst] at hN
            have hnw60 : nw ≤ 60 := by have := HNW.out; rw [List.append_nil] at this; omega
            have heq : (1 + (nw : Int) == 1 + (nw : Int)) = true := by simp
            have hW := Box.mk (waiting_own O7 0 rfl)
            have hwx : (QL (1 + mm) (1 + rr) dd W (1 + (G2.length : Int)) []).q.map Nd.tx = [] := rfl
            rw [hwx] at hW
            clear hst hwx
            go_wp2_with fail
            refine hN.out.mono ?_
            rintro e w9 ⟨rfl, rfl⟩
            clear hN
            go_wp2_with fail
            refine hW.out.mono ?_
            rintro e w10 ⟨a10, c10, rfl, O10, B10⟩
            replace B10 := B7.trans B10
            go_wp2_with fail
            go_ret
            exact ⟨rfl, B10⟩
          · have HDUE := Box.mk (QL_due_end (mo := 1 + mm) (ro := 1 + rr) (de := dd) (s := 1 + (G2.length : Int)) (W := W) hL (fun j hj => by have := S2.lt j hj; omega) (by omega))
            have hD := Box.mk (due_to S2.own 0 rfl 1000 HDUE.out)
            go_wp2_with fail
            refine hD.out.mono ?_
            rintro e w6 ⟨rfl, nq, rfl⟩
            replace S2 := S2.drewN nq
            clear hD
            generalize wr.drewN nq = w6 at *
            have hfp := QL_front_pos (Own.ok S2.own 0 rfl) hL
            have hfl := (QL (1 + mm) (1 + rr) dd W (1 + (G2.length : Int)) L2).front_le
            rw [QL_len] at hfl
            have hK := Box.mk (kcut_own S2.own 1000 HDUE.out (fun j hj => S2.val j (S2.lt j hj)) rfl (fun j hj => by have := S2.lt j hj; omega) (by omega) (by omega))
            go_wp2_with fail
            refine hK.out.mono ?_
            rintro e w7 ⟨a7, c7, rfl, O7, B7⟩
            have S7 := S2.cut hfl O7 B7
            clear hK O7 B7
            go_wp2_with fail
            generalize (QL (1 + mm) (1 + rr) dd W (1 + (G2.length : Int)) L2).front = fr at *
            go_roundw
            case rel => exact ⟨j + 1, L2.drop fr, G2 ++ L2.take fr, a7, c7, by go_num, by rw [List.length_append, List.length_take]; omega, by rw [List.append_assoc, List.take_append_drop]; exact hGL, S7⟩
            case measure => simp [intOf]; omega
end Go.Proofs.Ytkloafpoldmpkaa
