/-
  The walk of a stream's Add. No condition.
-/
import Derived.Test.YtcngnpkpaliflaaDoorWBegin
import Derived.Test.YtcngnpkpaliflaaDoorStrm
import Derived.Test.YtcngnpkpaliflaaDoorCpy
import Derived.Test.YtcngnpkpaliflaaDoorWCrc
namespace Go.Proofs.YtcngnpkpaliflaaDoor
open Go.RowKit

theorem nm47 : (Tryd.f47.name == "runtime.NumGoroutine") = false := by kernel_rfl
theorem bd47 : Tryd.f47.body.isNone = false := by kernel_rfl
theorem ar51 : Tryd.prog.underlying 51 = some (.array 64 5) := by kernel_rfl
theorem sz5 : (Tryd.prog.info? 5).map (·.size) = some 1 := by kernel_rfl
theorem strmVals_length {s : S8} {held : List UInt8} {n : Nat} (h : held.length = 64) : (strmVals s held n).length = 73 := by
  simp [strmVals, wordVals_length, byteVals_length, S8.list_length, h]
theorem strmVals_one (s : S8) (held : List UInt8) (n : Nat) : ∀ u ∈ strmVals s held n, u.oneCell' = true := by
  intro u hu
  simp only [strmVals, List.mem_append, List.mem_singleton] at hu
  rcases hu with (h | h) | rfl
  · exact wordVals_one _ u h
  · exact byteVals_one _ u h
  · rfl
theorem strmVals_copy {s : S8} {held p : List UInt8} {n f : Nat} (h : held.length = 64) (hf : f + p.length ≤ 64) : splice (strmVals s held n) (8 + f) (byteVals p) = strmVals s (laid held p f) n := by
  have hw : (wordVals s.list).length = 8 := rfl
  unfold splice strmVals laid
  simp only [List.append_assoc, byteVals_append, byteVals_length]
  rw [List.take_append, List.take_of_length_le (by omega), hw, show 8 + f - 8 = f from by omega, List.take_append_of_le_length (by rw [byteVals_length]; omega)]
  rw [List.drop_append, List.drop_eq_nil_of_le (by omega), List.nil_append, hw, show 8 + f + p.length - 8 = f + p.length from by omega, List.drop_append_of_le_length (by rw [byteVals_length]; omega)]
  simp [byteVals, List.map_take, List.map_drop]
theorem strmVals_state {s t : S8} {held : List UInt8} {n : Nat} : splice (strmVals s held n) 0 (wordVals t.list) = strmVals t held n := by
  rfl
theorem strmVals_words {s : S8} {held : List UInt8} {n : Nat} : ((strmVals s held n).drop 0).take 8 = wordVals s.list := by
  have hw : (wordVals s.list).length = 8 := rfl
  unfold strmVals
  rw [List.drop_zero, List.append_assoc, List.take_append_of_le_length (by omega), List.take_of_length_le (by omega)]
theorem strmVals_held {s : S8} {held : List UInt8} {n : Nat} (h : held.length = 64) : ((strmVals s held n).drop 8).take 64 = byteVals held := by
  have hw : (wordVals s.list).length = 8 := rfl
  unfold strmVals
  rw [List.append_assoc, List.drop_append, List.drop_eq_nil_of_le (by omega), List.nil_append, hw, Nat.sub_self, List.drop_zero, List.take_append_of_le_length (by rw [byteVals_length]; omega), List.take_of_length_le (by rw [byteVals_length]; omega)]
theorem strmVals_n {s : S8} {held : List UInt8} {n : Nat} (h : held.length = 64) : (strmVals s held n)[72]? = some (.int .u64 (n : Int)) := by
  have hw : (wordVals s.list ++ byteVals held).length = 72 := by rw [List.length_append, byteVals_length, h]; rfl
  unfold strmVals
  rw [List.getElem?_append_right (by omega), hw]; rfl
theorem strmVals_setN {s : S8} {held : List UInt8} {n m : Nat} (h : held.length = 64) : (strmVals s held n).set 72 (.int .u64 (m : Int)) = strmVals s held m := by
  have hw : (wordVals s.list ++ byteVals held).length = 72 := by rw [List.length_append, byteVals_length, h]; rfl
  unfold strmVals
  rw [List.set_append_right _ _ (by omega), hw]; rfl

set_option maxRecDepth 20000 in
set_option maxHeartbeats 1000000 in
theorem strmAdd_any (m : List UInt8) (s : S8) (held : List UInt8) (n : Nat) (t : List UInt8) (hH : Has m s held n) (w : World) (ht : t.length ≤ 1099511627776) (hK : Kons w) (h2 : 2 < w.heap.size) :
    Calls Tryd.prog 32 #[.agg (strmVals s held n).toArray, .string ⟨t.toArray⟩] w fun e w' => ∃ s' held' n', Has (m ++ t) s' held' n' ∧ e = .returned (.agg (strmVals s' held' n').toArray) ∧ Below w.heap.size w w' := by
  have HH := Box.mk hH
  have h0 := Box.mk (strmVals_length (s := s) (n := n) hH.len)
  have h1 := Box.mk (strmVals_one s held n)
  clear hH
  generalize hcs : strmVals s held n = cs at *
  have HC := Box.mk hcs; clear hcs
  go_enter Tryd.func32, Tryd.ntmps32
  go_wp2_with (first
    | ((with_reducible show wpList _ _ _ _ _ _); refine wpList_alloc (o := ⟨some 4, .alloc 53, _, _, _, _⟩) rfl 53 rfl zero53 (zc := strmZero) rfl ?_))
  simp only [Act.put, List.setIfInBounds_toArray, List.set_cons_succ, List.set_cons_zero]
  rw [show (w.alloc (Obj.cells cs.toArray 53)).heap.size = w.heap.size + 1 from by simp]
  go_loopw [1] (fun v wr => ∃ (dn rest : List UInt8) (s1 : S8) (held1 : List UInt8) (n1 : Nat), v = .string ⟨rest.toArray⟩ ∧ Box (dn ++ rest = t) ∧ rest.length ≤ 1099511627776 ∧ Box (Has (m ++ dn) s1 held1 n1) ∧ Blk wr w.heap.size 53 (strmVals s1 held1 n1) ∧ Blk wr (w.heap.size + 1) 53 strmZero.toList ∧ Below w.heap.size w wr)
    (fun v _ => match v with | .string s => s.size | _ => 0)
  case atStart =>
    refine ⟨[], t, s, held, n, rfl, ⟨rfl⟩, ht, ⟨by rw [List.append_nil]; exact HH.out⟩, ?_, ?_, ?_⟩
    · rw [HC.out]; exact (Blk.new (ty := 53) (cs := cs) rfl rfl).alloc _
    · exact Blk.new (by simp) (by simp)
    · exact ((Below.refl _ _).alloc (Nat.le_refl _) _).alloc (by simp) _
  case round =>
    obtain ⟨dn, rest, s1, held1, n1, rfl, HD, hlen, HA, bS, bO, hB⟩ := hrel
    have hB0 := hB.size
    have k0 := Box.mk (strmVals_length (s := s1) (n := n1) HA.out.len)
    have k1 := Box.mk (strmVals_one s1 held1 n1)
    by_cases hr : rest = []
    · subst hr
      have k2 := Box.mk (show Has (m ++ t) s1 held1 n1 from by have h := HA.out; have e := HD.out; rw [List.append_nil] at e; rwa [e] at h)
      obtain ⟨cs1, HC1⟩ : ∃ cs1, Box (strmVals s1 held1 n1 = cs1) := ⟨_, ⟨rfl⟩⟩
      rw [HC1.out] at k0 k1 bS
      go_wp2_with (first
        | ((with_reducible show wpList _ _ _ _ _ _); refine wpList_load_agg (o := ⟨some 37, _, _, _, _, _⟩) rfl 53 _ rfl agg53 rfl (cs := cs1) k0.out bS.agg ?_)
        | ((with_reducible show wpList _ _ _ _ _ _); refine wpList_store_row (o := ⟨none, .store 53 (.tmp 4) (.tmp 37), _, _, _, _⟩) rfl 53 _ _ rfl rfl agg53.info bO size_zero53 rfl (cs := cs1) rfl k0.out k1.out ?_))
      exact bodyPost_ret (results_cell1 (g := w.heap.size + 1) (cs := cs1) rfl _ rfl (bO.row cs1) (by rw [k0.out]; exact agg53)) rfl ⟨s1, held1, n1, k2.out, by rw [HC1.out], below_setRow hB (by omega) _⟩
    · have hpos : 0 < rest.length := List.length_pos_iff.2 hr
      have hne : (!(rest.isEmpty)) = true := by cases rest <;> simp_all
      clear hr
      obtain ⟨f, hf⟩ : ∃ f, n1 % 64 = f := ⟨_, rfl⟩
      have hf64 : f < 64 := by omega
      have hfi : (n1 : Int) % 64 = (f : Int) := by omega
      have hn := bS.cellOf (i := 72) (strmVals_n HA.out.len)
      have hn64 : n1 < 18446744073709551616 := by have := HA.out.total; omega
      have Hf := Box.mk hf; clear hf
      obtain ⟨k, Hk⟩ : ∃ k, Box (k = Nat.min rest.length (64 - f)) := ⟨_, ⟨rfl⟩⟩
      have kk := Hk.out
      have kk1 : k ≤ rest.length := by rw [kk]; exact Nat.min_le_left _ _
      have kk2 : f + k ≤ 64 := by have : rest.length.min (64 - f) ≤ 64 - f := Nat.min_le_right _ _; rw [← kk] at this; omega
      clear kk
      have hp : (rest.take k).length = k := by rw [List.length_take]; omega
      have HP := Box.mk hp
      have hcp := Box.mk (strmVals_copy (s := s1) (n := n1) (p := rest.take k) (f := f) HA.out.len (by rw [hp]; omega))
      have hl2 := Box.mk (laid_length held1 (rest.take k) f HA.out.len (by rw [hp]; omega))
      obtain ⟨held2, Hh2⟩ : ∃ x, Box (laid held1 (rest.take k) f = x) := ⟨_, ⟨rfl⟩⟩
      rw [Hh2.out] at hcp hl2
      have bS2 := bS.row (strmVals s1 held2 n1)
      have bO2 := bO.rowOther (k := w.heap.size) (by omega) (strmVals s1 held2 n1).toArray
      have hB2 := below_setRow hB (Nat.le_refl _) (strmVals s1 held2 n1).toArray
      have hn2 := bS2.cellOf (i := 72) (strmVals_n hl2.out)
      have hf2 := bS2.free 72
      obtain ⟨n2, Hn2⟩ : ∃ x, Box ((n1 + k) % 18446744073709551616 = x) := ⟨_, ⟨rfl⟩⟩
      have hwrap : IntKind.u64.wrap ((n1 : Int) + (k : Int)) = (n2 : Int) := by rw [← Hn2.out]; simp [IntKind.wrap, IntKind.bits, IntKind.signed]
      have hext : (⟨rest.toArray⟩ : ByteArray).extract k rest.length = ⟨(rest.drop k).toArray⟩ := by
        apply ByteArray.ext; simp [ByteArray.extract, ByteArray.copySlice]; exact List.take_of_length_le (by rw [List.length_drop]; omega)
      have bS3 := bS2.set 72 (.int .u64 (n2 : Int))
      rw [strmVals_setN hl2.out] at bS3
      have bO3 := bO2.other (p := ⟨w.heap.size, 72, none⟩) (by simp) (.int .u64 (n2 : Int))
      have hB3 := hB2.setCell (p := ⟨w.heap.size, 72, none⟩) (Nat.le_refl _) (.int .u64 (n2 : Int))
      have HD2 := Box.mk (show (dn ++ rest.take k) ++ rest.drop k = t from by rw [List.append_assoc, List.take_append_drop]; exact HD.out)
      have hdl : (rest.drop k).length = rest.length - k := List.length_drop
      have hk0 : 0 < k := by have : k = rest.length.min (64 - f) := Hk.out; rw [this]; exact Nat.lt_min.2 ⟨hpos, by omega⟩
      have hfm : (m ++ dn).length % 64 = f := by rw [← HA.out.mod]; exact Hf.out
      by_cases hful : f + k = 64
      · have hE := Box.mk (HA.out.full (rest.take k) (by rw [hfm, hp]; exact hful))
        rw [hfm, hp, Hh2.out, Hn2.out] at hE
        have htest : ((f : Int) + (k : Int) == 64) = true := by simp; omega
        clear hp hful hfm
        have HDL := Box.mk hdl; clear hdl
        go_wp2_with (first
          | ((with_reducible show wpList _ _ _ _ _ _); refine wpList_slice_arr (o := ⟨some 15, _, _, _, _, _⟩) rfl 51 (.tmp 13) (some (.tmp 14)) none rfl ar51 sz5 rfl (some (f : Int)) none rfl rfl f 64 rfl rfl (by omega) (by omega) (by omega) ?_; rw [Nat.mul_one])
          | ((with_reducible show wpList _ _ _ _ _ _); refine wpList_copy_str (o := ⟨some 17, _, _, _, _, _⟩) rfl (.tmp 15) (.tmp 16) 22 9 rfl sl22.ht sz5 (off := 8 + f) rfl rfl bS Hk.out (by rw [k0.out]; omega) ?_; rw [hcp.out]; clear hn bS bO hB; generalize wr.setRow w.heap.size (strmVals s1 held2 n1).toArray = w2 at *))
        generalize w2.setCell ⟨w.heap.size, 72, none⟩ (.int .u64 (n2 : Int)) = w3 at *
        clear hn2 hf2 bS2 bO2 hB2
        have hsl : ∀ w', (Instr.sliceAt 51 (.pointer (some ⟨w.heap.size, 8, none⟩)) none none none).run Tryd.prog w' = .ok (.slice (some ⟨w.heap.size, 8, none⟩) 64 64) w' := fun w' => run_slice_arr (w := w') ar51 sz5 w.heap.size 8 none none 0 64 rfl rfl (by omega) (by omega) (by omega)
        have hw1 := strmVals_words (s := s1) (held := held2) (n := n2)
        have hh1 := strmVals_held (s := s1) (n := n2) hl2.out
        have hl8 : (wordVals s1.list).length = 8 := rfl
        have hrd : Rd w3.drew (some ⟨w.heap.size, 8, none⟩) 64 64 1 (byteVals held2) := ⟨by rw [byteVals_length, hl2.out], by omega, by unfold maxLen; omega, fun h => by (cases h), fun ad ha j u hu => by
          simp only [Option.some.injEq] at ha; subst ha
          rw [← hh1] at hu; exact Blk.part bS3.drew 8 64 j u hu⟩
        have hz3 := hB3.size
        have hcall := compress_any s1 held2 (some ⟨w.heap.size, 8, none⟩) 64 w3.drew hrd (Kons.below hK hB3.drew (Nat.le_refl _)) (by show 2 < w3.heap.size; omega)
        obtain ⟨s2, Hs2⟩ : ∃ x, Box (comp s1 held2 = x) := ⟨_, ⟨rfl⟩⟩
        rw [Hs2.out] at hcall hE
        have hst2 := strmVals_state (s := s1) (t := s2) (held := held2) (n := n2)
        have hl9 : (wordVals s2.list).length = 8 := rfl
        have h19 := Box.mk (wordVals_one s2.list)
        generalize wordVals s2.list = ws2 at *
        generalize wordVals s1.list = ws at *
        have hln := Box.mk (strmVals_length (s := s1) (n := n2) hl2.out)
        refine wp_region_held_drew (S := fun _ => True) (by kernel_rfl) trivial (fun _ => ?_)
        refine wpAnyH_take (i := 0) (v := ?_) rfl (by kernel_rfl) (by kernel_rfl) (by kernel_rfl) (fun _ _ _ h => h) (yieldsIf_val (by rfl) (fun w' _ => ?_)) trivial ?_
        rotate_left
        · go_simp
          all_goals with_reducible rfl
        refine wpAnyH_take (i := 2) (v := ?_) rfl (by kernel_rfl) (by kernel_rfl) (by kernel_rfl) (fun _ _ _ h => h) (yieldsIf_val (by rfl) (fun w' _ => ?_)) trivial ?_
        rotate_left
        · go_simp
          all_goals with_reducible rfl
        refine wpAnyH_take (i := 3) (v := ?_) rfl (by kernel_rfl) (by kernel_rfl) (by kernel_rfl) (fun _ _ _ h => h) (yieldsIf_val (by rfl) (fun w' _ => ?_)) trivial ?_
        rotate_left
        · go_simp
          all_goals with_reducible rfl
        conv =>
          arg 8
          simp [go_sem]
        refine wpAnyH_ready (rs := [1]) (by kernel_rfl) (by simp) (AllReadyH.cons rfl (fun K' hK' => oper_load_agg (by rfl) 50 (.tmp 31) rfl agg50 rfl (cs := ws) hl8 (by rw [← hw1]; exact Blk.part bS3.drew 0 8) (hK'.out _ _ trivial (fun _ => ?_))) AllReadyH.nil)
        conv =>
          arg 8
          simp [go_sem]
        refine wpAnyH_ready (rs := [4]) (by kernel_rfl) (by simp) (AllReadyH.cons rfl (fun K' hK' => oper_call (by rfl) 47 [.tmp 32, .tmp 34] #[50, 22] rfl (vs := [.agg ws.toArray, .slice (some ⟨w.heap.size, 8, none⟩) 64 64]) rfl Tryd.func47 nm47 bd47 hcall ?_) AllReadyH.nil)
        rintro e w4 ⟨rfl, hb4⟩
        have bS4 := bS3.drew.call0 hb4
        have bO4 := bO3.drew.call0 hb4
        have hB4 := hB3.drew.call0 (Nat.le_refl _) hb4
        clear bS3 bO3 hB3 hb4 hrd hcall
        refine ⟨_, rfl, hK'.out _ _ trivial (fun _ => ?_)⟩
        clear hK' K'
        refine wpAnyH_take (i := 5) (v := ?_) rfl (by kernel_rfl) (by kernel_rfl) (by kernel_rfl) (fun _ _ _ h => h) (yieldsIf_val (by rfl) (fun w' _ => ?_)) trivial ?_
        rotate_left
        · go_simp
          all_goals with_reducible rfl
        conv =>
          arg 8
          simp [go_sem]
        refine wpAnyH_ready (rs := [6]) (by kernel_rfl) (by simp) (AllReadyH.cons rfl (fun K' hK' => oper_store_part (by rfl) 50 (.tmp 36) (.tmp 35) rfl rfl agg50.info bS4 (by rw [hln.out]; omega) rfl (cs := ws2) rfl hl9 h19.out (hK'.out _ _ trivial (fun _ => ?_))) AllReadyH.nil)
        rw [hst2]
        refine ⟨by kernel_rfl, ?_⟩
        go_wp2_with fail
        go_roundw
        case rel => exact ⟨dn ++ rest.take k, rest.drop k, s2, held2, n2, rfl, HD2, by rw [HDL.out]; omega, ⟨by rw [← List.append_assoc]; exact hE.out⟩, bS4.row _, bO4.rowOther (by omega) _, below_setRow hB4 (Nat.le_refl _) _⟩
        case measure => simp [HDL.out, ByteArray.size]; omega
      · have hE := Box.mk (HA.out.part (rest.take k) (by rw [hfm, hp]; omega))
        rw [hfm, hp, Hh2.out, Hn2.out] at hE
        have htest : ((f : Int) + (k : Int) == 64) = false := by simp; omega
        clear hp hful hfm
        have HDL := Box.mk hdl; clear hdl
        go_wp2_with (first
          | ((with_reducible show wpList _ _ _ _ _ _); refine wpList_slice_arr (o := ⟨some 15, _, _, _, _, _⟩) rfl 51 (.tmp 13) (some (.tmp 14)) none rfl ar51 sz5 rfl (some (f : Int)) none rfl rfl f 64 rfl rfl (by omega) (by omega) (by omega) ?_; rw [Nat.mul_one])
          | ((with_reducible show wpList _ _ _ _ _ _); refine wpList_copy_str (o := ⟨some 17, _, _, _, _, _⟩) rfl (.tmp 15) (.tmp 16) 22 9 rfl sl22.ht sz5 (off := 8 + f) rfl rfl bS Hk.out (by rw [k0.out]; omega) ?_; rw [hcp.out]; clear hn bS bO hB; generalize wr.setRow w.heap.size (strmVals s1 held2 n1).toArray = w2 at *))
        go_roundw
        case rel => exact ⟨dn ++ rest.take k, rest.drop k, s1, held2, n2, rfl, HD2, by rw [HDL.out]; omega, ⟨by rw [← List.append_assoc]; exact hE.out⟩, bS3, bO3, hB3⟩
        case measure => simp [HDL.out, ByteArray.size]; omega
end Go.Proofs.YtcngnpkpaliflaaDoor
