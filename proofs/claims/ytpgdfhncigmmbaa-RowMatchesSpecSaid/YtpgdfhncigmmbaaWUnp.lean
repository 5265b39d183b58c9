/-
  The walk of row.Unpack. No condition.
-/
import Derived.Test.YtpgdfhncigmmbaaWIdx
namespace Go.Proofs.Ytpgdfhncigmmbaa
open Go.RowKit

theorem sl_u8 : SlT Try.prog 75 5 (.int .u8 0) 1 1 := ⟨by kernel_rfl, by kernel_rfl, rfl⟩
theorem rdB_lt {l : List Int} {k m : Nat} (h : rdB l k = none) (hk : k ≤ m) : rdB l m = none := by
  induction m with
  | zero => obtain rfl : k = 0 := by omega
            exact h
  | succ m ih =>
    by_cases e : k = m + 1
    · subst e; exact h
    · unfold rdB; rw [ih (by omega)]; rfl
theorem rdB_stop {l lk : List Int} {b : List UInt8} {k : Nat} (h : rdB l k = some (b, lk)) (hw : rdW lim40 lk = none) : rdB l (k + 1) = none := by
  unfold rdB; rw [h]; simp [hw]
theorem rdB_next {l lk l' : List Int} {b : List UInt8} {k : Nat} {m : Int} (h : rdB l k = some (b, lk)) (hw : rdW lim40 lk = some (m, l')) : rdB l (k + 1) = some (b ++ bytesTo m 5, l') := by
  unfold rdB; rw [h]; simp [hw]
theorem rdT_none {l : List Int} {n k : Nat} (h : rdB l k = none) (hk : k ≤ nWords n) : rdT n l = none := by
  unfold rdT; rw [rdB_lt h hk]; rfl
theorem rdB_drop {l : List Int} : ∀ {k : Nat} {p : List UInt8 × List Int}, rdB l k = some p → k ≤ l.length ∧ p.2 = l.drop k
  | 0, p, h => by simp only [rdB, Option.some.injEq] at h; subst h; simp
  | k + 1, p, h => by
    unfold rdB at h
    obtain ⟨q, h1, h2⟩ := Option.bind_eq_some_iff.1 h
    obtain ⟨r, h3, rfl⟩ := Option.map_eq_some_iff.1 h2
    obtain ⟨i1, i2⟩ := rdB_drop h1
    obtain ⟨h4, _, _⟩ := rdW_some h3
    rw [i2] at h4
    have h5 : l.length - k = r.2.length + 1 := by
      have := congrArg List.length h4
      simpa using this
    refine ⟨by omega, ?_⟩
    show r.2 = _
    have := congrArg (List.drop 1) h4
    rw [List.drop_drop] at this
    simpa [Nat.add_comm] using this.symm
theorem rdB_short {l : List Int} {k : Nat} (h : l.length < k) : rdB l k = none := by
  cases hb : rdB l k with
  | none => rfl
  | some p => have := (rdB_drop hb).1; omega
theorem rdT_any {l lk : List Int} {b : List UInt8} {n : Nat} (h : rdB l (nWords n) = some (b, lk)) (hz : (b.drop n).any nzB = true) : rdT n l = none := by
  unfold rdT; rw [h]
  simp only [Option.bind_some]
  rw [if_neg]
  intro hall
  obtain ⟨x, hx, hx2⟩ := List.any_eq_true.1 hz
  have := List.all_eq_true.1 hall x hx
  unfold nzB at hx2
  simp at this hx2
  rw [this] at hx2; exact hx2 rfl
theorem rdT_fine {l lk : List Int} {b : List UInt8} {n : Nat} (h : rdB l (nWords n) = some (b, lk)) (hz : (b.drop n).any nzB = false) : rdT n l = some (b.take n, lk) := by
  unfold rdT; rw [h]
  simp only [Option.bind_some]
  rw [if_pos]
  rw [List.all_eq_true]
  intro x hx
  have := List.any_eq_false.1 hz x hx
  unfold nzB at this
  simpa using this

/-- What Unpack reads. -/
def unpackT (l : List Int) (m : Int) : Option (List UInt8) := if m < 0 then none else (rdT m.toNat l).map (·.1)
def unpackS (o : Option (List UInt8)) : List UInt8 := o.getD []
def unpackE (o : Option (List UInt8)) : Int := if o.isSome then 0 else 3
/-- A text and an error. -/
def RetU (o : Option (List UInt8)) (w : World) (e : Ending) (w' : World) : Prop := e = .returned (.tuple #[.string ⟨(unpackS o).toArray⟩, .int .i64 (unpackE o)]) ∧ Below w.heap.size w w'
theorem byteAt_int (m : Int) (j : Nat) (h : 0 ≤ m) : m / 2 ^ (8 * (4 - j)) % 256 = ((byteAt m j).toNat : Int) := by
  obtain ⟨M, rfl⟩ := Int.eq_ofNat_of_zero_le h
  unfold byteAt
  rw [Int.toNat_natCast, UInt8.toNat_ofNat', show (256 : Nat) ^ (4 - j) = 2 ^ (8 * (4 - j)) from by rw [Nat.pow_mul]]
  rw [show (2 : Nat) ^ 8 = 256 from rfl, Int.natCast_emod, Int.natCast_ediv, Int.natCast_pow]
  rfl
theorem rdW_out {lim n : Int} {l : List Int} (h : n < 0 ∨ lim ≤ n) : rdW lim (n :: l) = none := by
  simp only [rdW]; rw [if_pos h]
theorem unpack_none {l : List Int} {M : Nat} {O : Option (List UInt8)} (h : O = (rdT M l).map (·.1)) (h2 : rdT M l = none) : O = none := by rw [h, h2]; rfl
theorem unpack_some {l lk : List Int} {b : List UInt8} {M : Nat} {O : Option (List UInt8)} (h : O = (rdT M l).map (·.1)) (h2 : rdT M l = some (b, lk)) : O = some b := by rw [h, h2]; rfl
theorem rd_at_drop {l lk : List Int} {b : List UInt8} {k : Nat} (h : rdB l k = some (b, lk)) (hk : k < l.length) : lk = l.getD k 0 :: l.drop (k + 1) := by
  have := (rdB_drop h).2
  rw [show lk = l.drop k from this, List.drop_eq_getElem_cons hk, List.getD_eq_getElem?_getD, List.getElem?_eq_getElem hk]; rfl

set_option maxRecDepth 20000 in
set_option maxHeartbeats 4000000 in
theorem unpack_any {l : List Int} {m : Int} {a : Option Addr} {n c : Nat} {w : World} (hr : Rd w a n c 1 (intVals l)) (hl : n ≤ 1000) (hm : m ≤ 9223372036854775807) : Calls Try.prog 21 #[.slice a n c, .int .i64 m] w (RetU (unpackT l m) w) := by
  generalize hO : unpackT l m = O
  have HO := Box.mk hO
  clear hO
  have hln := hr.ilen
  have hcap := hr.hcap
  have HR := Box.mk hr
  clear hr
  by_cases hm0 : m < 0
  · have hX := HO.out.symm.trans (if_pos hm0)
    subst hX
    go_enter Try.func21, Try.ntmps21
    go_wp2_with fail
    go_ret2
    exact ⟨rfl, Below.refl _ _⟩
  · obtain ⟨M, rfl⟩ := Int.eq_ofNat_of_zero_le (show 0 ≤ m by omega)
    have HM := Box.mk (show O = (rdT M l).map (·.1) from HO.out.symm.trans (if_neg hm0))
    clear HO hm0
    have hM0 : 0 ≤ (M : Int) := by omega
    by_cases hM5 : n < M / 5
    · have hX := unpack_none HM.out (rdT_none (k := M / 5) (rdB_short (by omega)) (by unfold nWords; omega))
      subst hX
      have ht : (n : Int) < (M : Int) / 5 := by omega
      go_enter Try.func21, Try.ntmps21
      go_wp2_with fail
      go_ret2
      exact ⟨rfl, Below.refl _ _⟩
    · have ht : (M : Int) / 5 ≤ (n : Int) := by omega
      have hMs : M ≤ 6000 := by omega
      have HL := Box.mk (fun w => long_any M (by omega) w)
      have hNW : nWords M ≤ 1300 := by unfold nWords; omega
      have HNW := Box.mk (show nWords M = (M + 4) / 5 from rfl)
      go_enter Try.func21, Try.ntmps21
      go_wp2_with fail
      refine (HL.out _).mono ?_
      rintro e w1 ⟨rfl, rfl⟩
      by_cases hN : n < nWords M
      · have hX := unpack_none HM.out (rdT_none (k := nWords M) (rdB_short (by omega)) (Nat.le_refl _))
        subst hX
        have ht2 : (n : Int) < (nWords M : Int) := by omega
        generalize nWords M = N at *
        go_wp2_with fail
        go_ret2
        exact ⟨rfl, Below.refl _ _⟩
      · have hN2 : nWords M ≤ n := by omega
        have ht2 : (nWords M : Int) ≤ (n : Int) := by omega
        obtain ⟨N, hNN⟩ : ∃ N, N = nWords M := ⟨_, rfl⟩
        rw [← hNN] at HL hNW HNW hN hN2 ht2 ⊢
        have HNN := Box.mk hNN
        clear hNN hN
        have hN0 : 0 ≤ (N : Int) := by omega
        have HP := Box.mk (HR.out.pre N hN2)
        rw [show (intVals l).take N = intVals (l.take N) from by simp [intVals, List.map_take]] at HP
        go_wp2_with fail
        refine (HL.out _).mono ?_
        rintro e w2 ⟨rfl, rfl⟩
        go_wp2_with fail
        go_loopw [6, 31] (fun v i wr => ∃ (k : Nat) (a2 : Option Addr) (c2 : Nat) (b : List UInt8) (lk : List Int), k ≤ N ∧ i = .int .i64 k ∧ v = .slice a2 (5 * k) c2 ∧ Box (rdB l k = some (b, lk) ∧ wr.ownsRow w2.heap.size 5 1 (.slice a2 (5 * k) c2) (5 * k) (byteVals b) ∧ Below w2.heap.size w2 wr)) (fun _ i _ => N - (intOf i).toNat)
        case atStart => exact ⟨0, none, 0, [], l, Nat.zero_le _, rfl, rfl, ⟨rfl, World.ownsRow_nil _ _ _ _, Below.refl _ _⟩⟩
        case round =>
          obtain ⟨k, a2, c2, b, lk, hk, rfl, rfl, HB⟩ := hrel
          by_cases hlt : k < N
          · have hkl : k < l.length := by omega
            obtain ⟨g, off, rfl, hc⟩ := (HR.out.below HB.out.2.2 (Nat.le_refl _)).intAtD k (by omega)
            have HLK := Box.mk (rd_at_drop HB.out.1 hkl)
            generalize l.getD k 0 = x at *
            by_cases hx0 : x < 0
            · have hX := unpack_none HM.out (rdT_none (rdB_stop HB.out.1 (by rw [HLK.out]; exact rdW_out (.inl hx0))) (by have := HNN.out; omega))
              subst hX
              go_wp2_with fail
              go_ret2
              exact ⟨rfl, HB.out.2.2⟩
            · have hx1 : 0 ≤ x := by omega
              by_cases hx2 : 1099511627775 < x
              · have hX := unpack_none HM.out (rdT_none (rdB_stop HB.out.1 (by rw [HLK.out]; exact rdW_out (.inr (by unfold lim40; omega)))) (by have := HNN.out; omega))
                subst hX
                clear hx0
                go_wp2_with fail
                go_ret2
                exact ⟨rfl, HB.out.2.2⟩
              · have hx3 : x ≤ 1099511627775 := by omega
                have HNX := Box.mk (rdB_next HB.out.1 (show rdW lim40 lk = some (x, l.drop (k + 1)) from by rw [HLK.out]; exact rdW_cons hx1 (by unfold lim40; omega)))
                obtain ⟨p, hp⟩ : ∃ p, p = 5 * k := ⟨_, rfl⟩
                rw [← hp] at HB ⊢
                have HPP := Box.mk hp
                have hpn : p ≤ 7000 := by omega
                clear hp hx0 hx2 HLK
                go_wp2_with fail
                go_loopw [6, 41] (fun v i wr2 => ∃ (j : Nat) (a3 : Option Addr) (c3 : Nat), j ≤ 5 ∧ i = .int .i64 (j : Int) ∧ v = .slice a3 (p + j) c3 ∧ Box (wr2.ownsRow w2.heap.size 5 1 (.slice a3 (p + j) c3) (p + j) (byteVals (b ++ bytesTo x j)) ∧ Below w2.heap.size w2 wr2)) (fun _ i _ => 5 - (intOf i).toNat)
                case atStart => exact ⟨0, a2, c2, by omega, rfl, rfl, ⟨by simpa [bytesTo] using HB.out.2.1, HB.out.2.2⟩⟩
                case round =>
                  obtain ⟨j, a3, c3, hj, rfl, rfl, H2⟩ := hrel
                  by_cases hj5 : j < 5
                  · have hq1 : 0 ≤ 4 - (j : Int) := by omega
                    obtain ⟨ho, hb2⟩ := H2.out
                    have hsz := hb2.size
                    go_wp2_with (at_builtin; refine wpList_append_src rfl _ _ 75 75 rfl sl_u8 (.inl sl_u8.ht) rfl (ho.alloc _) rfl (Src.oneNew _ _ _ rfl) (by omega) (by unfold maxLen; omega) (by simp; omega) ?_; intro a4 cap4 w4 hown4 hgr4 _)
                    refine ⟨⟨j + 1, a4, cap4, by omega, by go_num, rfl, ⟨?_, ?_⟩⟩, ?_⟩
                    · have hb : Value.int IntKind.u8 (x / 2 ^ (8 * (4 - j)) % 256) = .int .u8 ((byteAt x j).toNat : Nat) := by rw [byteAt_int x j hx1]
                      rw [bytesTo_succ, ← List.append_assoc, byteVals_snoc, ← hb]
                      exact hown4
                    · exact below_grown (hb2.alloc (by omega) _) hgr4 (ho.alloc _) (Nat.le_refl _) (by simp; omega)
                    · simp [intOf]; omega
                  · obtain rfl : j = 5 := by omega
                    go_wp2_with fail
                    have hp := HPP.out
                    have e5 : p + 5 = 5 * (k + 1) := by omega
                    obtain ⟨ho, hb2⟩ := H2.out
                    rw [e5] at ho ⊢
                    refine ⟨⟨k + 1, a3, c3, _, _, by omega, by go_num, rfl, ⟨HNX.out, ho, hb2⟩⟩, ?_⟩
                    simp [intOf]; omega
          · obtain rfl : k = N := by omega
            have hk2 := HNN.out
            obtain ⟨q, hq⟩ : ∃ q, q = 5 * k := ⟨_, rfl⟩
            rw [← hq] at HB ⊢
            have hq2 : q ≤ 7000 := by omega
            have hMq : M ≤ q := by have := HNW.out; omega
            rw [hk2] at HB
            have HQ := Box.mk hq
            clear hk2 hq
            have hrd := Rd.ofOwn HB.out.2.1
            have hcap2 := hrd.hcap
            have hcm := hrd.hmax
            unfold maxLen at hcm
            have hbl := hrd.blen
            have hMq' : (M : Int) ≤ (q : Int) := by omega
            obtain ⟨a', ha', hsub⟩ := hrd.subAt M q hMq (Nat.le_refl _)
            have hl2 : (List.drop M (byteVals b)).take (q - M) = byteVals (b.drop M) := by
              rw [List.take_of_length_le (by rw [List.length_drop, byteVals_length]; omega)]
              simp [byteVals, List.map_drop]
            rw [hl2] at hsub
            have HS := Box.mk hsub
            have HPR := Box.mk (hrd.pre M hMq)
            rw [show (byteVals b).take M = byteVals (b.take M) from by simp [byteVals, List.map_take]] at HPR
            have hmf : ∀ (fn : Fn) (first cap : Array Value) (w : World), (Instr.makeFunc fn first cap).run Try.prog w = .ok (.func fn first cap) w := fun _ _ _ _ => rfl
            have eg : ∀ args w, (callFunc 46 args).run Try.prog w = .ok (.enter 46 args) w := enters_fn Try.func46 (by kernel_rfl) (by kernel_rfl)
            clear hsub hl2 hrd HP
            go_wp2_with fail
            refine (bcontains_any nzB _ _ eg _ _ _ _ _ HS.out (nz_pred _)).mono ?_
            rintro e w5 ⟨rfl, hb5⟩
            have HB5 := Box.mk (HB.out.2.2.trans (hb5.mono HB.out.2.2.size))
            have HP5 := Box.mk (HPR.out.call0 hb5)
            clear hb5
            cases hz : (b.drop M).any nzB with
            | true =>
              have hX := unpack_none HM.out (rdT_any HB.out.1 hz)
              subst hX
              clear hz
              go_wp2_with fail
              go_ret2
              exact ⟨rfl, HB5.out⟩
            | false =>
              have hX := unpack_some HM.out (rdT_fine HB.out.1 hz)
              subst hX
              have hcv := run_string_rd (P := Try.prog) (src := 75) (dst := 9) (e := 5) (by kernel_rfl) (by kernel_rfl) (by kernel_rfl) HP5.out
              clear hz HPR HS
              go_wp2_with fail
              go_ret2
              exact ⟨rfl, HB5.out⟩
end Go.Proofs.Ytpgdfhncigmmbaa
