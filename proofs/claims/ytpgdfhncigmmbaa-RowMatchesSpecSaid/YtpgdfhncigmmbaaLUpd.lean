/-
  Plain laws of Update and Diff; the walk of RowUpdates. No condition.
-/
import Derived.Test.YtpgdfhncigmmbaaLGrw
import Derived.Deep.CutBlock
import Derived.Deep.CutRange
namespace Go.Proofs.Ytpgdfhncigmmbaa
open Go.RowKit

theorem upd_inv {T : Tab} {r vals : List Val} {cols : List Int} (h : updE T r cols vals = 0) : cols.length = vals.length ∧ (∀ k, k < cols.length → placeB r.length (cols.getD k 0) = true) ∧ (∀ k, k < cols.length → cols.getD k 0 ∉ cols.take k) ∧ fitsT T (updUp r cols vals cols.length) = 0 ∧ updR T r cols vals = updUp r cols vals cols.length := by
  have hR : updR T r cols vals = updUp r cols vals cols.length := if_pos h
  unfold updE at h
  by_cases h1 : cols.length ≠ vals.length ∨ cols.any (fun k => !placeB r.length k) = true
  · rw [if_pos h1] at h; cases h
  · rw [if_neg h1] at h
    by_cases h2 : twiceB cols = true
    · rw [if_pos h2] at h; cases h
    · rw [if_neg h2] at h
      refine ⟨Decidable.not_not.1 (fun e => h1 (.inl e)), fun k hk => ?_, fun k hk hm => h2 ?_, h, hR⟩
      · have h3 : cols.any (fun k => !placeB r.length k) = false := by
          cases hh : cols.any (fun k => !placeB r.length k) with
          | false => rfl
          | true => exact absurd (.inr hh) h1
        have := List.any_eq_false.1 h3 (cols.getD k 0) (by rw [List.getD_eq_getElem?_getD, List.getElem?_eq_getElem hk]; exact List.getElem_mem hk)
        simpa using this
      · unfold twiceB
        rw [List.any_eq_true]
        exact ⟨k, List.mem_range.2 hk, decide_eq_true hm⟩
theorem upd_err {T : Tab} {r vals : List Val} {cols : List Int} (h : updE T r cols vals ≠ 0) : updR T r cols vals = [] := if_neg h
theorem mem_take_getD {l : List Int} {i k : Nat} (h : i < k) (hk : i < l.length) : l.getD i 0 ∈ l.take k := by
  rw [List.getD_eq_getElem?_getD, List.getElem?_eq_getElem hk, Option.getD_some]
  exact List.mem_take_iff_getElem.2 ⟨i, by omega, rfl⟩
theorem updUp_get {r vals : List Val} {cols : List Int} (hp : ∀ k, k < cols.length → placeB r.length (cols.getD k 0) = true) (ht : ∀ k, k < cols.length → cols.getD k 0 ∉ cols.take k) : ∀ k, k ≤ cols.length → ∀ i, i < k → (updUp r cols vals k).getD (cols.getD i 0).toNat default = vals.getD i default
  | 0, _, i, hi => absurd hi (by omega)
  | k + 1, hk, i, hi => by
    have hl := updUp_len r cols vals k
    obtain ⟨p0, p1⟩ := placeB_true (hp k (by omega))
    show ((updUp r cols vals k).set (cols.getD k 0).toNat (vals.getD k default)).getD _ default = _
    rw [List.getD_eq_getElem?_getD, List.getElem?_set]
    by_cases e : i = k
    · subst e
      rw [if_pos rfl, if_pos (by rw [hl]; omega)]; rfl
    · obtain ⟨q0, q1⟩ := placeB_true (hp i (by omega))
      rw [if_neg (fun hh => ht k (by omega) (by
        have : cols.getD k 0 = cols.getD i 0 := by omega
        rw [this]; exact mem_take_getD (by omega) (by omega)))]
      rw [← List.getD_eq_getElem?_getD]
      exact updUp_get hp ht k (by omega) i (by omega)
theorem updUp_other {r vals : List Val} {cols : List Int} {j : Nat} : ∀ k, (∀ i, i < k → (cols.getD i 0).toNat ≠ j) → (updUp r cols vals k).getD j default = r.getD j default
  | 0, _ => rfl
  | k + 1, h => by
    show ((updUp r cols vals k).set (cols.getD k 0).toNat (vals.getD k default)).getD j default = _
    rw [List.getD_eq_getElem?_getD, List.getElem?_set, if_neg (h k (by omega)), ← List.getD_eq_getElem?_getD]
    exact updUp_other k (fun i hi => h i (by omega))
theorem upd_proj {r vals : List Val} {cols : List Int} (hl : cols.length = vals.length) (hp : ∀ k, k < cols.length → placeB r.length (cols.getD k 0) = true) (ht : ∀ k, k < cols.length → cols.getD k 0 ∉ cols.take k) : projE (updUp r cols vals cols.length) cols = 0 ∧ projR (updUp r cols vals cols.length) cols = vals := by
  obtain ⟨h1, h2⟩ := proj_good (r := updUp r cols vals cols.length) (cols := cols) (fun k hk => by rw [updUp_len]; exact hp k hk)
  refine ⟨h1, ?_⟩
  rw [h2]
  unfold projL
  refine List.ext_getElem (by rw [List.length_map]; exact hl) fun i hi1 hi2 => ?_
  rw [List.length_map] at hi1
  rw [List.getElem_map]
  have := updUp_get (vals := vals) hp ht cols.length (Nat.le_refl _) i hi1
  rw [getD_eq hi2, List.getD_eq_getElem?_getD (l := cols), List.getElem?_eq_getElem hi1, Option.getD_some] at this
  exact this
theorem diffUp_mem {a b : List Val} : ∀ {k : Nat} {x : Int}, x ∈ diffUp a b k → ∃ j : Nat, j < k ∧ x = (j : Int) ∧ difB a b j = true
  | 0, x, h => by simp [diffUp] at h
  | k + 1, x, h => by
    cases hd : difB a b k with
    | true =>
      rw [diffUp_hit hd, List.mem_append, List.mem_singleton] at h
      rcases h with h | h
      · obtain ⟨j, h1, h2, h3⟩ := diffUp_mem h; exact ⟨j, by omega, h2, h3⟩
      · exact ⟨k, by omega, h, hd⟩
    | false =>
      rw [diffUp_miss hd] at h
      obtain ⟨j, h1, h2, h3⟩ := diffUp_mem h; exact ⟨j, by omega, h2, h3⟩
theorem diffUp_sorted (a b : List Val) : ∀ k, (diffUp a b k).Pairwise (· < ·)
  | 0 => by simp [diffUp]
  | k + 1 => by
    cases hd : difB a b k with
    | true =>
      rw [diffUp_hit hd, List.pairwise_append]
      refine ⟨diffUp_sorted a b k, by simp, fun x hx y hy => ?_⟩
      obtain ⟨j, h1, rfl, _⟩ := diffUp_mem hx
      rw [List.mem_singleton] at hy
      omega
    | false => rw [diffUp_miss hd]; exact diffUp_sorted a b k
theorem diffR_step {a b : List Val} {i : Nat} (h : i + 1 < (diffR a b).length) : (diffR a b).getD i 0 < (diffR a b).getD (i + 1) 0 := by
  have hs := diffUp_sorted a b (max a.length b.length)
  rw [List.pairwise_iff_getElem] at hs
  have := hs i (i + 1) (by show i < (diffR a b).length; omega) h (by omega)
  rw [List.getD_eq_getElem?_getD, List.getD_eq_getElem?_getD, List.getElem?_eq_getElem h, List.getElem?_eq_getElem (show i < (diffR a b).length by omega)]
  exact this
/-- Each place in which the row differs from the one that Update has made is one of the places. -/
theorem upd_diff {r vals : List Val} {cols : List Int} (hp : ∀ k, k < cols.length → placeB r.length (cols.getD k 0) = true) {i : Nat} (hi : i < (diffR r (updUp r cols vals cols.length)).length) : ∃ Y : Nat, (diffR r (updUp r cols vals cols.length)).getD i 0 = (Y : Int) ∧ Y < r.length ∧ (Y : Int) ∈ cols := by
  have hm : (diffR r (updUp r cols vals cols.length)).getD i 0 ∈ diffR r (updUp r cols vals cols.length) := by
    rw [List.getD_eq_getElem?_getD, List.getElem?_eq_getElem hi]; exact List.getElem_mem hi
  obtain ⟨Y, h1, h2, h3⟩ := diffUp_mem hm
  rw [updUp_len, Nat.max_self] at h1
  refine ⟨Y, h2, h1, ?_⟩
  by_cases hmem : (Y : Int) ∈ cols
  · exact hmem
  · have ho := updUp_other (r := r) (vals := vals) (cols := cols) (j := Y) cols.length (fun k hk e => hmem (by
      obtain ⟨p0, _⟩ := placeB_true (hp k hk)
      have : (Y : Int) = cols.getD k 0 := by omega
      rw [this, List.getD_eq_getElem?_getD, List.getElem?_eq_getElem hk]; exact List.getElem_mem hk))
    unfold difB at h3
    rw [decide_eq_false (by omega), decide_eq_false (by rw [updUp_len]; omega), ho] at h3
    simp at h3
theorem project_is {r : List Val} {cols : List Int} {L : List Val} {m' : Nat} {e : Int} (h1 : projR r cols = L) (h2 : projE r cols = e) (h3 : L.length = m') {a b : Option Addr} {n c m d : Nat} {w : World} (hr : Rd w a n c 3 (recC Val.enc r)) (hc : Rd w b m d 1 (intVals cols)) (hm : m ≤ 1000) : Calls Try.prog 24 #[.slice a n c, .slice b m d] w (RetREm L m' e w) := by
  subst h1; subst h2; subst h3; exact project_any hr hc hm

/-- What RowUpdates keeps. -/
structure USt (w wr : World) (X : TabP) (ax : Option Addr) (nx cx : Nat) (x : List Val) (ap : Option Addr) (np cp : Nat) (p : List Val) (ad : Option Addr) (nd cd : Nat) (D : List Int) : Prop where
  t : TabIn w wr w.heap.size X
  x : Rd wr ax nx cx 3 (recC Val.enc x)
  p : Rd wr ap np cp 3 (recC Val.enc p)
  d : Rd wr ad nd cd 1 (intVals D)
theorem USt.step {w wr w' : World} {X : TabP} {ax : Option Addr} {nx cx : Nat} {x : List Val} {ap : Option Addr} {np cp : Nat} {p : List Val} {ad : Option Addr} {nd cd : Nat} {D : List Int} (h : USt w wr X ax nx cx x ap np cp p ad nd cd D) (hb : Below wr.heap.size wr w') : USt w w' X ax nx cx x ap np cp p ad nd cd D :=
  ⟨h.t.step hb, h.x.call0 hb, h.p.call0 hb, h.d.call0 hb⟩

set_option maxRecDepth 100000 in
set_option maxHeartbeats 8000000 in
theorem updates_walk {X : TabP} {r vals : List Val} {cols : List Int} {a b v : Option Addr} {n c m d p q : Nat} {w : World} (hX : TabRd w X) (hr : Rd w a n c 3 (recC Val.enc r)) (hc : Rd w b m d 1 (intVals cols)) (hv : Rd w v p q 3 (recC Val.enc vals)) : Calls Try.prog 8 #[X.v, .slice a n c, .slice b m d, .slice v p q] w (RetV (.bool true) w) := by
  have hln := hr.rlen Val.enc_len (by omega)
  have hlm := hc.ilen
  have hlp := hv.rlen Val.enc_len (by omega)
  have hnm := hr.lenMax
  have hmm := hc.lenMax
  have hpm := hv.lenMax
  have T1 := Box.mk (TabIn.start hX)
  have HR := Box.mk hr
  have HC := Box.mk hc
  have HV' := Box.mk hv
  clear hX hr hc hv
  unfold TabP.cs at T1
  unfold TabP.v
  have u0 := T1.out.c0
  have u1 := T1.out.c1
  have u2 := T1.out.c2
  have u3 := T1.out.c3
  generalize hV : validT X.t [⟨a, c, r⟩, ⟨v, q, vals⟩] = dd
  have HV := Box.mk hV
  clear hV
  go_enter Try.func8, Try.ntmps8
  go_upto_region 1 with fail
  generalize (w.alloc (.cells #[.string ⟨X.name.toArray⟩, .slice X.ca X.cols.length X.cc, .slice X.ia X.ixs.length X.ic, .slice X.ha X.chks.length X.hc] 26)) = W at *
  have T2 := Box.mk (T1.out.alloc (.cells #[.slice a n c, .slice v p q] 28))
  have R2 := Box.mk (Blk.new (w := W) (k := W.heap.size) (ty := 28) (cs := [.slice a n c, .slice v p q]) rfl rfl)
  clear T1
  go_wp2_with fail
  clear u0 u1 u2 u3
  generalize (W.alloc (.cells #[.slice a n c, .slice v p q] 28)) = w2 at *
  refine (valid2_is HV.out T2.out.rd (HR.out.below T2.out.below (Nat.le_refl _)) (HV'.out.below T2.out.below (Nat.le_refl _)) R2.out).mono ?_
  rintro e w3 ⟨rfl, hb3⟩
  have T3 := Box.mk (T2.out.step hb3)
  clear hb3 T2 R2
  cases dd with
  | false =>
    go_wp2_with fail
    refine (sanity_any w3).mono ?_
    rintro e w4 ⟨rfl, hb4⟩
    have T4 := Box.mk (T3.out.step hb4)
    clear hb4
    go_wp2_with fail
    go_ret
    exact ⟨rfl, T4.out.below⟩
  | true =>
    obtain ⟨_, hck, hrt⟩ := validT_true HV.out
    obtain ⟨hok, h20⟩ := rightB_true (hrt ⟨a, c, r⟩ (by simp))
    obtain ⟨hok2, h202⟩ := rightB_true (hrt ⟨v, q, vals⟩ (by simp))
    have HOK := Box.mk (And.intro hck (And.intro hok hok2))
    have hn20 : n ≤ 20 := by rw [← hln]; exact h20
    have hp20 : p ≤ 20 := by rw [← hlp]; exact h202
    clear hck hok hrt h20 hok2 h202
    by_cases hm20 : 20 < m
    · go_wp2_with fail
      refine (sanity_any w3).mono ?_
      rintro e w4 ⟨rfl, hb4⟩
      have T4 := Box.mk (T3.out.step hb4)
      clear hb4
      go_wp2_with fail
      go_ret
      exact ⟨rfl, T4.out.below⟩
    · have hm20' : m ≤ 20 := by omega
      have u0 := T3.out.c0
      have u1 := T3.out.c1
      have u2 := T3.out.c2
      have u3 := T3.out.c3
      generalize hL : updR X.t r cols vals = L
      generalize hE : updE X.t r cols vals = E
      obtain ⟨lm, hlm'⟩ : ∃ lm, L.length = lm := ⟨_, rfl⟩
      have HEN := Box.mk (And.intro hL (And.intro hE hlm'))
      clear hL hE hlm'
      go_wp2_with fail
      refine (update_is HEN.out.1 HEN.out.2.1 HEN.out.2.2 T3.out.rd (HR.out.below T3.out.below (Nat.le_refl _)) (HC.out.below T3.out.below (Nat.le_refl _)) (HV'.out.below T3.out.below (Nat.le_refl _)) (by omega) (by omega)).mono ?_
      rintro e w4 ⟨hb4, a4, c4, rfl, hown4⟩
      have T4 := Box.mk (T3.out.step hb4)
      have R4 := Box.mk (Rd.ofOwn hown4)
      clear hb4 hown4 T3 u0 u1 u2 u3
      by_cases hE0 : E = 0
      · subst hE0
        obtain ⟨i1, i2, i3, i4, i5⟩ := upd_inv HEN.out.2.1
        have hLU : L = updUp r cols vals cols.length := HEN.out.1.symm.trans i5
        obtain ⟨j1, j2⟩ := upd_proj i1 i2 i3
        rw [← hLU] at j1 j2 i4
        have hlmn : lm = n := by rw [← HEN.out.2.2, hLU, updUp_len, hln]
        subst hlmn
        have HPJ := Box.mk (And.intro j1 (And.intro j2 i4))
        have HDF := Box.mk (fun (i : Nat) (hi : i < (diffR r L).length) => show ∃ Y : Nat, (diffR r L).getD i 0 = (Y : Int) ∧ Y < r.length ∧ (Y : Int) ∈ cols from by rw [hLU] at hi ⊢; exact upd_diff i2 hi)
        have HDS := Box.mk (fun (i : Nat) (hi : i + 1 < (diffR r L).length) => diffR_step hi)
        generalize hD : diffR r L = D at *
        obtain ⟨nd, hnd⟩ : ∃ nd, D.length = nd := ⟨_, rfl⟩
        have HDD := Box.mk (And.intro hD hnd)
        have hndb : nd ≤ 20 := by
          rw [← hnd, ← hD]
          have h1 : (diffR r L).length ≤ max r.length L.length := diffUp_len r L (max r.length L.length)
          have h2 : max r.length L.length = lm := by rw [HEN.out.2.2, hln, Nat.max_self]
          omega
        clear i1 i2 i3 i4 i5 hLU j1 j2 hD
        have tt : ((0 : Int) != 0) = false := rfl
        go_wp2_with fail
        refine (project_is HPJ.out.2.1 HPJ.out.1 hlp R4.out (HC.out.below T4.out.below (Nat.le_refl _)) (by omega)).mono ?_
        rintro e w5 ⟨hb5, a5, c5, rfl, hown5⟩
        have T5 := Box.mk (T4.out.step hb5)
        have R5 := Box.mk (R4.out.call0 hb5)
        have P5 := Box.mk (Rd.ofOwn hown5)
        clear hb5 hown5 T4 R4
        go_wp2_with fail
        refine (diff_is HDD.out.1 HDD.out.2 (HR.out.below T5.out.below (Nat.le_refl _)) R5.out (by omega) (by omega)).mono ?_
        rintro e w6 ⟨hb6, a6, c6, rfl, hown6⟩
        have U6 := Box.mk (USt.mk (T5.out.step hb6) (R5.out.call0 hb6) (P5.out.call0 hb6) (Rd.ofOwn hown6))
        clear hb6 hown6 T5 R5 P5
        go_wp2_with fail
        go_loopw [15] (fun i wr => ∃ k : Nat, k ≤ nd ∧ i = .int .i64 k ∧ Box (USt w wr X a4 lm c4 L a5 p c5 vals a6 nd c6 D)) (fun i _ => nd - (intOf i).toNat)
        case atStart => exact ⟨0, Nat.zero_le _, rfl, U6⟩
        case round =>
          clear U6
          obtain ⟨k, hk, rfl, HU⟩ := hrel
          by_cases hlt : k < nd
          · obtain ⟨Y, hY, hYr, hYm⟩ := HDF.out k (by omega)
            rw [hln] at hYr
            have HY := Box.mk (And.intro hY hYm)
            clear hY hYm
            go_wp2_with fail
            go_loopw [16, 17] (fun v i wr => ∃ j : Nat, j ≤ m ∧ i = .int .i64 j ∧ v = .bool (decide ((Y : Int) ∈ cols.take j)) ∧ Box (USt w wr X a4 lm c4 L a5 p c5 vals a6 nd c6 D)) (fun _ i _ => m - (intOf i).toNat)
            case atStart => exact ⟨0, Nat.zero_le _, rfl, by simp, HU⟩
            case round =>
              clear HU
              obtain ⟨j, hj, rfl, rfl, HU⟩ := hrel
              by_cases hltj : j < m
              · obtain ⟨gc, oc, rfl, hcc⟩ := (HC.out.below HU.out.t.below (Nat.le_refl _)).intAtD j hltj
                obtain ⟨gd, od, rfl, hcd⟩ := HU.out.d.intAtD k hlt
                rw [HY.out.1] at hcd
                have htk : cols.take (j + 1) = cols.take j ++ [cols.getD j 0] := by rw [List.take_add_one, List.getElem?_eq_getElem (by omega), List.getD_eq_getElem?_getD, List.getElem?_eq_getElem (by omega)]; rfl
                generalize cols.getD j 0 = z at *
                have HTK := Box.mk (show decide ((Y : Int) ∈ cols.take (j + 1)) = (decide ((Y : Int) ∈ cols.take j) || (z == (Y : Int))) from by
                  rw [htk, Bool.eq_iff_iff]
                  simp only [List.mem_append, List.mem_singleton, decide_eq_true_eq, Bool.or_eq_true, beq_iff_eq]
                  constructor
                  · rintro (h | h)
                    · exact .inl h
                    · exact .inr h.symm
                  · rintro (h | h)
                    · exact .inl h
                    · exact .inr h.symm)
                clear htk
                generalize decide ((Y : Int) ∈ cols.take j) = f0 at *
                go_upto_region 16 with fail
                have HS0 : USt w wr.drew X a4 lm c4 L a5 p c5 vals (some ⟨gd, od, none⟩) nd c6 D ∧ wr.drew.cell? ⟨gc, oc + j, none⟩ = some (.int .i64 z) ∧ wr.drew.cell? ⟨gd, od + k, none⟩ = some (.int .i64 (Y : Int)) := ⟨HU.out.step (Below.refl _ _).drew, hcc, hcd⟩
                clear HU hcc hcd
                cases f0 with
                | true =>
                  refine wp_region_held_drew (S := fun w' => USt w w' X a4 lm c4 L a5 p c5 vals (some ⟨gd, od, none⟩) nd c6 D ∧ w'.cell? ⟨gc, oc + j, none⟩ = some (.int .i64 z) ∧ w'.cell? ⟨gd, od + k, none⟩ = some (.int .i64 (Y : Int))) (by kernel_rfl) HS0 (fun _ => ?_)
                  refine wpAnyH_take (i := 0) (v := ?_) rfl (by kernel_rfl) (by kernel_rfl) (by kernel_rfl) (fun _ _ _ h => h) (yieldsIf_val (by rfl) (fun w' hS => ?_)) HS0 ?_
                  rotate_left
                  · skip
                    go_simp
                    all_goals with_reducible rfl
                  conv =>
                    arg 8
                    simp [go_sem]
                  refine wpAnyH_take (i := 1) (v := ?_) rfl (by kernel_rfl) (by kernel_rfl) (by kernel_rfl) (fun _ _ _ h => h) (yieldsIf_val (by rfl) (fun w' hS => ?_)) HS0 ?_
                  rotate_left
                  · skip
                    go_simp
                    all_goals with_reducible rfl
                  conv =>
                    arg 8
                    simp [go_sem]
                  refine wpAnyH_take (i := 2) (v := undef) rfl (by kernel_rfl) (by kernel_rfl) (by kernel_rfl) (fun _ _ _ h => h) (Or.inr ⟨by rfl, rfl⟩) HS0 ?_
                  conv =>
                    arg 8
                    simp [go_sem]
                  refine wpAnyH_take (i := 3) (v := undef) rfl (by kernel_rfl) (by kernel_rfl) (by kernel_rfl) (fun _ _ _ h => h) (Or.inr ⟨by rfl, rfl⟩) HS0 ?_
                  conv =>
                    arg 8
                    simp [go_sem]
                  refine wpAnyH_take (i := 4) (v := undef) rfl (by kernel_rfl) (by kernel_rfl) (by kernel_rfl) (fun _ _ _ h => h) (Or.inr ⟨by rfl, rfl⟩) HS0 ?_
                  conv =>
                    arg 8
                    simp [go_sem]
                  refine wpAnyH_take (i := 5) (v := undef) rfl (by kernel_rfl) (by kernel_rfl) (by kernel_rfl) (fun _ _ _ h => h) (Or.inr ⟨by rfl, rfl⟩) HS0 ?_
                  conv =>
                    arg 8
                    simp [go_sem]
                  refine wpAnyH_take (i := 6) (v := undef) rfl (by kernel_rfl) (by kernel_rfl) (by kernel_rfl) (fun _ _ _ h => h) (Or.inr ⟨by rfl, rfl⟩) HS0 ?_
                  conv =>
                    arg 8
                    simp [go_sem]
                  refine wpAnyH_take (i := 7) (v := undef) rfl (by kernel_rfl) (by kernel_rfl) (by kernel_rfl) (fun _ _ _ h => h) (Or.inr ⟨by rfl, rfl⟩) HS0 ?_
                  conv =>
                    arg 8
                    simp [go_sem]
                  refine wpAnyH_take (i := 8) (v := undef) rfl (by kernel_rfl) (by kernel_rfl) (by kernel_rfl) (fun _ _ _ h => h) (Or.inr ⟨by rfl, rfl⟩) HS0 ?_
                  conv =>
                    arg 8
                    simp [go_sem]
                  refine wpAnyH_take (i := 9) (v := undef) rfl (by kernel_rfl) (by kernel_rfl) (by kernel_rfl) (fun _ _ _ h => h) (Or.inr ⟨by rfl, rfl⟩) HS0 ?_
                  conv =>
                    arg 8
                    simp [go_sem]
                  refine wpAnyH_take (i := 10) (v := undef) rfl (by kernel_rfl) (by kernel_rfl) (by kernel_rfl) (fun _ _ _ h => h) (Or.inr ⟨by rfl, rfl⟩) HS0 ?_
                  conv =>
                    arg 8
                    simp [go_sem]
                  refine wpAnyH_take (i := 11) (v := ?_) rfl (by kernel_rfl) (by kernel_rfl) (by kernel_rfl) (fun _ _ _ h => h) (yieldsIf_val (by rfl) (fun w' hS => ?_)) HS0 ?_
                  rotate_left
                  · skip
                    go_simp
                    all_goals with_reducible rfl
                  conv =>
                    arg 8
                    simp [go_sem]
                  refine wpAnyH_take (i := 12) (v := ?_) rfl (by kernel_rfl) (by kernel_rfl) (by kernel_rfl) (fun _ _ _ h => h) (yieldsIf_val (by rfl) (fun w' hS => ?_)) HS0 ?_
                  rotate_left
                  · skip
                    go_simp
                    all_goals with_reducible rfl
                  conv =>
                    arg 8
                    simp [go_sem]
                  refine ⟨by kernel_rfl, ?_⟩
                  conv =>
                    arg 5
                    simp [go_sem]
                  have U7 := Box.mk HS0.1
                  clear HS0
                  go_wp2_with fail
                  exact ⟨⟨j + 1, by omega, by go_num, by rw [HTK.out]; rfl, U7⟩, by simp [intOf]; omega⟩
                | false =>
                  refine wp_region_held_drew (S := fun w' => USt w w' X a4 lm c4 L a5 p c5 vals (some ⟨gd, od, none⟩) nd c6 D ∧ w'.cell? ⟨gc, oc + j, none⟩ = some (.int .i64 z) ∧ w'.cell? ⟨gd, od + k, none⟩ = some (.int .i64 (Y : Int))) (by kernel_rfl) HS0 (fun _ => ?_)
                  refine wpAnyH_take (i := 0) (v := ?_) rfl (by kernel_rfl) (by kernel_rfl) (by kernel_rfl) (fun _ _ _ h => h) (yieldsIf_val (by rfl) (fun w' hS => ?_)) HS0 ?_
                  rotate_left
                  · skip
                    go_simp
                    all_goals with_reducible rfl
                  conv =>
                    arg 8
                    simp [go_sem]
                  refine wpAnyH_take (i := 1) (v := ?_) rfl (by kernel_rfl) (by kernel_rfl) (by kernel_rfl) (fun _ _ _ h => h) (yieldsIf_val (by rfl) (fun w' hS => ?_)) HS0 ?_
                  rotate_left
                  · skip
                    go_simp
                    all_goals with_reducible rfl
                  conv =>
                    arg 8
                    simp [go_sem]
                  refine wpAnyH_take (i := 2) (v := ?_) rfl (by kernel_rfl) (by kernel_rfl) (by kernel_rfl) (fun _ _ _ h => h) (yieldsIf_val (by rfl) (fun w' hS => ?_)) HS0 ?_
                  rotate_left
                  · skip
                    go_simp
                    all_goals with_reducible rfl
                  conv =>
                    arg 8
                    simp [go_sem]
                  refine wpAnyH_take (i := 3) (v := ?_) rfl (by kernel_rfl) (by kernel_rfl) (by kernel_rfl) (fun _ _ _ h => h) (yieldsIf_val (by rfl) (fun w' hS => ?_)) HS0 ?_
                  rotate_left
                  · skip
                    go_simp
                    all_goals with_reducible rfl
                  conv =>
                    arg 8
                    simp [go_sem]
                  refine wpAnyH_take (i := 4) (v := ?_) rfl (by kernel_rfl) (by kernel_rfl) (by kernel_rfl) (fun _ _ _ h => h) (yieldsIf_val (by rfl) (fun w' hS => ?_)) HS0 ?_
                  rotate_left
                  · skip
                    have q0 : (0 : Int) ≤ (j : Int) := by omega
                    have q1 : (j : Int) < (m : Int) := by omega
                    go_simp
                    all_goals with_reducible rfl
                  conv =>
                    arg 8
                    simp [go_sem]
                  refine wpAnyH_take (i := 5) (v := ?_) rfl (by kernel_rfl) (by kernel_rfl) (by kernel_rfl) (fun _ _ _ h => h) (yieldsIf_val (by rfl) (fun w' hS => ?_)) HS0 ?_
                  rotate_left
                  · skip
                    have q := hS.2.1
                    go_simp
                    all_goals with_reducible rfl
                  conv =>
                    arg 8
                    simp [go_sem]
                  refine wpAnyH_take (i := 6) (v := ?_) rfl (by kernel_rfl) (by kernel_rfl) (by kernel_rfl) (fun _ _ _ h => h) (yieldsIf_val (by rfl) (fun w' hS => ?_)) HS0 ?_
                  rotate_left
                  · skip
                    go_simp
                    all_goals with_reducible rfl
                  conv =>
                    arg 8
                    simp [go_sem]
                  refine wpAnyH_take (i := 7) (v := ?_) rfl (by kernel_rfl) (by kernel_rfl) (by kernel_rfl) (fun _ _ _ h => h) (yieldsIf_val (by rfl) (fun w' hS => ?_)) HS0 ?_
                  rotate_left
                  · skip
                    go_simp
                    all_goals with_reducible rfl
                  conv =>
                    arg 8
                    simp [go_sem]
                  refine wpAnyH_take (i := 8) (v := ?_) rfl (by kernel_rfl) (by kernel_rfl) (by kernel_rfl) (fun _ _ _ h => h) (yieldsIf_val (by rfl) (fun w' hS => ?_)) HS0 ?_
                  rotate_left
                  · skip
                    have q0 : (0 : Int) ≤ (k : Int) := by omega
                    have q1 : (k : Int) < (nd : Int) := by omega
                    go_simp
                    all_goals with_reducible rfl
                  conv =>
                    arg 8
                    simp [go_sem]
                  refine wpAnyH_take (i := 9) (v := ?_) rfl (by kernel_rfl) (by kernel_rfl) (by kernel_rfl) (fun _ _ _ h => h) (yieldsIf_val (by rfl) (fun w' hS => ?_)) HS0 ?_
                  rotate_left
                  · skip
                    have q := hS.2.2
                    go_simp
                    all_goals with_reducible rfl
                  conv =>
                    arg 8
                    simp [go_sem]
                  refine wpAnyH_take (i := 10) (v := ?_) rfl (by kernel_rfl) (by kernel_rfl) (by kernel_rfl) (fun _ _ _ h => h) (yieldsIf_val (by rfl) (fun w' hS => ?_)) HS0 ?_
                  rotate_left
                  · skip
                    go_simp
                    all_goals with_reducible rfl
                  conv =>
                    arg 8
                    simp [go_sem]
                  refine wpAnyH_take (i := 11) (v := ?_) rfl (by kernel_rfl) (by kernel_rfl) (by kernel_rfl) (fun _ _ _ h => h) (yieldsIf_val (by rfl) (fun w' hS => ?_)) HS0 ?_
                  rotate_left
                  · skip
                    go_simp
                    all_goals with_reducible rfl
                  conv =>
                    arg 8
                    simp [go_sem]
                  refine wpAnyH_take (i := 12) (v := ?_) rfl (by kernel_rfl) (by kernel_rfl) (by kernel_rfl) (fun _ _ _ h => h) (yieldsIf_val (by rfl) (fun w' hS => ?_)) HS0 ?_
                  rotate_left
                  · skip
                    go_simp
                    all_goals with_reducible rfl
                  conv =>
                    arg 8
                    simp [go_sem]
                  refine ⟨by kernel_rfl, ?_⟩
                  conv =>
                    arg 5
                    simp [go_sem]
                  have U7 := Box.mk HS0.1
                  clear HS0
                  go_wp2_with fail
                  exact ⟨⟨j + 1, by omega, by go_num, by rw [HTK.out]; rfl, U7⟩, by simp [intOf]; omega⟩
              · obtain rfl : j = m := by omega
                have hall : decide ((Y : Int) ∈ cols.take j) = true := by rw [List.take_of_length_le (by omega)]; exact decide_eq_true HY.out.2
                rw [hall]
                have ht1 : Box (decide (lm ≤ Y) = false) := ⟨decide_eq_false (by omega)⟩
                obtain ⟨gd, od, rfl, hcd⟩ := HU.out.d.intAtD k hlt
                rw [HY.out.1] at hcd
                clear hall
                go_upto_region 17 with fail
                cases k with
                | zero =>
                  have HS0 : USt w wr.drew X a4 lm c4 L a5 p c5 vals (some ⟨gd, od, none⟩) nd c6 D ∧ wr.drew.cell? ⟨gd, od + 0, none⟩ = some (.int .i64 (Y : Int)) := ⟨HU.out.step (Below.refl _ _).drew, hcd⟩
                  clear HU hcd
                  simp only [Nat.add_zero] at HS0
                  refine wp_region_held_drew (S := fun w' => USt w w' X a4 lm c4 L a5 p c5 vals (some ⟨gd, od, none⟩) nd c6 D ∧ w'.cell? ⟨gd, od, none⟩ = some (.int .i64 (Y : Int))) (by kernel_rfl) HS0 (fun _ => ?_)
                  refine wpAnyH_take (i := 0) (v := ?_) rfl (by kernel_rfl) (by kernel_rfl) (by kernel_rfl) (fun _ _ _ h => h) (yieldsIf_val (by rfl) (fun w' hS => ?_)) HS0 ?_
                  rotate_left
                  · skip
                    go_simp
                    all_goals with_reducible rfl
                  conv =>
                    arg 8
                    simp [go_sem]
                  refine wpAnyH_take (i := 1) (v := ?_) rfl (by kernel_rfl) (by kernel_rfl) (by kernel_rfl) (fun _ _ _ h => h) (yieldsIf_val (by rfl) (fun w' hS => ?_)) HS0 ?_
                  rotate_left
                  · skip
                    go_simp
                    all_goals with_reducible rfl
                  conv =>
                    arg 8
                    simp [go_sem]
                  refine wpAnyH_take (i := 2) (v := ?_) rfl (by kernel_rfl) (by kernel_rfl) (by kernel_rfl) (fun _ _ _ h => h) (yieldsIf_val (by rfl) (fun w' hS => ?_)) HS0 ?_
                  rotate_left
                  · skip
                    go_simp
                    all_goals with_reducible rfl
                  conv =>
                    arg 8
                    simp [go_sem]
                  refine wpAnyH_take (i := 3) (v := ?_) rfl (by kernel_rfl) (by kernel_rfl) (by kernel_rfl) (fun _ _ _ h => h) (yieldsIf_val (by rfl) (fun w' hS => ?_)) HS0 ?_
                  rotate_left
                  · skip
                    go_simp
                    all_goals with_reducible rfl
                  conv =>
                    arg 8
                    simp [go_sem]
                  refine wpAnyH_take (i := 4) (v := ?_) rfl (by kernel_rfl) (by kernel_rfl) (by kernel_rfl) (fun _ _ _ h => h) (yieldsIf_val (by rfl) (fun w' hS => ?_)) HS0 ?_
                  rotate_left
                  · skip
                    go_simp
                    all_goals with_reducible rfl
                  conv =>
                    arg 8
                    simp [go_sem]
                  refine wpAnyH_take (i := 5) (v := ?_) rfl (by kernel_rfl) (by kernel_rfl) (by kernel_rfl) (fun _ _ _ h => h) (yieldsIf_val (by rfl) (fun w' hS => ?_)) HS0 ?_
                  rotate_left
                  · skip
                    have q0 : 0 < nd := by omega
                    have q1 : (0 : Int) < (nd : Int) := by omega
                    go_simp
                    all_goals with_reducible rfl
                  conv =>
                    arg 8
                    simp [go_sem]
                  refine wpAnyH_take (i := 6) (v := ?_) rfl (by kernel_rfl) (by kernel_rfl) (by kernel_rfl) (fun _ _ _ h => h) (yieldsIf_val (by rfl) (fun w' hS => ?_)) HS0 ?_
                  rotate_left
                  · skip
                    have q := hS.2
                    go_simp
                    all_goals with_reducible rfl
                  conv =>
                    arg 8
                    simp [go_sem]
                  refine wpAnyH_take (i := 7) (v := ?_) rfl (by kernel_rfl) (by kernel_rfl) (by kernel_rfl) (fun _ _ _ h => h) (yieldsIf_val (by rfl) (fun w' hS => ?_)) HS0 ?_
                  rotate_left
                  · skip
                    go_simp
                    all_goals with_reducible rfl
                  conv =>
                    arg 8
                    simp [go_sem]
                  refine wpAnyH_take (i := 8) (v := ?_) rfl (by kernel_rfl) (by kernel_rfl) (by kernel_rfl) (fun _ _ _ h => h) (yieldsIf_val (by rfl) (fun w' hS => ?_)) HS0 ?_
                  rotate_left
                  · skip
                    go_simp
                    all_goals with_reducible rfl
                  conv =>
                    arg 8
                    simp [go_sem]
                  refine wpAnyH_take (i := 9) (v := ?_) rfl (by kernel_rfl) (by kernel_rfl) (by kernel_rfl) (fun _ _ _ h => h) (yieldsIf_val (by rfl) (fun w' hS => ?_)) HS0 ?_
                  rotate_left
                  · skip
                    go_simp
                    all_goals with_reducible rfl
                  conv =>
                    arg 8
                    simp [go_sem]
                  refine wpAnyH_take (i := 10) (v := ?_) rfl (by kernel_rfl) (by kernel_rfl) (by kernel_rfl) (fun _ _ _ h => h) (yieldsIf_val (by rfl) (fun w' hS => ?_)) HS0 ?_
                  rotate_left
                  · skip
                    go_simp
                    all_goals with_reducible rfl
                  conv =>
                    arg 8
                    simp [go_sem]
                  refine wpAnyH_take (i := 11) (v := ?_) rfl (by kernel_rfl) (by kernel_rfl) (by kernel_rfl) (fun _ _ _ h => h) (yieldsIf_val (by rfl) (fun w' hS => ?_)) HS0 ?_
                  rotate_left
                  · skip
                    go_simp
                    all_goals with_reducible rfl
                  conv =>
                    arg 8
                    simp [go_sem]
                  refine wpAnyH_take (i := 12) (v := ?_) rfl (by kernel_rfl) (by kernel_rfl) (by kernel_rfl) (fun _ _ _ h => h) (yieldsIf_val (by rfl) (fun w' hS => ?_)) HS0 ?_
                  rotate_left
                  · skip
                    have q0 : 0 < nd := by omega
                    have q1 : (0 : Int) < (nd : Int) := by omega
                    go_simp
                    all_goals with_reducible rfl
                  conv =>
                    arg 8
                    simp [go_sem]
                  refine wpAnyH_take (i := 13) (v := ?_) rfl (by kernel_rfl) (by kernel_rfl) (by kernel_rfl) (fun _ _ _ h => h) (yieldsIf_val (by rfl) (fun w' hS => ?_)) HS0 ?_
                  rotate_left
                  · skip
                    have q := hS.2
                    go_simp
                    all_goals with_reducible rfl
                  conv =>
                    arg 8
                    simp [go_sem]
                  refine wpAnyH_take (i := 14) (v := ?_) rfl (by kernel_rfl) (by kernel_rfl) (by kernel_rfl) (fun _ _ _ h => h) (yieldsIf_val (by rfl) (fun w' hS => ?_)) HS0 ?_
                  rotate_left
                  · skip
                    go_simp
                    all_goals with_reducible rfl
                  conv =>
                    arg 8
                    simp [go_sem]
                  refine wpAnyH_take (i := 15) (v := ?_) rfl (by kernel_rfl) (by kernel_rfl) (by kernel_rfl) (fun _ _ _ h => h) (yieldsIf_val (by rfl) (fun w' hS => ?_)) HS0 ?_
                  rotate_left
                  · skip
                    go_simp
                    all_goals with_reducible rfl
                  conv =>
                    arg 8
                    simp [go_sem]
                  refine wpAnyH_take (i := 16) (v := ?_) rfl (by kernel_rfl) (by kernel_rfl) (by kernel_rfl) (fun _ _ _ h => h) (yieldsIf_val (by rfl) (fun w' hS => ?_)) HS0 ?_
                  rotate_left
                  · skip
                    have q := ht1.out
                    go_simp
                    all_goals with_reducible rfl
                  conv =>
                    arg 8
                    simp [go_sem]
                  refine wpAnyH_take (i := 17) (v := ?_) rfl (by kernel_rfl) (by kernel_rfl) (by kernel_rfl) (fun _ _ _ h => h) (yieldsIf_val (by rfl) (fun w' hS => ?_)) HS0 ?_
                  rotate_left
                  · skip
                    go_simp
                    all_goals with_reducible rfl
                  conv =>
                    arg 8
                    simp [go_sem]
                  refine wpAnyH_take (i := 18) (v := ?_) rfl (by kernel_rfl) (by kernel_rfl) (by kernel_rfl) (fun _ _ _ h => h) (yieldsIf_val (by rfl) (fun w' hS => ?_)) HS0 ?_
                  rotate_left
                  · skip
                    go_simp
                    all_goals with_reducible rfl
                  conv =>
                    arg 8
                    simp [go_sem]
                  refine wpAnyH_take (i := 19) (v := ?_) rfl (by kernel_rfl) (by kernel_rfl) (by kernel_rfl) (fun _ _ _ h => h) (yieldsIf_val (by rfl) (fun w' hS => ?_)) HS0 ?_
                  rotate_left
                  · skip
                    go_simp
                    all_goals with_reducible rfl
                  conv =>
                    arg 8
                    simp [go_sem]
                  refine wpAnyH_take (i := 20) (v := ?_) rfl (by kernel_rfl) (by kernel_rfl) (by kernel_rfl) (fun _ _ _ h => h) (yieldsIf_val (by rfl) (fun w' hS => ?_)) HS0 ?_
                  rotate_left
                  · skip
                    go_simp
                    all_goals with_reducible rfl
                  conv =>
                    arg 8
                    simp [go_sem]
                  refine wpAnyH_take (i := 21) (v := ?_) rfl (by kernel_rfl) (by kernel_rfl) (by kernel_rfl) (fun _ _ _ h => h) (yieldsIf_val (by rfl) (fun w' hS => ?_)) HS0 ?_
                  rotate_left
                  · skip
                    go_simp
                    all_goals with_reducible rfl
                  conv =>
                    arg 8
                    simp [go_sem]
                  refine wpAnyH_take (i := 22) (v := undef) rfl (by kernel_rfl) (by kernel_rfl) (by kernel_rfl) (fun _ _ _ h => h) (Or.inr ⟨by rfl, rfl⟩) HS0 ?_
                  conv =>
                    arg 8
                    simp [go_sem]
                  refine wpAnyH_take (i := 23) (v := undef) rfl (by kernel_rfl) (by kernel_rfl) (by kernel_rfl) (fun _ _ _ h => h) (Or.inr ⟨by rfl, rfl⟩) HS0 ?_
                  conv =>
                    arg 8
                    simp [go_sem]
                  refine wpAnyH_take (i := 24) (v := undef) rfl (by kernel_rfl) (by kernel_rfl) (by kernel_rfl) (fun _ _ _ h => h) (Or.inr ⟨by rfl, rfl⟩) HS0 ?_
                  conv =>
                    arg 8
                    simp [go_sem]
                  refine wpAnyH_take (i := 25) (v := undef) rfl (by kernel_rfl) (by kernel_rfl) (by kernel_rfl) (fun _ _ _ h => h) (Or.inr ⟨by rfl, rfl⟩) HS0 ?_
                  conv =>
                    arg 8
                    simp [go_sem]
                  refine wpAnyH_take (i := 26) (v := undef) rfl (by kernel_rfl) (by kernel_rfl) (by kernel_rfl) (fun _ _ _ h => h) (Or.inr ⟨by rfl, rfl⟩) HS0 ?_
                  conv =>
                    arg 8
                    simp [go_sem]
                  refine wpAnyH_take (i := 27) (v := undef) rfl (by kernel_rfl) (by kernel_rfl) (by kernel_rfl) (fun _ _ _ h => h) (Or.inr ⟨by rfl, rfl⟩) HS0 ?_
                  conv =>
                    arg 8
                    simp [go_sem]
                  refine wpAnyH_take (i := 28) (v := undef) rfl (by kernel_rfl) (by kernel_rfl) (by kernel_rfl) (fun _ _ _ h => h) (Or.inr ⟨by rfl, rfl⟩) HS0 ?_
                  conv =>
                    arg 8
                    simp [go_sem]
                  refine wpAnyH_take (i := 29) (v := undef) rfl (by kernel_rfl) (by kernel_rfl) (by kernel_rfl) (fun _ _ _ h => h) (Or.inr ⟨by rfl, rfl⟩) HS0 ?_
                  conv =>
                    arg 8
                    simp [go_sem]
                  refine wpAnyH_take (i := 30) (v := undef) rfl (by kernel_rfl) (by kernel_rfl) (by kernel_rfl) (fun _ _ _ h => h) (Or.inr ⟨by rfl, rfl⟩) HS0 ?_
                  conv =>
                    arg 8
                    simp [go_sem]
                  refine wpAnyH_take (i := 31) (v := undef) rfl (by kernel_rfl) (by kernel_rfl) (by kernel_rfl) (fun _ _ _ h => h) (Or.inr ⟨by rfl, rfl⟩) HS0 ?_
                  conv =>
                    arg 8
                    simp [go_sem]
                  refine wpAnyH_take (i := 32) (v := ?_) rfl (by kernel_rfl) (by kernel_rfl) (by kernel_rfl) (fun _ _ _ h => h) (yieldsIf_val (by rfl) (fun w' hS => ?_)) HS0 ?_
                  rotate_left
                  · skip
                    go_simp
                    all_goals with_reducible rfl
                  conv =>
                    arg 8
                    simp [go_sem]
                  refine wpAnyH_take (i := 33) (v := ?_) rfl (by kernel_rfl) (by kernel_rfl) (by kernel_rfl) (fun _ _ _ h => h) (yieldsIf_val (by rfl) (fun w' hS => ?_)) HS0 ?_
                  rotate_left
                  · skip
                    go_simp
                    all_goals with_reducible rfl
                  conv =>
                    arg 8
                    simp [go_sem]
                  refine ⟨by kernel_rfl, ?_⟩
                  conv =>
                    arg 5
                    simp [go_sem]
                  have U7 := Box.mk HS0.1
                  clear HS0
                  go_wp2_with fail
                  exact ⟨⟨1, by omega, by go_num, U7⟩, by simp [intOf]; omega⟩
                | succ k' =>
                  obtain ⟨gd2, od2, hgd, hcd2⟩ := HU.out.d.intAtD k' (by omega)
                  obtain ⟨Y2, hY2, hYr2, _⟩ := HDF.out k' (by omega)
                  have hst := HDS.out k' (by omega)
                  rw [hY2, HY.out.1] at hst
                  rw [hY2] at hcd2
                  simp only [Option.some.injEq, Addr.mk.injEq, and_true] at hgd
                  obtain ⟨rfl, rfl⟩ := hgd
                  have HS0 : USt w wr.drew X a4 lm c4 L a5 p c5 vals (some ⟨gd, od, none⟩) nd c6 D ∧ wr.drew.cell? ⟨gd, od + (k' + 1), none⟩ = some (.int .i64 (Y : Int)) ∧ wr.drew.cell? ⟨gd, od + k', none⟩ = some (.int .i64 (Y2 : Int)) := ⟨HU.out.step (Below.refl _ _).drew, hcd, hcd2⟩
                  have ht2 : Box (decide (Y ≤ Y2) = false) := ⟨decide_eq_false (by omega)⟩
                  clear HU hcd hcd2 hY2 hYr2 hst
                  refine wp_region_held_drew (S := fun w' => USt w w' X a4 lm c4 L a5 p c5 vals (some ⟨gd, od, none⟩) nd c6 D ∧ w'.cell? ⟨gd, od + (k' + 1), none⟩ = some (.int .i64 (Y : Int)) ∧ w'.cell? ⟨gd, od + k', none⟩ = some (.int .i64 (Y2 : Int))) (by kernel_rfl) HS0 (fun _ => ?_)
                  refine wpAnyH_take (i := 0) (v := ?_) rfl (by kernel_rfl) (by kernel_rfl) (by kernel_rfl) (fun _ _ _ h => h) (yieldsIf_val (by rfl) (fun w' hS => ?_)) HS0 ?_
                  rotate_left
                  · skip
                    go_simp
                    all_goals with_reducible rfl
                  conv =>
                    arg 8
                    simp [go_sem]
                  refine wpAnyH_take (i := 1) (v := ?_) rfl (by kernel_rfl) (by kernel_rfl) (by kernel_rfl) (fun _ _ _ h => h) (yieldsIf_val (by rfl) (fun w' hS => ?_)) HS0 ?_
                  rotate_left
                  · skip
                    go_simp
                    all_goals with_reducible rfl
                  conv =>
                    arg 8
                    simp [go_sem]
                  refine wpAnyH_take (i := 2) (v := ?_) rfl (by kernel_rfl) (by kernel_rfl) (by kernel_rfl) (fun _ _ _ h => h) (yieldsIf_val (by rfl) (fun w' hS => ?_)) HS0 ?_
                  rotate_left
                  · skip
                    go_simp
                    all_goals with_reducible rfl
                  conv =>
                    arg 8
                    simp [go_sem]
                  refine wpAnyH_take (i := 3) (v := ?_) rfl (by kernel_rfl) (by kernel_rfl) (by kernel_rfl) (fun _ _ _ h => h) (yieldsIf_val (by rfl) (fun w' hS => ?_)) HS0 ?_
                  rotate_left
                  · skip
                    go_simp
                    all_goals with_reducible rfl
                  conv =>
                    arg 8
                    simp [go_sem]
                  refine wpAnyH_take (i := 4) (v := ?_) rfl (by kernel_rfl) (by kernel_rfl) (by kernel_rfl) (fun _ _ _ h => h) (yieldsIf_val (by rfl) (fun w' hS => ?_)) HS0 ?_
                  rotate_left
                  · skip
                    go_simp
                    all_goals with_reducible rfl
                  conv =>
                    arg 8
                    simp [go_sem]
                  refine wpAnyH_take (i := 5) (v := ?_) rfl (by kernel_rfl) (by kernel_rfl) (by kernel_rfl) (fun _ _ _ h => h) (yieldsIf_val (by rfl) (fun w' hS => ?_)) HS0 ?_
                  rotate_left
                  · skip
                    have q0 : (0 : Int) ≤ (k' : Int) + 1 := by omega
                    have q1 : (k' : Int) + 1 < (nd : Int) := by omega
                    have q2 : ((k' : Int) + 1).toNat = k' + 1 := by omega
                    go_simp
                    all_goals with_reducible rfl
                  conv =>
                    arg 8
                    simp [go_sem]
                  refine wpAnyH_take (i := 6) (v := ?_) rfl (by kernel_rfl) (by kernel_rfl) (by kernel_rfl) (fun _ _ _ h => h) (yieldsIf_val (by rfl) (fun w' hS => ?_)) HS0 ?_
                  rotate_left
                  · skip
                    have q := hS.2.1
                    go_simp
                    all_goals with_reducible rfl
                  conv =>
                    arg 8
                    simp [go_sem]
                  refine wpAnyH_take (i := 7) (v := ?_) rfl (by kernel_rfl) (by kernel_rfl) (by kernel_rfl) (fun _ _ _ h => h) (yieldsIf_val (by rfl) (fun w' hS => ?_)) HS0 ?_
                  rotate_left
                  · skip
                    go_simp
                    all_goals with_reducible rfl
                  conv =>
                    arg 8
                    simp [go_sem]
                  refine wpAnyH_take (i := 8) (v := ?_) rfl (by kernel_rfl) (by kernel_rfl) (by kernel_rfl) (fun _ _ _ h => h) (yieldsIf_val (by rfl) (fun w' hS => ?_)) HS0 ?_
                  rotate_left
                  · skip
                    go_simp
                    all_goals with_reducible rfl
                  conv =>
                    arg 8
                    simp [go_sem]
                  refine wpAnyH_take (i := 9) (v := ?_) rfl (by kernel_rfl) (by kernel_rfl) (by kernel_rfl) (fun _ _ _ h => h) (yieldsIf_val (by rfl) (fun w' hS => ?_)) HS0 ?_
                  rotate_left
                  · skip
                    go_simp
                    all_goals with_reducible rfl
                  conv =>
                    arg 8
                    simp [go_sem]
                  refine wpAnyH_take (i := 10) (v := ?_) rfl (by kernel_rfl) (by kernel_rfl) (by kernel_rfl) (fun _ _ _ h => h) (yieldsIf_val (by rfl) (fun w' hS => ?_)) HS0 ?_
                  rotate_left
                  · skip
                    go_simp
                    all_goals with_reducible rfl
                  conv =>
                    arg 8
                    simp [go_sem]
                  refine wpAnyH_take (i := 11) (v := ?_) rfl (by kernel_rfl) (by kernel_rfl) (by kernel_rfl) (fun _ _ _ h => h) (yieldsIf_val (by rfl) (fun w' hS => ?_)) HS0 ?_
                  rotate_left
                  · skip
                    go_simp
                    all_goals with_reducible rfl
                  conv =>
                    arg 8
                    simp [go_sem]
                  refine wpAnyH_take (i := 12) (v := ?_) rfl (by kernel_rfl) (by kernel_rfl) (by kernel_rfl) (fun _ _ _ h => h) (yieldsIf_val (by rfl) (fun w' hS => ?_)) HS0 ?_
                  rotate_left
                  · skip
                    have q0 : (0 : Int) ≤ (k' : Int) + 1 := by omega
                    have q1 : (k' : Int) + 1 < (nd : Int) := by omega
                    have q2 : ((k' : Int) + 1).toNat = k' + 1 := by omega
                    go_simp
                    all_goals with_reducible rfl
                  conv =>
                    arg 8
                    simp [go_sem]
                  refine wpAnyH_take (i := 13) (v := ?_) rfl (by kernel_rfl) (by kernel_rfl) (by kernel_rfl) (fun _ _ _ h => h) (yieldsIf_val (by rfl) (fun w' hS => ?_)) HS0 ?_
                  rotate_left
                  · skip
                    have q := hS.2.1
                    go_simp
                    all_goals with_reducible rfl
                  conv =>
                    arg 8
                    simp [go_sem]
                  refine wpAnyH_take (i := 14) (v := ?_) rfl (by kernel_rfl) (by kernel_rfl) (by kernel_rfl) (fun _ _ _ h => h) (yieldsIf_val (by rfl) (fun w' hS => ?_)) HS0 ?_
                  rotate_left
                  · skip
                    go_simp
                    all_goals with_reducible rfl
                  conv =>
                    arg 8
                    simp [go_sem]
                  refine wpAnyH_take (i := 15) (v := ?_) rfl (by kernel_rfl) (by kernel_rfl) (by kernel_rfl) (fun _ _ _ h => h) (yieldsIf_val (by rfl) (fun w' hS => ?_)) HS0 ?_
                  rotate_left
                  · skip
                    go_simp
                    all_goals with_reducible rfl
                  conv =>
                    arg 8
                    simp [go_sem]
                  refine wpAnyH_take (i := 16) (v := ?_) rfl (by kernel_rfl) (by kernel_rfl) (by kernel_rfl) (fun _ _ _ h => h) (yieldsIf_val (by rfl) (fun w' hS => ?_)) HS0 ?_
                  rotate_left
                  · skip
                    have q := ht1.out
                    go_simp
                    all_goals with_reducible rfl
                  conv =>
                    arg 8
                    simp [go_sem]
                  refine wpAnyH_take (i := 17) (v := ?_) rfl (by kernel_rfl) (by kernel_rfl) (by kernel_rfl) (fun _ _ _ h => h) (yieldsIf_val (by rfl) (fun w' hS => ?_)) HS0 ?_
                  rotate_left
                  · skip
                    go_simp
                    all_goals with_reducible rfl
                  conv =>
                    arg 8
                    simp [go_sem]
                  refine wpAnyH_take (i := 18) (v := ?_) rfl (by kernel_rfl) (by kernel_rfl) (by kernel_rfl) (fun _ _ _ h => h) (yieldsIf_val (by rfl) (fun w' hS => ?_)) HS0 ?_
                  rotate_left
                  · skip
                    go_simp
                    all_goals with_reducible rfl
                  conv =>
                    arg 8
                    simp [go_sem]
                  refine wpAnyH_take (i := 19) (v := ?_) rfl (by kernel_rfl) (by kernel_rfl) (by kernel_rfl) (fun _ _ _ h => h) (yieldsIf_val (by rfl) (fun w' hS => ?_)) HS0 ?_
                  rotate_left
                  · skip
                    go_simp
                    all_goals with_reducible rfl
                  conv =>
                    arg 8
                    simp [go_sem]
                  refine wpAnyH_take (i := 20) (v := ?_) rfl (by kernel_rfl) (by kernel_rfl) (by kernel_rfl) (fun _ _ _ h => h) (yieldsIf_val (by rfl) (fun w' hS => ?_)) HS0 ?_
                  rotate_left
                  · skip
                    have q : decide ((0 : Int) < (k' : Int) + 1) = true := decide_eq_true (by omega)
                    go_simp
                    all_goals with_reducible rfl
                  conv =>
                    arg 8
                    simp [go_sem]
                  refine wpAnyH_take (i := 21) (v := ?_) rfl (by kernel_rfl) (by kernel_rfl) (by kernel_rfl) (fun _ _ _ h => h) (yieldsIf_val (by rfl) (fun w' hS => ?_)) HS0 ?_
                  rotate_left
                  · skip
                    go_simp
                    all_goals with_reducible rfl
                  conv =>
                    arg 8
                    simp [go_sem]
                  refine wpAnyH_take (i := 22) (v := ?_) rfl (by kernel_rfl) (by kernel_rfl) (by kernel_rfl) (fun _ _ _ h => h) (yieldsIf_val (by rfl) (fun w' hS => ?_)) HS0 ?_
                  rotate_left
                  · skip
                    go_simp
                    all_goals with_reducible rfl
                  conv =>
                    arg 8
                    simp [go_sem]
                  refine wpAnyH_take (i := 23) (v := ?_) rfl (by kernel_rfl) (by kernel_rfl) (by kernel_rfl) (fun _ _ _ h => h) (yieldsIf_val (by rfl) (fun w' hS => ?_)) HS0 ?_
                  rotate_left
                  · skip
                    go_simp
                    all_goals with_reducible rfl
                  conv =>
                    arg 8
                    simp [go_sem]
                  refine wpAnyH_take (i := 24) (v := ?_) rfl (by kernel_rfl) (by kernel_rfl) (by kernel_rfl) (fun _ _ _ h => h) (yieldsIf_val (by rfl) (fun w' hS => ?_)) HS0 ?_
                  rotate_left
                  · skip
                    have q : IntKind.i64.wrap ((k' : Int) + 1 - 1) = (k' : Int) := by rw [IntKind.wrap_i64]; omega
                    have q2 : (k' : Int) + 1 - 1 = (k' : Int) := by omega
                    have q3 : IntKind.i64.wrap (k' : Int) = (k' : Int) := by rw [IntKind.wrap_i64]; omega
                    go_simp
                    all_goals with_reducible rfl
                  conv =>
                    arg 8
                    simp [go_sem]
                  refine wpAnyH_take (i := 25) (v := ?_) rfl (by kernel_rfl) (by kernel_rfl) (by kernel_rfl) (fun _ _ _ h => h) (yieldsIf_val (by rfl) (fun w' hS => ?_)) HS0 ?_
                  rotate_left
                  · skip
                    have q0 : (0 : Int) ≤ (k' : Int) := by omega
                    have q1 : (k' : Int) < (nd : Int) := by omega
                    go_simp
                    all_goals with_reducible rfl
                  conv =>
                    arg 8
                    simp [go_sem]
                  refine wpAnyH_take (i := 26) (v := ?_) rfl (by kernel_rfl) (by kernel_rfl) (by kernel_rfl) (fun _ _ _ h => h) (yieldsIf_val (by rfl) (fun w' hS => ?_)) HS0 ?_
                  rotate_left
                  · skip
                    have q := hS.2.2
                    go_simp
                    all_goals with_reducible rfl
                  conv =>
                    arg 8
                    simp [go_sem]
                  refine wpAnyH_take (i := 27) (v := ?_) rfl (by kernel_rfl) (by kernel_rfl) (by kernel_rfl) (fun _ _ _ h => h) (yieldsIf_val (by rfl) (fun w' hS => ?_)) HS0 ?_
                  rotate_left
                  · skip
                    go_simp
                    all_goals with_reducible rfl
                  conv =>
                    arg 8
                    simp [go_sem]
                  refine wpAnyH_take (i := 28) (v := ?_) rfl (by kernel_rfl) (by kernel_rfl) (by kernel_rfl) (fun _ _ _ h => h) (yieldsIf_val (by rfl) (fun w' hS => ?_)) HS0 ?_
                  rotate_left
                  · skip
                    go_simp
                    all_goals with_reducible rfl
                  conv =>
                    arg 8
                    simp [go_sem]
                  refine wpAnyH_take (i := 29) (v := ?_) rfl (by kernel_rfl) (by kernel_rfl) (by kernel_rfl) (fun _ _ _ h => h) (yieldsIf_val (by rfl) (fun w' hS => ?_)) HS0 ?_
                  rotate_left
                  · skip
                    have q0 : (0 : Int) ≤ (k' : Int) + 1 := by omega
                    have q1 : (k' : Int) + 1 < (nd : Int) := by omega
                    have q2 : ((k' : Int) + 1).toNat = k' + 1 := by omega
                    go_simp
                    all_goals with_reducible rfl
                  conv =>
                    arg 8
                    simp [go_sem]
                  refine wpAnyH_take (i := 30) (v := ?_) rfl (by kernel_rfl) (by kernel_rfl) (by kernel_rfl) (fun _ _ _ h => h) (yieldsIf_val (by rfl) (fun w' hS => ?_)) HS0 ?_
                  rotate_left
                  · skip
                    have q := hS.2.1
                    go_simp
                    all_goals with_reducible rfl
                  conv =>
                    arg 8
                    simp [go_sem]
                  refine wpAnyH_take (i := 31) (v := ?_) rfl (by kernel_rfl) (by kernel_rfl) (by kernel_rfl) (fun _ _ _ h => h) (yieldsIf_val (by rfl) (fun w' hS => ?_)) HS0 ?_
                  rotate_left
                  · skip
                    have q := ht2.out
                    go_simp
                    all_goals with_reducible rfl
                  conv =>
                    arg 8
                    simp [go_sem]
                  refine wpAnyH_take (i := 32) (v := ?_) rfl (by kernel_rfl) (by kernel_rfl) (by kernel_rfl) (fun _ _ _ h => h) (yieldsIf_val (by rfl) (fun w' hS => ?_)) HS0 ?_
                  rotate_left
                  · skip
                    go_simp
                    all_goals with_reducible rfl
                  conv =>
                    arg 8
                    simp [go_sem]
                  refine wpAnyH_take (i := 33) (v := ?_) rfl (by kernel_rfl) (by kernel_rfl) (by kernel_rfl) (fun _ _ _ h => h) (yieldsIf_val (by rfl) (fun w' hS => ?_)) HS0 ?_
                  rotate_left
                  · skip
                    go_simp
                    all_goals with_reducible rfl
                  conv =>
                    arg 8
                    simp [go_sem]
                  refine ⟨by kernel_rfl, ?_⟩
                  conv =>
                    arg 5
                    simp [go_sem]
                  have U7 := Box.mk HS0.1
                  clear HS0
                  go_wp2_with fail
                  exact ⟨⟨k' + 2, by omega, by go_num, U7⟩, by simp [intOf]; omega⟩
          · obtain rfl : k = nd := by omega
            go_wp2_with fail
            refine (sanity_any _).mono ?_
            rintro e w8 ⟨rfl, hb8⟩
            have U8 := Box.mk (HU.out.step hb8)
            clear hb8 HU
            go_wp2_with fail
            refine (rsame_is (d := true) (x := vals) (y := vals) (by simp) U8.out.p (HV'.out.below U8.out.t.below (Nat.le_refl _)) (by omega) (by omega)).mono ?_
            rintro e w9 ⟨rfl, hb9⟩
            have U9 := Box.mk (U8.out.step hb9)
            clear hb9 U8
            have u0 := U9.out.t.c0
            have u1 := U9.out.t.c1
            have u2 := U9.out.t.c2
            have u3 := U9.out.t.c3
            have t2 : ((lm : Int) == (lm : Int)) = true := by simp
            go_wp2_with fail
            refine (fits_is HPJ.out.2.2 U9.out.t.rd U9.out.x).mono ?_
            rintro e w10 ⟨rfl, hb10⟩
            have U10 := Box.mk (U9.out.step hb10)
            clear hb10
            go_wp2_with fail
            go_ret
            exact ⟨by first | rfl | simp, U10.out.t.below⟩
      · have hL0 : L = [] := HEN.out.1.symm.trans (upd_err (by rw [HEN.out.2.1]; exact hE0))
        have hl0 : lm = 0 := by rw [← HEN.out.2.2, hL0]; rfl
        subst hl0
        have hEb : (E != 0) = true := by simp [hE0]
        clear hE0 hL0
        go_wp2_with fail
        refine (sanity_any _).mono ?_
        rintro e w7 ⟨rfl, hb7⟩
        have T7 := Box.mk (T4.out.step hb7)
        clear hb7
        go_wp2_with fail
        go_ret
        exact ⟨by first | rfl | simp, T7.out.below⟩
end Go.Proofs.Ytpgdfhncigmmbaa
