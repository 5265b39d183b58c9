/-
  Regions that draw their order, all orders at once (as wpAny_ext), where what comes behind L hangs on it by way of L's own operations too. No condition.
-/
import Derived.Test.YtgimkipekoabbaaLibB
namespace Go.Proofs.Ytgimkipekoabbaa
open Go.RowKit

/-- Operation i comes right behind r. -/
def direct (ops : Array Oper) (i r : Nat) : Bool := ((ops[i]?).map fun o => dep o r).getD false
/-- .. or by way of operations of L. -/
def reach (ops : Array Oper) (L : List Nat) : Nat → Nat → Nat → Bool
  | 0, r, i => direct ops i r
  | n + 1, r, i => direct ops i r || L.any fun j => direct ops j r && reach ops L n j i
def okM (ops : Array Oper) (listed0 : Array Bool) (L : List Nat) : Bool :=
  (listed0.size == ops.size) &&
  L.all (fun i => (listed0[i]? == some false) && ((ops[i]?).map fun o => o.after.all fun e => !Region.binds .any e || (decide (e.on < i) && (listed0.getD e.on false || L.contains e.on))).getD false) &&
  (List.range ops.size).all (fun j => listed0.getD j true || L.contains j || L.all fun i => reach ops L L.length i j) &&
  decide L.Nodup && decide (L.filterMap (dstOf ops)).Nodup

section
variable {P : Program} {ops : Array Oper} {Q : Exit → Act → World → Prop}
theorem reach_hit {L R : List Nat} (hcl : ∀ j ∈ L, j ∉ R → ∀ r ∈ R, direct ops j r = false) (hRL : ∀ i ∈ R, i ∈ L) : ∀ (n : Nat) (r : Nat) {i : Nat}, reach ops L n r i = true → r ∈ R → ∃ k ∈ R, direct ops i k = true
  | 0, r, i, h, hr => ⟨r, hr, h⟩
  | n + 1, r, i, h, hr => by
    unfold reach at h
    simp only [Bool.or_eq_true, List.any_eq_true, Bool.and_eq_true] at h
    rcases h with h | ⟨j, hj, h1, h2⟩
    · exact ⟨r, hr, h⟩
    · by_cases hjR : j ∈ R
      · exact reach_hit hcl hRL n j h2 hjR
      · have := hcl j hj hjR r hr
        rw [h1] at this; cases this

/-- What is known when all of L but R is done. -/
structure ExtInv2 (ops : Array Oper) (L : List Nat) (V : Nat → Value → World → Prop) (listed0 : Array Bool) (a0 : Act) (w0 : World) (R : List Nat) (vs : Nat → Value) (listed : Array Bool) (a : Act) (w : World) : Prop where
  below : Below w0.heap.size w0 w
  size : listed.size = listed0.size
  done : ∀ k, k ∈ L → k ∉ R → listed[k]? = some true
  rest : ∀ k, (k ∉ L ∨ k ∈ R) → listed[k]? = listed0[k]?
  defers : a.defers = a0.defers
  tsize : a.tmps.size = a0.tmps.size
  other : ∀ t, (∀ i ∈ L, i ∉ R → dstOf ops i ≠ some t) → a.tmps[t]? = a0.tmps[t]?
  val : ∀ i ∈ L, i ∉ R → ∀ t, dstOf ops i = some t → a.tmps[t]? = some (vs i)
  prop : ∀ i ∈ L, i ∉ R → V i (vs i) w
  closed : ∀ j ∈ L, j ∉ R → ∀ r ∈ R, direct ops j r = false

theorem ext_go2 {L : List Nat} {V : Nat → Value → World → Prop} {listed0 : Array Bool} {a0 : Act} {w0 : World} (hok : okM ops listed0 L = true) (hts : ∀ t ∈ L.filterMap (dstOf ops), t < a0.tmps.size)
    (hstep : ∀ i ∈ L, StepOK P ops Q L V a0 w0 i) (hstab : ∀ i ∈ L, ∀ v w w', V i v w → Below w.heap.size w w' → V i v w') {fuel : Nat}
    (hend : ∀ (vs : Nat → Value) (w : World), (∀ i ∈ L, V i (vs i) w) → Below w0.heap.size w0 w → wpAny P .any ops Q fuel (L.foldl (fun l i => l.setIfInBounds i true) listed0) (L.foldl (fun a i => a.put (dstOf ops i) (vs i)) a0) w) :
    ∀ (R : List Nat), R.Nodup → (∀ i ∈ R, i ∈ L) → ∀ (vs : Nat → Value) (listed : Array Bool) (a : Act) (w : World), ExtInv2 ops L V listed0 a0 w0 R vs listed a w → wpAny P .any ops Q (fuel + R.length) listed a w := by
  simp only [okM, Bool.and_eq_true, List.all_eq_true, beq_iff_eq, decide_eq_true_eq] at hok
  obtain ⟨⟨⟨⟨hsz, hin⟩, hout⟩, hnd⟩, hdd⟩ := hok
  have hlt : ∀ i ∈ L, i < listed0.size := fun i hi => (Array.getElem?_eq_some_iff.1 (hin i hi).1).1
  have key : ∀ (n : Nat) (R : List Nat), R.length = n → R.Nodup → (∀ i ∈ R, i ∈ L) → ∀ (vs : Nat → Value) (listed : Array Bool) (a : Act) (w : World), ExtInv2 ops L V listed0 a0 w0 R vs listed a w → wpAny P .any ops Q (fuel + n) listed a w := by
    intro n
    induction n with
    | zero =>
      intro R hR _ _ vs listed a w hI
      obtain rfl := List.eq_nil_of_length_eq_zero hR
      have h1 : listed = L.foldl (fun l i => l.setIfInBounds i true) listed0 := by
        apply Array.ext_getElem?
        intro k
        rw [foldl_set_get L listed0 k hlt]
        by_cases hk : k ∈ L
        · rw [if_pos hk]; exact hI.done k hk (by simp)
        · rw [if_neg hk]; exact hI.rest k (.inl hk)
      have h2 : a = L.foldl (fun a i => a.put (dstOf ops i) (vs i)) a0 := by
        obtain ⟨s1, s2⟩ := foldl_put_size ops vs L a0
        have ht : a.tmps = (L.foldl (fun a i => a.put (dstOf ops i) (vs i)) a0).tmps := by
          apply Array.ext_getElem?
          intro t
          obtain ⟨g1, g2⟩ := foldl_put_get ops vs L a0 hdd hts t
          by_cases hx : ∃ i ∈ L, dstOf ops i = some t
          · obtain ⟨i, hi, he⟩ := hx
            rw [g2 i hi he]; exact hI.val i hi (by simp) t he
          · have hx' : ∀ i ∈ L, dstOf ops i ≠ some t := fun i hi he => hx ⟨i, hi, he⟩
            rw [g1 hx']; exact hI.other t (fun i hi _ => hx' i hi)
        have hd : a.defers = (L.foldl (fun a i => a.put (dstOf ops i) (vs i)) a0).defers := by rw [s2]; exact hI.defers
        cases a; cases hf : L.foldl (fun a i => a.put (dstOf ops i) (vs i)) a0
        rw [hf] at ht hd
        simp only at ht hd
        rw [ht, hd]
      rw [h1, h2]
      exact hend vs w (fun i hi => hI.prop i hi (by simp)) hI.below
    | succ n ih =>
      intro R hR hRn hRL vs listed a w hI
      have hfalse : ∀ i ∈ R, listed[i]? = some false := fun i hi => by rw [hI.rest i (.inr hi)]; exact (hin i (hRL i hi)).1
      refine ⟨fun hnone => ?_, fun i hi => ?_⟩
      · -- the least pending operation is ready
        exfalso
        have hex : ∃ i, i ∈ R := by cases R with | nil => simp at hR | cons x _ => exact ⟨x, by simp⟩
        obtain ⟨i, hi, hmin⟩ : ∃ i ∈ R, ∀ j ∈ R, i ≤ j := by
          have hwf := hex
          have hfind : ∀ (m : Nat), (∃ i ∈ R, i ≤ m) → ∃ i ∈ R, ∀ j ∈ R, i ≤ j := by
            intro m
            induction m with
            | zero => rintro ⟨i, hi, h0⟩; exact ⟨i, hi, fun j _ => by omega⟩
            | succ m ihm =>
              rintro ⟨i, hi, h0⟩
              by_cases hm : ∃ i ∈ R, i ≤ m
              · exact ihm hm
              · exact ⟨i, hi, fun j hj => by
                  have : ¬ j ≤ m := fun h => hm ⟨j, hj, h⟩
                  omega⟩
          obtain ⟨i, hi⟩ := hwf
          exact hfind i ⟨i, hi, Nat.le_refl _⟩
        have hr : i ∈ Region.ready .any ops listed := by
          rw [ready_iff]
          obtain ⟨h1, h2⟩ := hin i (hRL i hi)
          refine ⟨by have := hlt i (hRL i hi); omega, getD_of (hfalse i hi), ?_⟩
          cases ho : ops[i]? with
          | none => rw [ho] at h2; cases h2
          | some o =>
            rw [ho] at h2
            simp only [Option.map_some, Option.getD_some, Array.all_eq_true, Bool.or_eq_true, Bool.and_eq_true, decide_eq_true_eq] at h2 ⊢
            intro x hx
            rcases h2 x hx with h | ⟨h3, h4⟩
            · exact .inl h
            · refine .inr ?_
              by_cases hL : o.after[x].on ∈ L
              · have hnR : o.after[x].on ∉ R := fun h => by have := hmin _ h; omega
                exact getD_of (hI.done _ hL hnR)
              · rcases h4 with h4 | h4
                · have := hI.rest o.after[x].on (.inl hL)
                  rw [Array.getD_eq_getD_getElem?, this, ← Array.getD_eq_getD_getElem?]; exact h4
                · exact absurd (by simpa using h4) hL
        rw [hnone] at hr; simp at hr
      · rw [ready_iff] at hi
        obtain ⟨hi1, hi2, hi3⟩ := hi
        obtain ⟨r, hr⟩ : ∃ r, r ∈ R := by cases R with | nil => simp at hR | cons x _ => exact ⟨x, by simp⟩
        cases ho : ops[i]? with
        | none => rw [ho] at hi3; cases hi3
        | some o =>
          rw [ho] at hi3
          simp only [Option.map_some, Option.getD_some, Array.all_eq_true, Bool.or_eq_true] at hi3
          have hiL : i ∈ L := by
            have h := hout i (by simpa using hi1)
            simp only [Bool.or_eq_true] at h
            rcases h with (h | h) | h
            · by_cases hL : i ∈ L
              · exact hL
              · have := hI.rest i (.inl hL)
                rw [Array.getD_eq_getD_getElem?, this, ← Array.getD_eq_getD_getElem?, h] at hi2; cases hi2
            · simpa using h
            · simp only [List.all_eq_true] at h
              obtain ⟨k, hk, hd⟩ := reach_hit hI.closed (hRL) _ r (h r (hRL r hr)) hr
              simp only [direct, ho, Option.map_some, Option.getD_some, dep, Array.any_eq_true, Bool.and_eq_true, beq_iff_eq] at hd
              obtain ⟨x, hx, hb, he⟩ := hd
              rcases hi3 x hx with h5 | h5
              · rw [hb] at h5; cases h5
              · rw [he, getD_of (hfalse k hk)] at h5; cases h5
          have hiR : i ∈ R := by
            refine Classical.byContradiction fun h => ?_
            rw [getD_of (hI.done i hiL h)] at hi2; cases hi2
          refine wpOp_step ho fun K hK => ?_
          refine hstep i hiL o ho a w hI.below ?_ ?_ K (fun v w' hv hb => ?_)
          · intro t ht
            have := hI.other t (fun j hj _ => ht j hj)
            rw [Array.getD_eq_getD_getElem?, this, ← Array.getD_eq_getD_getElem?]
          · intro j hj hd t ht
            have hjR : j ∉ R := by
              intro hjR
              simp only [dep, Array.any_eq_true, Bool.and_eq_true, beq_iff_eq] at hd
              obtain ⟨x, hx, hb, he⟩ := hd
              rcases hi3 x hx with h5 | h5
              · rw [hb] at h5; cases h5
              · rw [he, getD_of (hfalse j hjR)] at h5; cases h5
            have hv := hI.val j hj hjR t ht
            rw [Array.getD_eq_getD_getElem?, hv]
            exact hI.prop j hj hjR
          · refine hK _ _ ?_
            refine ih (R.erase i) (by rw [List.length_erase_of_mem hiR]; omega) (hRn.erase i) (fun j hj => hRL j (List.mem_of_mem_erase hj)) (fun j => if j = i then v else vs j) _ _ _ ?_
            have hmem : ∀ j, j ∉ R.erase i ↔ (j ∉ R ∨ j = i) := fun j => by
              rw [hRn.mem_erase_iff]
              constructor
              · intro h; by_cases e : j = i
                · exact .inr e
                · exact .inl fun hj => h ⟨e, hj⟩
              · rintro (h | h) ⟨h1, h2⟩
                · exact h h2
                · exact h1 h
            have hdo : dstOf ops i = o.dst := by unfold dstOf; rw [ho]; rfl
            refine ⟨?_, by simpa using hI.size, ?_, ?_, ?_, ?_, ?_, ?_, ?_, ?_⟩
            · exact hI.below.trans (hb.mono hI.below.size)
            · intro k hk hkR
              rcases (hmem k).1 hkR with h | h
              · rw [Array.getElem?_setIfInBounds]
                split
                · rename_i e; subst e; rw [if_pos (by rw [hI.size]; exact hlt i hiL)]
                · exact hI.done k hk h
              · subst h; rw [Array.getElem?_setIfInBounds, if_pos rfl, if_pos (by rw [hI.size]; exact hlt k hk)]
            · intro k hk
              have hki : k ≠ i := by
                rintro rfl
                rcases hk with h | h
                · exact h hiL
                · exact (hRn.mem_erase_iff.1 h).1 rfl
              rw [Array.getElem?_setIfInBounds, if_neg (Ne.symm hki)]
              exact hI.rest k (hk.imp id fun h => (hRn.mem_erase_iff.1 h).2)
            · rw [← hI.defers]; unfold Act.put; split <;> rfl
            · rw [← hI.tsize]; unfold Act.put; split <;> simp
            · intro t ht
              have h1 : dstOf ops i ≠ some t := ht i hiL ((hmem i).2 (.inr rfl))
              rw [← hI.other t (fun j hj hjR => ht j hj ((hmem j).2 (.inl hjR)))]
              rw [hdo] at h1
              unfold Act.put
              split
              · rename_i d hd
                have : d ≠ t := by rintro rfl; exact h1 hd
                simp [this]
              · rfl
            · intro j hj hjR t ht
              by_cases hji : j = i
              · subst hji
                rw [if_pos rfl]
                have h2 : t < a.tmps.size := by rw [hI.tsize]; exact hts t (List.mem_filterMap.2 ⟨j, hj, ht⟩)
                rw [hdo] at ht
                rw [ht]
                simp [Act.put, h2]
              · rw [if_neg hji]
                have hjR' : j ∉ R := by rcases (hmem j).1 hjR with h | h; exact h; exact absurd h hji
                have h3 := hI.val j hj hjR' t ht
                rw [← h3]
                have hne : dstOf ops i ≠ some t := by
                  intro he
                  have h4 := hdd
                  -- two operations of one slot
                  have : ∀ (L : List Nat), (L.filterMap (dstOf ops)).Nodup → i ∈ L → j ∈ L → dstOf ops i = some t → dstOf ops j = some t → i = j := by
                    intro L
                    induction L with
                    | nil => intro _ h; simp at h
                    | cons x L ihL =>
                      intro hn hi hj h1 h2
                      rw [List.filterMap_cons] at hn
                      have hi' := List.mem_cons.1 hi
                      have hj' := List.mem_cons.1 hj
                      clear hi hj
                      rcases hi' with hi | hi
                      · rcases hj' with hj | hj
                        · rw [hi, hj]
                        · rw [← hi, h1] at hn
                          simp only [List.nodup_cons] at hn
                          exact absurd (List.mem_filterMap.2 ⟨j, hj, h2⟩) hn.1
                      · rcases hj' with hj | hj
                        · rw [← hj, h2] at hn
                          simp only [List.nodup_cons] at hn
                          exact absurd (List.mem_filterMap.2 ⟨i, hi, h1⟩) hn.1
                        · refine ihL ?_ hi hj h1 h2
                          split at hn
                          · exact hn
                          · exact (List.nodup_cons.1 hn).2
                  exact hji (this L h4 hiL hj he ht).symm
                rw [hdo] at hne
                unfold Act.put
                split
                · rename_i d hd
                  have : d ≠ t := by rintro rfl; exact hne hd
                  simp [this]
                · rfl
            · intro j hj hjR
              by_cases hji : j = i
              · subst hji; rw [if_pos rfl]; exact hv
              · rw [if_neg hji]
                have hjR' : j ∉ R := by rcases (hmem j).1 hjR with h | h; exact h; exact absurd h hji
                exact hstab j hj _ _ _ (hI.prop j hj hjR') hb
            · intro j hj hjR r hr2
              have hr3 := (hRn.mem_erase_iff.1 hr2).2
              rcases (hmem j).1 hjR with h | h
              · exact hI.closed j hj h r hr3
              · subst h
                cases hdr : direct ops j r
                · rfl
                · exfalso
                  simp only [direct, ho, Option.map_some, Option.getD_some, dep, Array.any_eq_true, Bool.and_eq_true, beq_iff_eq] at hdr
                  obtain ⟨x, hx, hb', he⟩ := hdr
                  rcases hi3 x hx with h5 | h5
                  · rw [hb'] at h5; cases h5
                  · rw [he, getD_of (hfalse r hr3)] at h5; cases h5
  intro R hRn hRL vs listed a w hI
  exact key R.length R rfl hRn hRL vs listed a w hI

/-- All of L, in whatever order. -/
theorem wpAny_ext2 (L : List Nat) (V : Nat → Value → World → Prop) {listed0 : Array Bool} {a0 : Act} {w0 : World} (hok : okM ops listed0 L = true) (hts : (L.filterMap (dstOf ops)).all (fun t => decide (t < a0.tmps.size)) = true)
    (hstep : ∀ i ∈ L, StepOK P ops Q L V a0 w0 i) (hstab : ∀ i ∈ L, ∀ v w w', V i v w → Below w.heap.size w w' → V i v w') {fuel m : Nat} (hf : m = fuel + L.length)
    (hend : ∀ (vs : Nat → Value) (w : World), (∀ i ∈ L, V i (vs i) w) → Below w0.heap.size w0 w → wpAny P .any ops Q fuel (L.foldl (fun l i => l.setIfInBounds i true) listed0) (L.foldl (fun a i => a.put (dstOf ops i) (vs i)) a0) w) :
    wpAny P .any ops Q m listed0 a0 w0 := by
  subst hf
  have hnd : L.Nodup := by
    have h := hok
    simp only [okM, Bool.and_eq_true, decide_eq_true_eq] at h
    exact h.1.2
  refine ext_go2 (P := P) (Q := Q) hok (fun t ht => by simpa using List.all_eq_true.1 hts t ht) hstep hstab hend L hnd (fun _ h => h) (fun _ => undef) listed0 a0 w0 ?_
  exact ⟨Below.refl _ _, rfl, fun k h1 h2 => absurd h1 h2, fun _ _ => rfl, rfl, rfl, fun _ _ => rfl, fun i h1 h2 => absurd h1 h2, fun i h1 h2 => absurd h1 h2, fun j h1 h2 => absurd h1 h2⟩
end
end Go.Proofs.Ytgimkipekoabbaa
