/-
  Chapter 20: what Check and Fits return; finding. No condition.
-/
import Derived.Test.YtpgdfhncigmmbaaA20
import Derived.StillTailTactics
import Derived.Lib.SliceRun
/-
  Plain mathematics of chapter 20: what Check and Fits return. No condition.
-/
namespace Go.Proofs.Ytpgdfhncigmmbaa

/-- The first that is not 0 of f 0 .. f (n - 1). -/
def firstE (f : Nat → Int) : Nat → Int
  | 0 => 0
  | n + 1 => if firstE f n ≠ 0 then firstE f n else f n
theorem firstE_zero {f : Nat → Int} {n : Nat} (h : ∀ j, j < n → f j = 0) : firstE f n = 0 := by
  induction n with
  | zero => rfl
  | succ n ih => unfold firstE; rw [ih (fun j hj => h j (by omega)), h n (by omega)]; simp
theorem firstE_hit {f : Nat → Int} {n k : Nat} (h : ∀ j, j < k → f j = 0) (hk : k < n) (hf : f k ≠ 0) : firstE f n = f k := by
  induction n with
  | zero => omega
  | succ n ih =>
    unfold firstE
    by_cases hkn : k = n
    · subst hkn; rw [firstE_zero h]; simp
    · rw [ih (by omega), if_pos hf]
theorem firstE_eq_zero {f : Nat → Int} {n : Nat} (h : firstE f n = 0) : ∀ j, j < n → f j = 0 := by
  induction n with
  | zero => intro j hj; omega
  | succ n ih =>
    unfold firstE at h
    by_cases h0 : firstE f n = 0
    · rw [if_neg (by simpa using h0)] at h
      intro j hj
      by_cases e : j = n
      · subst e; exact h
      · exact ih h0 j (by omega)
    · rw [if_pos h0] at h; exact absurd h h0
theorem firstE_ne {f : Nat → Int} {n : Nat} (h : firstE f n ≠ 0) : ∃ k, k < n ∧ firstE f n = f k ∧ f k ≠ 0 ∧ ∀ j, j < k → f j = 0 := by
  induction n with
  | zero => exact absurd rfl h
  | succ n ih =>
    by_cases h0 : firstE f n = 0
    · have hn := firstE_eq_zero h0
      unfold firstE at h ⊢
      rw [if_neg (by simpa using h0)] at h ⊢
      exact ⟨n, by omega, rfl, h, hn⟩
    · obtain ⟨k, h1, h2, h3, h4⟩ := ih h0
      unfold firstE
      rw [if_pos h0]
      exact ⟨k, by omega, h2, h3, h4⟩
theorem firstE_congr {f g : Nat → Int} {n : Nat} (h : ∀ j, j < n → f j = g j) : firstE f n = firstE g n := by
  induction n with
  | zero => rfl
  | succ n ih => unfold firstE; rw [ih (fun j hj => h j (by omega)), h n (by omega)]

/-- The name of element i stands ahead of it. -/
def colTwice (l : List Col) (i : Nat) : Bool := (l.take i).any fun d => decide (d.name = (l.getD i default).name)
def ixTwice (l : List Ix) (i : Nat) : Bool := (l.take i).any fun d => decide (d.name = (l.getD i default).name)
def kindB (k : Int) : Bool := decide (1 ≤ k ∧ k ≤ 3)
def colErr (l : List Col) (i : Nat) : Int :=
  if nameB (l.getD i default).name = false then 5 else if colTwice l i = true then 6 else if kindB (l.getD i default).kind = false then 7 else 0
def placeErr (l : List Int) (n : Nat) (i : Nat) : Int := if l.getD i 0 < 0 ∨ (n : Int) ≤ l.getD i 0 ∨ l.getD i 0 ∈ l.take i then 1 else 0
/-- Different places of n columns, at least one. -/
def placesB (l : List Int) (n : Nat) : Bool := decide (0 < l.length) && decide (firstE (placeErr l n) l.length = 0)
def ixErr (l : List Ix) (n : Nat) (i : Nat) : Int :=
  if nameB (l.getD i default).name = false then 5 else if ixTwice l i = true then 6 else if placesB (l.getD i default).cols n = false then 1 else 0
def chkPlaceB (x : Chk) (n : Nat) : Bool := decide (0 ≤ x.col ∧ x.col < n ∧ 6 ≤ x.op ∧ x.op ≤ 11)
def chkTypeB (x : Chk) (cols : List Col) : Bool := validB x.val && decide (x.val.kind = (cols.getD x.col.toNat default).kind)
def chkErr (l : List Chk) (cols : List Col) (i : Nat) : Int :=
  if chkPlaceB (l.getD i default) cols.length = false then 1 else if chkTypeB (l.getD i default) cols = false then 7 else 0
def colsE (l : List Col) : Int := firstE (colErr l) l.length
def ixsE (l : List Ix) (n : Nat) : Int := firstE (ixErr l n) l.length
def chksE (l : List Chk) (cols : List Col) : Int := firstE (chkErr l cols) l.length
/-- What Check returns. -/
def checkT (T : Tab) : Int :=
  if nameB T.name = false then 5
  else if T.cols.length = 0 ∨ 8 < T.cols.length then 2
  else if colsE T.cols ≠ 0 then colsE T.cols
  else if 4 < T.ixs.length then 2
  else if ixsE T.ixs T.cols.length ≠ 0 then ixsE T.ixs T.cols.length
  else if 4 < T.chks.length then 2
  else chksE T.chks T.cols

theorem checkT_name {T : Tab} (h : nameB T.name = false) : checkT T = 5 := by unfold checkT; rw [if_pos h]
theorem checkT_cols {T : Tab} (h : nameB T.name = true) (h1 : T.cols.length = 0 ∨ 8 < T.cols.length) : checkT T = 2 := by unfold checkT; rw [if_neg (by simp [h]), if_pos h1]
theorem checkT_colsE {T : Tab} (h : nameB T.name = true) (h1 : ¬ (T.cols.length = 0 ∨ 8 < T.cols.length)) (h2 : colsE T.cols ≠ 0) : checkT T = colsE T.cols := by
  unfold checkT; rw [if_neg (by simp [h]), if_neg h1, if_pos h2]
theorem checkT_ixs {T : Tab} (h : nameB T.name = true) (h1 : ¬ (T.cols.length = 0 ∨ 8 < T.cols.length)) (h2 : colsE T.cols = 0) (h3 : 4 < T.ixs.length) : checkT T = 2 := by
  unfold checkT; rw [if_neg (by simp [h]), if_neg h1, if_neg (by simpa using h2), if_pos h3]
theorem checkT_ixsE {T : Tab} (h : nameB T.name = true) (h1 : ¬ (T.cols.length = 0 ∨ 8 < T.cols.length)) (h2 : colsE T.cols = 0) (h3 : ¬ 4 < T.ixs.length) (h4 : ixsE T.ixs T.cols.length ≠ 0) : checkT T = ixsE T.ixs T.cols.length := by
  unfold checkT; rw [if_neg (by simp [h]), if_neg h1, if_neg (by simpa using h2), if_neg h3, if_pos h4]
theorem checkT_chks {T : Tab} (h : nameB T.name = true) (h1 : ¬ (T.cols.length = 0 ∨ 8 < T.cols.length)) (h2 : colsE T.cols = 0) (h3 : ¬ 4 < T.ixs.length) (h4 : ixsE T.ixs T.cols.length = 0) (h5 : 4 < T.chks.length) : checkT T = 2 := by
  unfold checkT; rw [if_neg (by simp [h]), if_neg h1, if_neg (by simpa using h2), if_neg h3, if_neg (by simpa using h4), if_pos h5]
theorem checkT_chksE {T : Tab} (h : nameB T.name = true) (h1 : ¬ (T.cols.length = 0 ∨ 8 < T.cols.length)) (h2 : colsE T.cols = 0) (h3 : ¬ 4 < T.ixs.length) (h4 : ixsE T.ixs T.cols.length = 0) (h5 : ¬ 4 < T.chks.length) : checkT T = chksE T.chks T.cols := by
  unfold checkT; rw [if_neg (by simp [h]), if_neg h1, if_neg (by simpa using h2), if_neg h3, if_neg (by simpa using h4), if_neg h5]

/-- Numbers below n that differ are at most n. -/
theorem nodup_le (n : Nat) : ∀ (l : List Int), (∀ x ∈ l, 0 ≤ x ∧ x < (n : Int)) → l.Nodup → l.length ≤ n := by
  induction n with
  | zero =>
    intro l h _
    cases l with
    | nil => simp
    | cons x l => have := h x (by simp); omega
  | succ n ih =>
    intro l h hd
    have h1 := ih (l.filter fun x => decide (x ≠ (n : Int))) (fun x hx => by
      obtain ⟨h1, h2⟩ := List.mem_filter.1 hx
      have := h x h1
      simp at h2
      omega) (hd.filter _)
    have h2 : l.length ≤ (l.filter fun x => decide (x ≠ (n : Int))).length + 1 := by
      clear h1 ih h
      induction l with
      | nil => simp
      | cons x l ihl =>
        have hd' := List.nodup_cons.1 hd
        by_cases e : x = (n : Int)
        · subst e
          have : l.filter (fun x => decide (x ≠ (n : Int))) = l := List.filter_eq_self.2 (fun y hy => by
            simp; intro e; subst e; exact hd'.1 hy)
          rw [List.filter_cons, if_neg (by simp), this]; simp
        · rw [List.filter_cons, if_pos (by simpa using e)]
          have := ihl hd'.2
          simp only [List.length_cons]; omega
    omega

theorem placesB_true {l : List Int} {n : Nat} (h : placesB l n = true) : 0 < l.length ∧ (∀ x ∈ l, 0 ≤ x ∧ x < (n : Int)) ∧ l.Nodup := by
  unfold placesB at h
  simp only [Bool.and_eq_true, decide_eq_true_eq] at h
  obtain ⟨h0, h1⟩ := h
  have h2 := firstE_eq_zero h1
  have h3 : ∀ j, j < l.length → 0 ≤ l.getD j 0 ∧ l.getD j 0 < (n : Int) ∧ l.getD j 0 ∉ l.take j := fun j hj => by
    have := h2 j hj
    unfold placeErr at this
    split at this
    · cases this
    · rename_i hn
      exact ⟨by omega, by omega, fun hm => hn (.inr (.inr hm))⟩
  refine ⟨h0, fun x hx => ?_, ?_⟩
  · obtain ⟨i, hi, rfl⟩ := List.getElem_of_mem hx
    have := h3 i hi
    rw [List.getD_eq_getElem?_getD, List.getElem?_eq_getElem hi] at this
    exact ⟨this.1, this.2.1⟩
  · rw [List.nodup_iff_pairwise_ne, List.pairwise_iff_getElem]
    intro i j hi hj hij e
    have := (h3 j hj).2.2
    rw [List.getD_eq_getElem?_getD, List.getElem?_eq_getElem hj] at this
    exact this (by rw [Option.getD_some, ← e]; exact List.mem_take_iff_getElem.2 ⟨i, by omega, rfl⟩)
theorem placesB_le {l : List Int} {n : Nat} (h : placesB l n = true) : l.length ≤ n := by
  obtain ⟨_, h1, h2⟩ := placesB_true h
  exact nodup_le n l h1 h2
theorem placesB_long {l : List Int} {n : Nat} (h : n < l.length) : placesB l n = false := by
  cases hp : placesB l n
  · rfl
  · have := placesB_le hp; omega
theorem placesB_nil {l : List Int} {n : Nat} (h : l.length = 0) : placesB l n = false := by unfold placesB; simp [h]
theorem placesB_hit {l : List Int} {n k : Nat} (h : ∀ j, j < k → placeErr l n j = 0) (hk : k < l.length) (hf : placeErr l n k ≠ 0) : placesB l n = false := by
  unfold placesB; rw [firstE_hit h hk hf]; simp [hf]
theorem placesB_all {l : List Int} {n : Nat} (h0 : 0 < l.length) (h : ∀ j, j < l.length → placeErr l n j = 0) : placesB l n = true := by
  unfold placesB; rw [firstE_zero h]; simp [h0]
end Go.Proofs.Ytpgdfhncigmmbaa

/-
  Plain lemmas on the first place with a property; predicates as function values. No condition.
-/
namespace Go.Proofs.Ytpgdfhncigmmbaa
open Go.RowKit

/-- The first place at which p holds, or -1. -/
def idxP {α : Type} (p : α → Bool) (l : List α) : Int := if l.any p = true then (l.findIdx p : Int) else -1
section
variable {α : Type} [Inhabited α] {p : α → Bool} {l : List α}
theorem getD_eq {k : Nat} (hk : k < l.length) : l.getD k default = l[k] := by rw [List.getD_eq_getElem?_getD, List.getElem?_eq_getElem hk]; rfl
theorem idxP_hit {k : Nat} (h : ∀ j, j < k → p (l.getD j default) = false) (hk : k < l.length) (hp : p (l.getD k default) = true) : idxP p l = k := by
  unfold idxP
  rw [if_pos (List.any_eq_true.2 ⟨_, getD_mem hk, hp⟩)]
  have : l.findIdx p = k := by
    refine (List.findIdx_eq hk).2 ⟨by rw [← getD_eq hk]; exact hp, fun j hj => ?_⟩
    have := h j hj
    rwa [getD_eq (by omega)] at this
  rw [this]
theorem idxP_miss (h : ∀ j, j < l.length → p (l.getD j default) = false) : idxP p l = -1 := by
  unfold idxP
  rw [if_neg]
  intro ha
  obtain ⟨x, hx, hp⟩ := List.any_eq_true.1 ha
  obtain ⟨i, hi, rfl⟩ := List.getElem_of_mem hx
  have := h i hi
  rw [getD_eq hi, hp] at this
  cases this
omit [Inhabited α] in
theorem idxP_nonneg (p : α → Bool) (l : List α) : decide ((0 : Int) ≤ idxP p l) = l.any p := by
  unfold idxP
  cases h : l.any p <;> simp
end

/-- A function value that says p of every x, in every world that keeps what lay in w. -/
def PredB {α : Type} (g : Nat) (lb : Array Value) (enc : α → Value) (p : α → Bool) (w : World) : Prop :=
  ∀ (W : World) (x : α), Below w.heap.size w W → Calls Try.prog g (#[enc x] ++ lb) W (RetV (.bool (p x)) W)

theorem name_beq (l m : List UInt8) : (l == m) = decide (l = m) := by rw [Bool.eq_iff_iff]; simp
theorem enters_fn {P : Program} {f : FuncId} {fn : Func} (hfn : P.funcs[f]? = some fn) (hn : (fn.name == "runtime.NumGoroutine") = false) (hbd : fn.body.isNone = false) (args : Array Value) (w : World) : (callFunc f args).run P w = .ok (.enter f args) w := by
  simp [callFunc, hfn]
  rw [if_neg (by simpa using hn), if_neg (by intro h; rw [h] at hbd; cases hbd)]
end Go.Proofs.Ytpgdfhncigmmbaa

/-
  The walks of IndexFunc, ContainsFunc and repeated at lists of columns. No condition.
-/
namespace Go.Proofs.Ytpgdfhncigmmbaa
open Go.RowKit

set_option maxRecDepth 20000 in
set_option maxHeartbeats 2000000 in
theorem cidx_any (p : Col → Bool) (g : Nat) (lb : Array Value) (eg : ∀ args w, (callFunc g args).run Try.prog w = .ok (.enter g args) w) (zs : List Col) (a : Option Addr) (n cap : Nat) (w : World)
    (hr : Rd w a n cap 3 (recC Col.enc zs)) (hp : PredB g lb Col.v p w) :
    Calls Try.prog 95 #[.slice a n cap, .func (.func g) #[] lb] w (RetV (.int .i64 (idxP p zs)) w) := by
  have hln := hr.rlen Col.enc_len (by omega)
  have hmax := hr.lenMax
  have R := Box.mk hr; clear hr
  have HP := Box.mk hp; clear hp
  go_enter Try.func95, Try.ntmps95
  go_wp2_with fail
  go_loopg [5, 8] n (fun gg _ s8 wr => ∃ k : Nat, k ≤ n ∧ n - k ≤ gg ∧ s8 = .int .i64 k ∧ Box (Below w.heap.size w wr) ∧ Box (∀ j, j < k → p (zs.getD j default) = false))
  case atStart => exact ⟨0, Nat.zero_le _, by omega, rfl, ⟨Below.refl _ w⟩, ⟨fun j hj => by omega⟩⟩
  case round =>
    obtain ⟨k, hk, hg, rfl, BW, A⟩ := hrel
    by_cases hlt : k < n
    · obtain ⟨b, off, rfl, hb, hc⟩ := (R.out.below BW.out (Nat.le_refl _)).recAt Col.enc_len (by omega) k hlt
      have hcall := HP.out wr (zs.getD k default) BW.out
      cases hq : p (zs.getD k default) with
      | true =>
        have HI := Box.mk (idxP_hit (p := p) (l := zs) (k := k) A.out (by omega) hq)
        rw [hq] at hcall
        generalize zs.getD k default = y at *
        obtain ⟨nm, kd, nl⟩ := y
        have c0 := hc 0 _ rfl
        have c1 := hc 1 _ rfl
        have c2 := hc 2 _ rfl
        clear hc hq
        simp only [Col.v, Nat.add_zero] at hcall c0 c1 c2
        go_wp2_with fail
        refine hcall.mono ?_
        rintro e w' ⟨rfl, hb'⟩
        clear hcall
        go_wp2_with fail
        go_ret
        exact ⟨by rw [HI.out]; rfl, BW.out.trans (hb'.mono BW.out.size)⟩
      | false =>
        have HI := Box.mk (show ∀ j, j < k + 1 → p (zs.getD j default) = false from fun j hj => by
          by_cases e : j = k
          · subst e; exact hq
          · exact A.out j (by omega))
        rw [hq] at hcall
        generalize zs.getD k default = y at *
        obtain ⟨nm, kd, nl⟩ := y
        have c0 := hc 0 _ rfl
        have c1 := hc 1 _ rfl
        have c2 := hc 2 _ rfl
        clear hc hq
        simp only [Col.v, Nat.add_zero] at hcall c0 c1 c2
        go_wp2_with fail
        refine hcall.mono ?_
        rintro e w' ⟨rfl, hb'⟩
        clear hcall
        go_wp2_with fail
        go_roundg (n - (k + 1))
        case measure => omega
        case rel => exact ⟨k + 1, by omega, by omega, by go_num, ⟨BW.out.trans (hb'.mono BW.out.size)⟩, HI⟩
    · have hkn : k = n := by omega
      have HI := Box.mk (idxP_miss (p := p) (l := zs) (fun j hj => A.out j (by omega)))
      go_wp2_with fail
      go_ret
      exact ⟨by rw [HI.out]; rfl, BW.out⟩

set_option maxRecDepth 20000 in
set_option maxHeartbeats 2000000 in
theorem ccontains_any (p : Col → Bool) (g : Nat) (lb : Array Value) (eg : ∀ args w, (callFunc g args).run Try.prog w = .ok (.enter g args) w) (zs : List Col) (a : Option Addr) (n cap : Nat) (w : World)
    (hr : Rd w a n cap 3 (recC Col.enc zs)) (hp : PredB g lb Col.v p w) :
    Calls Try.prog 89 #[.slice a n cap, .func (.func g) #[] lb] w (RetV (.bool (zs.any p)) w) := by
  have HC := Box.mk (cidx_any p g lb eg zs a n cap w hr hp)
  have HD := idxP_nonneg p zs
  generalize idxP p zs = i at *
  generalize zs.any p = d at *
  go_enter Try.func89, Try.ntmps89
  go_wp2_with fail
  refine HC.out.mono ?_
  rintro e w1 ⟨rfl, hb⟩
  go_wp2_with fail
  go_ret
  exact ⟨by first | rfl | rw [HD], hb⟩

/-- The literal in Check: two columns of one name. -/
theorem csame_any (x y : Col) (w : World) : Calls Try.prog 75 #[x.v, y.v] w (RetV (.bool (x.name == y.name)) w) := by
  obtain ⟨n1, k1, u1⟩ := x
  obtain ⟨n2, k2, u2⟩ := y
  unfold Col.v
  generalize hd : (n1 == n2) = d
  go_enter Try.func75, Try.ntmps75
  go_wp2_with fail
  go_ret
  exact ⟨by rw [← hd]; rfl, ((Below.refl _ _).alloc (Nat.le_refl _) _).alloc (by simp) _⟩

set_option maxRecDepth 20000 in
set_option maxHeartbeats 2000000 in
/-- The literal in repeated. -/
theorem crep1_any (zs : List Col) (i : Nat) (a : Option Addr) (n cap : Nat) (bf bl bi : Nat) (w : World) (hr : Rd w a n cap 3 (recC Col.enc zs)) (hi : i < n)
    (hf : w.cell? ⟨bf, 0, none⟩ = some (.func (.func 75) #[] #[])) (hl : w.cell? ⟨bl, 0, none⟩ = some (.slice a n cap)) (hii : w.cell? ⟨bi, 0, none⟩ = some (.int .i64 i)) :
    PredB 90 #[.pointer (some ⟨bf, 0, none⟩), .pointer (some ⟨bl, 0, none⟩), .pointer (some ⟨bi, 0, none⟩)] Col.v (fun x => x.name == (zs.getD i default).name) w := by
  intro W x hb
  have f1 := cell_block_lt hf
  have f2 := cell_block_lt hl
  have f3 := cell_block_lt hii
  have g1 := (hb.cell (p := ⟨bf, 0, none⟩) f1).trans hf
  have g2 := (hb.cell (p := ⟨bl, 0, none⟩) f2).trans hl
  have g3 := (hb.cell (p := ⟨bi, 0, none⟩) f3).trans hii
  have hs := hb.size
  have hz1 : bf < W.heap.size := by simp only at f1; omega
  have hz2 : bl < W.heap.size := by simp only at f2; omega
  have hz3 : bi < W.heap.size := by simp only at f3; omega
  obtain ⟨b, off, rfl, hg, hc⟩ := (hr.below hb (Nat.le_refl _)).recAt Col.enc_len (by omega) i hi
  have hmax := hr.lenMax
  clear hr hf hl hii hb f1 f2 f3 hs
  have HC := Box.mk (fun W => csame_any x (zs.getD i default) W)
  show Calls _ _ _ _ (RetV (.bool (x.name == (zs.getD i default).name)) W)
  generalize zs.getD i default = y at *
  obtain ⟨n1, k1, u1⟩ := x
  obtain ⟨n2, k2, u2⟩ := y
  have c0 := hc 0 _ rfl
  have c1 := hc 1 _ rfl
  have c2 := hc 2 _ rfl
  clear hc
  simp only [Col.v, Nat.add_zero] at HC c0 c1 c2 ⊢
  generalize (n1 == n2) = d at *
  simp only [List.append_toArray, List.cons_append, List.nil_append] 
  go_enter Try.func90, Try.ntmps90
  go_wp2_with fail
  have x0 := cell_block_lt c0
  have e1 := Lib.cell?_alloc_some (.cells #[.string ⟨n1.toArray⟩, .int .i64 k1, .bool u1] 55) g1
  have e2 := Lib.cell?_alloc_some (.cells #[.string ⟨n1.toArray⟩, .int .i64 k1, .bool u1] 55) g2
  have e3 := Lib.cell?_alloc_some (.cells #[.string ⟨n1.toArray⟩, .int .i64 k1, .bool u1] 55) g3
  have d0 := Lib.cell?_alloc_some (.cells #[.string ⟨n1.toArray⟩, .int .i64 k1, .bool u1] 55) c0
  have d1 := Lib.cell?_alloc_some (.cells #[.string ⟨n1.toArray⟩, .int .i64 k1, .bool u1] 55) c1
  have d2 := Lib.cell?_alloc_some (.cells #[.string ⟨n1.toArray⟩, .int .i64 k1, .bool u1] 55) c2
  have hB := Blk.new (w := W) (k := W.heap.size) (ty := 55) (cs := [.string ⟨n1.toArray⟩, .int .i64 k1, .bool u1]) rfl rfl
  have y0 := hB.cellOf (i := 0) rfl
  have y1 := hB.cellOf (i := 1) rfl
  have y2 := hB.cellOf (i := 2) rfl
  have BA := Box.mk ((Below.refl W.heap.size W).alloc (Nat.le_refl _) (.cells #[.string ⟨n1.toArray⟩, .int .i64 k1, .bool u1] 55))
  clear hB g1 g2 g3 c0 c1 c2 x0 hz1 hz2 hz3 hg
  generalize (W.alloc (.cells #[.string ⟨n1.toArray⟩, .int .i64 k1, .bool u1] 55)) = W1 at *
  have BS := Box.mk BA.out.size
  generalize hQ : RetV (.bool d) W = Q
  have HQ := Box.mk hQ
  clear hQ
  generalize hbb : W.heap.size = bb at *
  go_still_tail 6, (by kernel_rfl)
  change wpList _ _ _ _ _ (World.drew _)
  go_wp2_with fail
  refine (HC.out _).mono ?_
  rintro e w' ⟨rfl, hb'⟩
  clear HC
  go_wp2_with fail
  go_ret
  first | rw [← HQ.out] | skip
  refine ⟨rfl, ?_⟩
  rw [hbb]
  exact BA.out.drew.trans (hb'.mono BS.out)

set_option maxRecDepth 20000 in
set_option maxHeartbeats 2000000 in
theorem crepeated_any (zs : List Col) (i : Nat) (a : Option Addr) (n cap : Nat) (w : World) (hr : Rd w a n cap 3 (recC Col.enc zs)) (hi : i < n) :
    Calls Try.prog 74 #[.slice a n cap, .int .i64 i, .func (.func 75) #[] #[]] w (RetV (.bool (colTwice zs i)) w) := by
  have hmf : ∀ (fn : Fn) (first cap : Array Value) (w : World), (Instr.makeFunc fn first cap).run Try.prog w = .ok (.func fn first cap) w := fun _ _ _ _ => rfl
  have hmax := hr.lenMax
  have hcap := hr.hcap
  have eg : ∀ args w, (callFunc 90 args).run Try.prog w = .ok (.enter 90 args) w := enters_fn Try.func90 (by kernel_rfl) (by kernel_rfl)
  have BA : Below w.heap.size w (((w.alloc (.cells #[.slice a n cap] 22)).alloc (.cells #[.int .i64 i] 3)).alloc (.cells #[.func (.func 75) #[] #[]] 104)) :=
    (((Below.refl _ _).alloc (Nat.le_refl _) _).alloc (by simp) _).alloc (by simp; omega) _
  have HE := Box.mk (show (zs.take i).any (fun x => x.name == (zs.getD i default).name) = colTwice zs i from by
    unfold colTwice; simp only [name_beq])
  have HC := Box.mk (ccontains_any (fun x => x.name == (zs.getD i default).name) 90 #[.pointer (some ⟨w.heap.size + 1 + 1, 0, none⟩), .pointer (some ⟨w.heap.size, 0, none⟩), .pointer (some ⟨w.heap.size + 1, 0, none⟩)] eg (zs.take i) a i cap
    (((w.alloc (.cells #[.slice a n cap] 22)).alloc (.cells #[.int .i64 i] 3)).alloc (.cells #[.func (.func 75) #[] #[]] 104))
    (((hr.preK Col.enc_len i (by omega)).alloc _).alloc _ |>.alloc _)
    (crep1_any zs i a n cap _ _ _ _ (((hr.alloc _).alloc _).alloc _) hi
      ((Blk.new (cs := [.func (.func 75) #[] #[]]) (by simp) rfl).cellOf (i := 0) rfl)
      ((((Blk.new (cs := [.slice a n cap]) rfl rfl).alloc _).alloc _).cellOf (i := 0) rfl)
      (((Blk.new (cs := [.int .i64 i]) (by simp) rfl).alloc _).cellOf (i := 0) rfl)))
  rw [HE.out] at HC
  generalize colTwice zs i = d at *
  clear HE hr
  go_enter Try.func74, Try.ntmps74
  go_wp2_with fail
  refine HC.out.mono ?_
  rintro e w1 ⟨rfl, hb⟩
  go_wp2_with fail
  go_ret
  exact ⟨rfl, BA.trans (hb.mono BA.size)⟩
end Go.Proofs.Ytpgdfhncigmmbaa

/-
  The walks of IndexFunc, ContainsFunc and repeated at lists of indexes. No condition.
-/
namespace Go.Proofs.Ytpgdfhncigmmbaa
open Go.RowKit

set_option maxRecDepth 20000 in
set_option maxHeartbeats 2000000 in
theorem iidx_any (p : IxP → Bool) (g : Nat) (lb : Array Value) (eg : ∀ args w, (callFunc g args).run Try.prog w = .ok (.enter g args) w) (zs : List IxP) (a : Option Addr) (n cap : Nat) (w : World)
    (hr : Rd w a n cap 3 (recC IxP.enc zs)) (hp : PredB g lb IxP.v p w) :
    Calls Try.prog 96 #[.slice a n cap, .func (.func g) #[] lb] w (RetV (.int .i64 (idxP p zs)) w) := by
  have hln := hr.rlen IxP.enc_len (by omega)
  have hmax := hr.lenMax
  have R := Box.mk hr; clear hr
  have HP := Box.mk hp; clear hp
  go_enter Try.func96, Try.ntmps96
  go_wp2_with fail
  go_loopg [5, 8] n (fun gg _ s8 wr => ∃ k : Nat, k ≤ n ∧ n - k ≤ gg ∧ s8 = .int .i64 k ∧ Box (Below w.heap.size w wr) ∧ Box (∀ j, j < k → p (zs.getD j default) = false))
  case atStart => exact ⟨0, Nat.zero_le _, by omega, rfl, ⟨Below.refl _ w⟩, ⟨fun j hj => by omega⟩⟩
  case round =>
    obtain ⟨k, hk, hg, rfl, BW, A⟩ := hrel
    by_cases hlt : k < n
    · obtain ⟨b, off, rfl, hb, hc⟩ := (R.out.below BW.out (Nat.le_refl _)).recAt IxP.enc_len (by omega) k hlt
      have hcall := HP.out wr (zs.getD k default) BW.out
      cases hq : p (zs.getD k default) with
      | true =>
        have HI := Box.mk (idxP_hit (p := p) (l := zs) (k := k) A.out (by omega) hq)
        rw [hq] at hcall
        generalize zs.getD k default = y at *
        obtain ⟨⟨nm, kd, nl⟩, ya, yc⟩ := y
        have c0 := hc 0 _ rfl
        have c1 := hc 1 _ rfl
        have c2 := hc 2 _ rfl
        clear hc hq
        simp only [IxP.v, Nat.add_zero] at hcall c0 c1 c2
        go_wp2_with fail
        refine hcall.mono ?_
        rintro e w' ⟨rfl, hb'⟩
        clear hcall
        go_wp2_with fail
        go_ret
        exact ⟨by rw [HI.out]; rfl, BW.out.trans (hb'.mono BW.out.size)⟩
      | false =>
        have HI := Box.mk (show ∀ j, j < k + 1 → p (zs.getD j default) = false from fun j hj => by
          by_cases e : j = k
          · subst e; exact hq
          · exact A.out j (by omega))
        rw [hq] at hcall
        generalize zs.getD k default = y at *
        obtain ⟨⟨nm, kd, nl⟩, ya, yc⟩ := y
        have c0 := hc 0 _ rfl
        have c1 := hc 1 _ rfl
        have c2 := hc 2 _ rfl
        clear hc hq
        simp only [IxP.v, Nat.add_zero] at hcall c0 c1 c2
        go_wp2_with fail
        refine hcall.mono ?_
        rintro e w' ⟨rfl, hb'⟩
        clear hcall
        go_wp2_with fail
        go_roundg (n - (k + 1))
        case measure => omega
        case rel => exact ⟨k + 1, by omega, by omega, by go_num, ⟨BW.out.trans (hb'.mono BW.out.size)⟩, HI⟩
    · have hkn : k = n := by omega
      have HI := Box.mk (idxP_miss (p := p) (l := zs) (fun j hj => A.out j (by omega)))
      go_wp2_with fail
      go_ret
      exact ⟨by rw [HI.out]; rfl, BW.out⟩

set_option maxRecDepth 20000 in
set_option maxHeartbeats 2000000 in
theorem icontains_any (p : IxP → Bool) (g : Nat) (lb : Array Value) (eg : ∀ args w, (callFunc g args).run Try.prog w = .ok (.enter g args) w) (zs : List IxP) (a : Option Addr) (n cap : Nat) (w : World)
    (hr : Rd w a n cap 3 (recC IxP.enc zs)) (hp : PredB g lb IxP.v p w) :
    Calls Try.prog 91 #[.slice a n cap, .func (.func g) #[] lb] w (RetV (.bool (zs.any p)) w) := by
  have HC := Box.mk (iidx_any p g lb eg zs a n cap w hr hp)
  have HD := idxP_nonneg p zs
  generalize idxP p zs = i at *
  generalize zs.any p = d at *
  go_enter Try.func91, Try.ntmps91
  go_wp2_with fail
  refine HC.out.mono ?_
  rintro e w1 ⟨rfl, hb⟩
  go_wp2_with fail
  go_ret
  exact ⟨by first | rfl | rw [HD], hb⟩

/-- The literal in Check: two indexes of one name. -/
theorem isame_any (x y : IxP) (w : World) : Calls Try.prog 77 #[x.v, y.v] w (RetV (.bool (x.x.name == y.x.name)) w) := by
  obtain ⟨⟨n1, k1, u1⟩, a1, p1⟩ := x
  obtain ⟨⟨n2, k2, u2⟩, a2, p2⟩ := y
  unfold IxP.v
  generalize hd : (n1 == n2) = d
  go_enter Try.func77, Try.ntmps77
  go_wp2_with fail
  go_ret
  exact ⟨by rw [← hd]; rfl, ((Below.refl _ _).alloc (Nat.le_refl _) _).alloc (by simp) _⟩

set_option maxRecDepth 20000 in
set_option maxHeartbeats 2000000 in
/-- The literal in repeated. -/
theorem irep1_any (zs : List IxP) (i : Nat) (a : Option Addr) (n cap : Nat) (bf bl bi : Nat) (w : World) (hr : Rd w a n cap 3 (recC IxP.enc zs)) (hi : i < n)
    (hf : w.cell? ⟨bf, 0, none⟩ = some (.func (.func 77) #[] #[])) (hl : w.cell? ⟨bl, 0, none⟩ = some (.slice a n cap)) (hii : w.cell? ⟨bi, 0, none⟩ = some (.int .i64 i)) :
    PredB 92 #[.pointer (some ⟨bf, 0, none⟩), .pointer (some ⟨bl, 0, none⟩), .pointer (some ⟨bi, 0, none⟩)] IxP.v (fun x => x.x.name == (zs.getD i default).x.name) w := by
  intro W x hb
  have f1 := cell_block_lt hf
  have f2 := cell_block_lt hl
  have f3 := cell_block_lt hii
  have g1 := (hb.cell (p := ⟨bf, 0, none⟩) f1).trans hf
  have g2 := (hb.cell (p := ⟨bl, 0, none⟩) f2).trans hl
  have g3 := (hb.cell (p := ⟨bi, 0, none⟩) f3).trans hii
  have hs := hb.size
  have hz1 : bf < W.heap.size := by simp only at f1; omega
  have hz2 : bl < W.heap.size := by simp only at f2; omega
  have hz3 : bi < W.heap.size := by simp only at f3; omega
  obtain ⟨b, off, rfl, hg, hc⟩ := (hr.below hb (Nat.le_refl _)).recAt IxP.enc_len (by omega) i hi
  have hmax := hr.lenMax
  clear hr hf hl hii hb f1 f2 f3 hs
  have HC := Box.mk (fun W => isame_any x (zs.getD i default) W)
  show Calls _ _ _ _ (RetV (.bool (x.x.name == (zs.getD i default).x.name)) W)
  generalize zs.getD i default = y at *
  obtain ⟨⟨n1, k1, u1⟩, a1, p1⟩ := x
  obtain ⟨⟨n2, k2, u2⟩, a2, p2⟩ := y
  have c0 := hc 0 _ rfl
  have c1 := hc 1 _ rfl
  have c2 := hc 2 _ rfl
  clear hc
  simp only [IxP.v, Nat.add_zero] at HC c0 c1 c2 ⊢
  generalize (n1 == n2) = d at *
  simp only [List.append_toArray, List.cons_append, List.nil_append] 
  go_enter Try.func92, Try.ntmps92
  go_wp2_with fail
  have x0 := cell_block_lt c0
  have e1 := Lib.cell?_alloc_some (.cells #[.string ⟨n1.toArray⟩, .slice a1 k1.length p1, .bool u1] 91) g1
  have e2 := Lib.cell?_alloc_some (.cells #[.string ⟨n1.toArray⟩, .slice a1 k1.length p1, .bool u1] 91) g2
  have e3 := Lib.cell?_alloc_some (.cells #[.string ⟨n1.toArray⟩, .slice a1 k1.length p1, .bool u1] 91) g3
  have d0 := Lib.cell?_alloc_some (.cells #[.string ⟨n1.toArray⟩, .slice a1 k1.length p1, .bool u1] 91) c0
  have d1 := Lib.cell?_alloc_some (.cells #[.string ⟨n1.toArray⟩, .slice a1 k1.length p1, .bool u1] 91) c1
  have d2 := Lib.cell?_alloc_some (.cells #[.string ⟨n1.toArray⟩, .slice a1 k1.length p1, .bool u1] 91) c2
  have hB := Blk.new (w := W) (k := W.heap.size) (ty := 91) (cs := [.string ⟨n1.toArray⟩, .slice a1 k1.length p1, .bool u1]) rfl rfl
  have y0 := hB.cellOf (i := 0) rfl
  have y1 := hB.cellOf (i := 1) rfl
  have y2 := hB.cellOf (i := 2) rfl
  have BA := Box.mk ((Below.refl W.heap.size W).alloc (Nat.le_refl _) (.cells #[.string ⟨n1.toArray⟩, .slice a1 k1.length p1, .bool u1] 91))
  clear hB g1 g2 g3 c0 c1 c2 x0 hz1 hz2 hz3 hg
  generalize (W.alloc (.cells #[.string ⟨n1.toArray⟩, .slice a1 k1.length p1, .bool u1] 91)) = W1 at *
  have BS := Box.mk BA.out.size
  generalize hQ : RetV (.bool d) W = Q
  have HQ := Box.mk hQ
  clear hQ
  generalize hbb : W.heap.size = bb at *
  go_still_tail 6, (by kernel_rfl)
  change wpList _ _ _ _ _ (World.drew _)
  go_wp2_with fail
  refine (HC.out _).mono ?_
  rintro e w' ⟨rfl, hb'⟩
  clear HC
  go_wp2_with fail
  go_ret
  first | rw [← HQ.out] | skip
  refine ⟨rfl, ?_⟩
  rw [hbb]
  exact BA.out.drew.trans (hb'.mono BS.out)

set_option maxRecDepth 20000 in
set_option maxHeartbeats 2000000 in
theorem irepeated_any (zs : List IxP) (i : Nat) (a : Option Addr) (n cap : Nat) (w : World) (hr : Rd w a n cap 3 (recC IxP.enc zs)) (hi : i < n) :
    Calls Try.prog 76 #[.slice a n cap, .int .i64 i, .func (.func 77) #[] #[]] w (RetV (.bool (ixTwice (zs.map (·.x)) i)) w) := by
  have hmf : ∀ (fn : Fn) (first cap : Array Value) (w : World), (Instr.makeFunc fn first cap).run Try.prog w = .ok (.func fn first cap) w := fun _ _ _ _ => rfl
  have hmax := hr.lenMax
  have hcap := hr.hcap
  have eg : ∀ args w, (callFunc 92 args).run Try.prog w = .ok (.enter 92 args) w := enters_fn Try.func92 (by kernel_rfl) (by kernel_rfl)
  have BA : Below w.heap.size w (((w.alloc (.cells #[.slice a n cap] 23)).alloc (.cells #[.int .i64 i] 3)).alloc (.cells #[.func (.func 77) #[] #[]] 106)) :=
    (((Below.refl _ _).alloc (Nat.le_refl _) _).alloc (by simp) _).alloc (by simp; omega) _
  have HE := Box.mk (show (zs.take i).any (fun x => x.x.name == (zs.getD i default).x.name) = ixTwice (zs.map (·.x)) i from by
    unfold ixTwice; rw [← List.map_take, List.any_map, getD_map_x]; simp only [name_beq]; rfl)
  have HC := Box.mk (icontains_any (fun x => x.x.name == (zs.getD i default).x.name) 92 #[.pointer (some ⟨w.heap.size + 1 + 1, 0, none⟩), .pointer (some ⟨w.heap.size, 0, none⟩), .pointer (some ⟨w.heap.size + 1, 0, none⟩)] eg (zs.take i) a i cap
    (((w.alloc (.cells #[.slice a n cap] 23)).alloc (.cells #[.int .i64 i] 3)).alloc (.cells #[.func (.func 77) #[] #[]] 106))
    (((hr.preK IxP.enc_len i (by omega)).alloc _).alloc _ |>.alloc _)
    (irep1_any zs i a n cap _ _ _ _ (((hr.alloc _).alloc _).alloc _) hi
      ((Blk.new (cs := [.func (.func 77) #[] #[]]) (by simp) rfl).cellOf (i := 0) rfl)
      ((((Blk.new (cs := [.slice a n cap]) rfl rfl).alloc _).alloc _).cellOf (i := 0) rfl)
      (((Blk.new (cs := [.int .i64 i]) (by simp) rfl).alloc _).cellOf (i := 0) rfl)))
  rw [HE.out] at HC
  generalize ixTwice (zs.map (·.x)) i = d at *
  clear HE hr
  go_enter Try.func76, Try.ntmps76
  go_wp2_with fail
  refine HC.out.mono ?_
  rintro e w1 ⟨rfl, hb⟩
  go_wp2_with fail
  go_ret
  exact ⟨rfl, BA.trans (hb.mono BA.size)⟩
end Go.Proofs.Ytpgdfhncigmmbaa

/-
  The walks of slices.Index, Contains at lists of integers. No condition.
-/
namespace Go.Proofs.Ytpgdfhncigmmbaa
open Go.RowKit

/-- The place of a number, or -1. -/
def idx (l : List Int) (x : Int) : Int := if x ∈ l then (l.idxOf x : Int) else -1

set_option maxRecDepth 20000 in
set_option maxHeartbeats 1000000 in
theorem index_any (l : List Int) (x : Int) (a : Option Addr) (n cap : Nat) (w : World) (hrd : Rd w a n cap 1 (intVals l)) :
    Calls Try.prog 69 #[.slice a n cap, .int .i64 x] w fun e w' => e = .returned (.int .i64 (idx l x)) ∧ w' = w := by
  have hln := hrd.ilen
  have hmax := hrd.lenMax
  have R := Box.mk hrd; clear hrd
  go_enter Try.func69, Try.ntmps69
  go_wp2_with fail
  go_loopw [8] (fun i wr => ∃ k : Nat, k ≤ n ∧ i = .int .i64 k ∧ (∀ j, j < k → l.getD j 0 ≠ x) ∧ wr = w) (fun i _ => n - (intOf i).toNat)
  case atStart => exact ⟨0, Nat.zero_le _, rfl, fun j h => by omega, rfl⟩
  case round =>
    obtain ⟨k, hk, rfl, hne, rfl⟩ := hrel
    have HNE := Box.mk hne; clear hne
    by_cases hl : k < n
    · obtain ⟨g, off, rfl, hc⟩ := R.out.intAtD k hl
      by_cases hx : x = l.getD k 0
      · have hxx : (x == l.getD k 0) = true := by simp only [beq_iff_eq]; exact hx
        have hidx : idx l x = (k : Int) := by
          have hkl : k < l.length := by omega
          have e : l.getD k 0 = l[k] := by rw [List.getD_eq_getElem?_getD, List.getElem?_eq_getElem hkl]; rfl
          have hm : x ∈ l := by rw [hx, e]; exact List.getElem_mem hkl
          unfold idx
          rw [if_pos hm]
          have h2 : l.idxOf x = k := by
            have h3 : l.idxOf x < l.length := List.idxOf_lt_length_iff.2 hm
            have h4 : l[l.idxOf x] = x := List.getElem_idxOf h3
            rcases Nat.lt_trichotomy (l.idxOf x) k with h5 | h5 | h5
            · exact absurd (by rw [List.getD_eq_getElem?_getD, List.getElem?_eq_getElem h3]; exact h4) (HNE.out _ h5)
            · exact h5
            · have h6 := List.not_of_lt_findIdx (p := (· == x)) (xs := l) (i := k) h5
              simp only [beq_eq_false_iff_ne] at h6
              exact absurd (hx.trans e).symm h6
          rw [h2]
        have HI := Box.mk hidx; clear hidx
        generalize l.getD k 0 = y at *
        subst hx
        go_wp2_with fail
        go_ret
        exact ⟨by rw [HI.out]; rfl, rfl⟩
      · have hxx : (x == l.getD k 0) = false := by simp only [beq_eq_false_iff_ne]; exact hx
        have hnx := Box.mk hx; clear hx
        generalize hy : l.getD k 0 = y at *
        have HY := Box.mk hy; clear hy
        go_wp2_with fail
        go_roundw
        case rel => exact ⟨k + 1, by omega, by go_num, fun j hj => by
          by_cases e : j = k
          · subst e; rw [HY.out]; exact fun h => hnx.out h.symm
          · exact HNE.out j (by omega), trivial⟩
        case measure => simp [intOf]; omega
    · have hidx : idx l x = -1 := by
        unfold idx
        rw [if_neg]
        intro hm
        obtain ⟨j, hj, he⟩ := List.getElem_of_mem hm
        exact HNE.out j (by omega) (by rw [List.getD_eq_getElem?_getD, List.getElem?_eq_getElem hj]; exact he)
      have HI := Box.mk hidx; clear hidx
      go_wp2_with fail
      go_ret
      exact ⟨by rw [HI.out]; rfl, rfl⟩

set_option maxRecDepth 20000 in
theorem contains_any (l : List Int) (x : Int) (a : Option Addr) (n cap : Nat) (w : World) (hrd : Rd w a n cap 1 (intVals l)) :
    Calls Try.prog 52 #[.slice a n cap, .int .i64 x] w fun e w' => e = .returned (.bool (decide (x ∈ l))) ∧ w' = w := by
  have HC := Box.mk (index_any l x a n cap w hrd)
  have hd : decide ((0 : Int) ≤ idx l x) = decide (x ∈ l) := by
    unfold idx
    by_cases hm : x ∈ l
    · rw [if_pos hm]; simp [hm]
    · rw [if_neg hm]; simp [hm]
  generalize idx l x = i at *
  generalize decide (x ∈ l) = d at *
  go_enter Try.func52, Try.ntmps52
  go_wp2_with fail
  refine HC.out.mono ?_
  rintro e w1 ⟨rfl, rfl⟩
  go_wp2_with fail
  go_ret
  exact ⟨by first | rfl | rw [hd], rfl⟩

end Go.Proofs.Ytpgdfhncigmmbaa

/-
  Lemmas for the walks of Check. No condition.
-/
namespace Go.Proofs.Ytpgdfhncigmmbaa
open Go.RowKit

theorem name_is {s : List UInt8} {b : Bool} (h : nameB s = b) (w : World) : Calls Try.prog 73 #[.string ⟨s.toArray⟩] w fun e w' => e = .returned (.bool b) ∧ Below w.heap.size w w' := by
  subst h; exact name_any s w
theorem crep_is {zs : List Col} {i : Nat} {d : Bool} (h : colTwice zs i = d) {a : Option Addr} {n cap : Nat} {w : World} (hr : Rd w a n cap 3 (recC Col.enc zs)) (hi : i < n) :
    Calls Try.prog 74 #[.slice a n cap, .int .i64 i, .func (.func 75) #[] #[]] w (RetV (.bool d) w) := by
  subst h; exact crepeated_any zs i a n cap w hr hi
theorem irep_is {zs : List IxP} {i : Nat} {d : Bool} (h : ixTwice (zs.map (·.x)) i = d) {a : Option Addr} {n cap : Nat} {w : World} (hr : Rd w a n cap 3 (recC IxP.enc zs)) (hi : i < n) :
    Calls Try.prog 76 #[.slice a n cap, .int .i64 i, .func (.func 77) #[] #[]] w (RetV (.bool d) w) := by
  subst h; exact irepeated_any zs i a n cap w hr hi

theorem valid_is {k n : Int} {s : List UInt8} {b : Bool} (h : validB ⟨k, n, s⟩ = b) (w : World) : Calls Try.prog 55 #[.agg #[.int .i64 k, .int .i64 n, .string ⟨s.toArray⟩]] w fun e w' => e = .returned (.bool b) ∧ Below w.heap.size w w' := by
  subst h; exact valid_any k n s w

theorem nm_valid : (Try.f55.name == "runtime.NumGoroutine") = false := by kernel_rfl
theorem bd_valid : Try.f55.body.isNone = false := by kernel_rfl
theorem agg40 : AggT Try.prog 59 3 := ⟨by kernel_rfl, by kernel_rfl⟩

theorem colErr_name {l : List Col} {i : Nat} {y : Col} (hy : l.getD i default = y) (h : nameB y.name = false) : colErr l i = 5 := by subst hy; unfold colErr; rw [if_pos h]
theorem colErr_twice {l : List Col} {i : Nat} {y : Col} (hy : l.getD i default = y) (h : nameB y.name = true) (h2 : colTwice l i = true) : colErr l i = 6 := by subst hy; unfold colErr; rw [h, if_neg (by decide), if_pos h2]
theorem colErr_kind {l : List Col} {i : Nat} {y : Col} (hy : l.getD i default = y) (h : nameB y.name = true) (h2 : colTwice l i = false) (h3 : kindB y.kind = false) : colErr l i = 7 := by
  subst hy; unfold colErr; rw [h, if_neg (by decide), h2, if_neg (by decide), if_pos h3]
theorem colErr_ok {l : List Col} {i : Nat} {y : Col} (hy : l.getD i default = y) (h : nameB y.name = true) (h2 : colTwice l i = false) (h3 : kindB y.kind = true) : colErr l i = 0 := by
  subst hy; unfold colErr; rw [h, if_neg (by decide), h2, if_neg (by decide), h3, if_neg (by decide)]
theorem ixErr_name {l : List Ix} {n i : Nat} {y : Ix} (hy : l.getD i default = y) (h : nameB y.name = false) : ixErr l n i = 5 := by subst hy; unfold ixErr; rw [if_pos h]
theorem ixErr_twice {l : List Ix} {n i : Nat} {y : Ix} (hy : l.getD i default = y) (h : nameB y.name = true) (h2 : ixTwice l i = true) : ixErr l n i = 6 := by subst hy; unfold ixErr; rw [h, if_neg (by decide), if_pos h2]
theorem ixErr_place {l : List Ix} {n i : Nat} {y : Ix} (hy : l.getD i default = y) (h : nameB y.name = true) (h2 : ixTwice l i = false) (h3 : placesB y.cols n = false) : ixErr l n i = 1 := by
  subst hy; unfold ixErr; rw [h, if_neg (by decide), h2, if_neg (by decide), if_pos h3]
theorem ixErr_ok {l : List Ix} {n i : Nat} {y : Ix} (hy : l.getD i default = y) (h : nameB y.name = true) (h2 : ixTwice l i = false) (h3 : placesB y.cols n = true) : ixErr l n i = 0 := by
  subst hy; unfold ixErr; rw [h, if_neg (by decide), h2, if_neg (by decide), h3, if_neg (by decide)]
theorem chkErr_place {l : List Chk} {cols : List Col} {i : Nat} {y : Chk} (hy : l.getD i default = y) (h : chkPlaceB y cols.length = false) : chkErr l cols i = 1 := by subst hy; unfold chkErr; rw [if_pos h]
theorem chkErr_type {l : List Chk} {cols : List Col} {i : Nat} {y : Chk} (hy : l.getD i default = y) (h : chkPlaceB y cols.length = true) (h2 : chkTypeB y cols = false) : chkErr l cols i = 7 := by subst hy; unfold chkErr; rw [h, if_neg (by decide), if_pos h2]
theorem chkErr_ok {l : List Chk} {cols : List Col} {i : Nat} {y : Chk} (hy : l.getD i default = y) (h : chkPlaceB y cols.length = true) (h2 : chkTypeB y cols = true) : chkErr l cols i = 0 := by
  subst hy; unfold chkErr; rw [h, if_neg (by decide), h2, if_neg (by decide)]
theorem placeErr_neg {l : List Int} {n i : Nat} {y : Int} (hy : l.getD i 0 = y) (h : y < 0) : placeErr l n i = 1 := by subst hy; unfold placeErr; rw [if_pos (.inl h)]
theorem placeErr_far {l : List Int} {n i : Nat} {y : Int} (hy : l.getD i 0 = y) (h : (n : Int) ≤ y) : placeErr l n i = 1 := by subst hy; unfold placeErr; rw [if_pos (.inr (.inl h))]
theorem placeErr_mem {l : List Int} {n i : Nat} {y : Int} (hy : l.getD i 0 = y) (h : decide (y ∈ l.take i) = true) : placeErr l n i = 1 := by subst hy; unfold placeErr; rw [if_pos (.inr (.inr (by simpa using h)))]
theorem placeErr_ok {l : List Int} {n i : Nat} {y : Int} (hy : l.getD i 0 = y) (h0 : 0 ≤ y) (h1 : y < (n : Int)) (h : decide (y ∈ l.take i) = false) : placeErr l n i = 0 := by
  subst hy; unfold placeErr; rw [if_neg]
  rintro (h2 | h2 | h2)
  · omega
  · omega
  · exact (of_decide_eq_false h) h2
theorem intVals_take (l : List Int) (k : Nat) : intVals (l.take k) = (intVals l).take k := by simp [intVals, List.map_take]

theorem all_succ {f : Nat → Int} {k : Nat} (h : ∀ j, j < k → f j = 0) (hk : f k = 0) : ∀ j, j < k + 1 → f j = 0 := fun j hj => by
  by_cases e : j = k
  · subst e; exact hk
  · exact h j (by omega)

theorem rname_is {s : List UInt8} {b : Bool} (h : nameB s = b) (w : World) : Calls Try.prog 60 #[.string ⟨s.toArray⟩] w fun e w' => e = .returned (.bool b) ∧ Below w.heap.size w w' := by
  subst h; exact rname_any s w
theorem colTwice_hit {l : List Col} {i m : Nat} (hm : m < i) (hi : i < l.length) (h : (l.getD m default).name = (l.getD i default).name) : colTwice l i = true := by
  unfold colTwice
  refine List.any_eq_true.2 ⟨l.getD m default, ?_, decide_eq_true h⟩
  rw [getD_eq (show m < l.length by omega)]
  exact List.mem_take_iff_getElem.2 ⟨m, by omega, rfl⟩
theorem colTwice_none {l : List Col} {i : Nat} (h : ∀ j, j < i → (l.getD j default).name ≠ (l.getD i default).name) : colTwice l i = false := by
  unfold colTwice
  rw [List.any_eq_false]
  intro x hx
  obtain ⟨m, hm, rfl⟩ := List.mem_take_iff_getElem.1 hx
  have := h m (by omega)
  rw [getD_eq (show m < l.length by omega)] at this
  simpa using this
theorem ixTwice_hit {l : List Ix} {i m : Nat} (hm : m < i) (hi : i < l.length) (h : (l.getD m default).name = (l.getD i default).name) : ixTwice l i = true := by
  unfold ixTwice
  refine List.any_eq_true.2 ⟨l.getD m default, ?_, decide_eq_true h⟩
  rw [getD_eq (show m < l.length by omega)]
  exact List.mem_take_iff_getElem.2 ⟨m, by omega, rfl⟩
theorem ixTwice_none {l : List Ix} {i : Nat} (h : ∀ j, j < i → (l.getD j default).name ≠ (l.getD i default).name) : ixTwice l i = false := by
  unfold ixTwice
  rw [List.any_eq_false]
  intro x hx
  obtain ⟨m, hm, rfl⟩ := List.mem_take_iff_getElem.1 hx
  have := h m (by omega)
  rw [getD_eq (show m < l.length by omega)] at this
  simpa using this
end Go.Proofs.Ytpgdfhncigmmbaa

/-
  Plain mathematics of chapter 20: what Fits returns. No condition.
-/
namespace Go.Proofs.Ytpgdfhncigmmbaa
open Go.RowKit

def valErr (cols : List Col) (r : List Val) (i : Nat) : Int :=
  if nullB (r.getD i default) = true then (if (cols.getD i default).null = true then 0 else 200)
  else if (validB (r.getD i default) && decide ((r.getD i default).kind = (cols.getD i default).kind)) = true then 0 else 7
def holdErr (chks : List Chk) (r : List Val) (i : Nat) : Int :=
  if (decide ((r.getD (chks.getD i default).col.toNat default).kind ≠ 0) && !holdsB (chks.getD i default).op (cmpV (r.getD (chks.getD i default).col.toNat default) (chks.getD i default).val)) = true then 201 else 0
/-- What Fits returns. -/
def fitsT (T : Tab) (r : List Val) : Int :=
  if checkT T ≠ 0 then checkT T
  else if r.length ≠ T.cols.length then 1
  else if firstE (valErr T.cols r) r.length ≠ 0 then firstE (valErr T.cols r) r.length
  else firstE (holdErr T.chks r) T.chks.length
theorem fitsT_check {T : Tab} {r : List Val} {v : Int} (h : checkT T = v) (hv : v ≠ 0) : fitsT T r = v := by unfold fitsT; rw [h, if_pos hv]
theorem fitsT_len {T : Tab} {r : List Val} (h : checkT T = 0) (h1 : r.length ≠ T.cols.length) : fitsT T r = 1 := by unfold fitsT; rw [h, if_neg (by decide), if_pos h1]
theorem fitsT_val {T : Tab} {r : List Val} {k : Nat} {v : Int} (h : checkT T = 0) (h1 : r.length = T.cols.length) (hz : ∀ j, j < k → valErr T.cols r j = 0) (hk : k < r.length) (h2 : valErr T.cols r k = v) (hv : v ≠ 0) : fitsT T r = v := by
  have := firstE_hit hz hk (by rw [h2]; exact hv)
  unfold fitsT; rw [h, if_neg (by decide), if_neg (by simp [h1]), this, h2, if_pos hv]
theorem fitsT_hold {T : Tab} {r : List Val} {k : Nat} (h : checkT T = 0) (h1 : r.length = T.cols.length) (hz : ∀ j, j < r.length → valErr T.cols r j = 0) (hc : ∀ j, j < k → holdErr T.chks r j = 0) (hk : k < T.chks.length) (h2 : holdErr T.chks r k = 201) : fitsT T r = 201 := by
  have := firstE_hit hc hk (by rw [h2]; decide)
  unfold fitsT; rw [h, if_neg (by decide), if_neg (by simp [h1]), firstE_zero hz, if_neg (by decide), this, h2]
theorem fitsT_ok {T : Tab} {r : List Val} (h : checkT T = 0) (h1 : r.length = T.cols.length) (hz : ∀ j, j < r.length → valErr T.cols r j = 0) (hc : ∀ j, j < T.chks.length → holdErr T.chks r j = 0) : fitsT T r = 0 := by
  unfold fitsT; rw [h, if_neg (by decide), if_neg (by simp [h1]), firstE_zero hz, if_neg (by decide), firstE_zero hc]

/-- What a valid table has. -/
structure TabOk (T : Tab) : Prop where
  name : nameB T.name = true
  cols0 : 0 < T.cols.length
  cols8 : T.cols.length ≤ 8
  colsE : colsE T.cols = 0
  ixs4 : T.ixs.length ≤ 4
  ixsE : ixsE T.ixs T.cols.length = 0
  chks4 : T.chks.length ≤ 4
  chksE : chksE T.chks T.cols = 0
theorem checkT_ok {T : Tab} (h : checkT T = 0) : TabOk T := by
  unfold checkT at h
  split at h
  · cases h
  rename_i h1
  split at h
  · cases h
  rename_i h2
  split at h
  · rename_i h3; exact absurd h h3
  rename_i h3
  split at h
  · cases h
  rename_i h4
  split at h
  · rename_i h5; exact absurd h h5
  rename_i h5
  split at h
  · cases h
  rename_i h6
  exact ⟨by simpa using h1, by omega, by omega, by simpa using h3, by omega, by simpa using h5, by omega, h⟩
theorem TabOk.check {T : Tab} (h : TabOk T) : checkT T = 0 := by
  have h0 := h.cols0; have h1 := h.cols8; have h2 := h.ixs4; have h3 := h.chks4
  unfold checkT
  rw [h.name, if_neg (by decide), if_neg (by omega), h.colsE, if_neg (by decide), if_neg (by omega), h.ixsE, if_neg (by decide), if_neg (by omega), h.chksE]
theorem TabOk.chk {T : Tab} (h : TabOk T) {i : Nat} (hi : i < T.chks.length) : 0 ≤ (T.chks.getD i default).col ∧ (T.chks.getD i default).col < T.cols.length ∧ 6 ≤ (T.chks.getD i default).op ∧ (T.chks.getD i default).op ≤ 11 ∧ validB (T.chks.getD i default).val = true ∧ (T.chks.getD i default).val.kind = (T.cols.getD (T.chks.getD i default).col.toNat default).kind := by
  have h1 := firstE_eq_zero h.chksE i hi
  unfold chkErr at h1
  split at h1
  · cases h1
  rename_i h2
  split at h1
  · cases h1
  rename_i h3
  simp only [Bool.not_eq_false] at h2 h3
  unfold chkPlaceB at h2
  unfold chkTypeB at h3
  simp only [decide_eq_true_eq, Bool.and_eq_true] at h2 h3
  exact ⟨h2.1, h2.2.1, h2.2.2.1, h2.2.2.2, h3.1, h3.2⟩

/-- '==' of two values. -/
theorem run_eqV (x y : Val) (w : World) : (binOp .eql 59 (.agg #[.int .i64 x.kind, .int .i64 x.n, .string ⟨x.s.toArray⟩]) (.agg #[.int .i64 y.kind, .int .i64 y.n, .string ⟨y.s.toArray⟩])).run Try.prog w = .ok (.bool (decide (x = y))) w := by
  obtain ⟨xk, xn, xs⟩ := x
  obtain ⟨yk, yn, ys⟩ := y
  have h : (decide ((⟨xk, xn, xs⟩ : Val) = ⟨yk, yn, ys⟩)) = (decide (xk = yk) && (decide (xn = yn) && (xs == ys))) := by
    rw [name_beq, Bool.eq_iff_iff]; simp [Val.mk.injEq]
  rw [h, name_beq]
  go_simp
  by_cases h1 : xk = yk <;> by_cases h2 : xn = yn <;> by_cases h3 : xs = ys <;> simp [h1, h2, h3]
theorem nullB_eq (y : Val) : nullB y = decide (y = ⟨0, 0, []⟩) := by
  obtain ⟨yk, yn, ys⟩ := y
  unfold nullB
  rw [Bool.eq_iff_iff]; simp [Val.mk.injEq, and_assoc]

/-- A row in memory. -/
def RowRd (w : World) (a : Option Addr) (n cap : Nat) (r : List Val) : Prop := Rd w a n cap 3 (recC Val.enc r)

theorem valErr_null {cols : List Col} {r : List Val} {i : Nat} {v : Val} {c : Col} (hv : r.getD i default = v) (hc : cols.getD i default = c) (h : nullB v = true) (h2 : c.null = false) : valErr cols r i = 200 := by
  subst hv; subst hc; unfold valErr; rw [h, if_pos rfl, h2, if_neg (by decide)]
theorem valErr_nullOk {cols : List Col} {r : List Val} {i : Nat} {v : Val} {c : Col} (hv : r.getD i default = v) (hc : cols.getD i default = c) (h : nullB v = true) (h2 : c.null = true) : valErr cols r i = 0 := by
  subst hv; subst hc; unfold valErr; rw [h, if_pos rfl, h2, if_pos rfl]
theorem valErr_type {cols : List Col} {r : List Val} {i : Nat} {v : Val} {c : Col} (hv : r.getD i default = v) (hc : cols.getD i default = c) (h : nullB v = false) (h2 : (validB v && decide (v.kind = c.kind)) = false) : valErr cols r i = 7 := by
  subst hv; subst hc; unfold valErr; rw [h, if_neg (by decide), h2, if_neg (by decide)]
theorem valErr_ok {cols : List Col} {r : List Val} {i : Nat} {v : Val} {c : Col} (hv : r.getD i default = v) (hc : cols.getD i default = c) (h : nullB v = false) (h2 : (validB v && decide (v.kind = c.kind)) = true) : valErr cols r i = 0 := by
  subst hv; subst hc; unfold valErr; rw [h, if_neg (by decide), h2, if_pos rfl]
theorem holdErr_no {chks : List Chk} {r : List Val} {i : Nat} {x : Chk} {v : Val} (hx : chks.getD i default = x) (hv : r.getD x.col.toNat default = v) (h : v.kind ≠ 0) (h2 : holdsB x.op (cmpV v x.val) = false) : holdErr chks r i = 201 := by
  subst hx; subst hv; unfold holdErr; rw [decide_eq_true h, h2]; rfl
theorem holdErr_null {chks : List Chk} {r : List Val} {i : Nat} {x : Chk} {v : Val} (hx : chks.getD i default = x) (hv : r.getD x.col.toNat default = v) (h : v.kind = 0) : holdErr chks r i = 0 := by
  subst hx; subst hv; unfold holdErr; rw [decide_eq_false (by simpa using h), if_neg (by simp)]
theorem holdErr_ok {chks : List Chk} {r : List Val} {i : Nat} {x : Chk} {v : Val} (hx : chks.getD i default = x) (hv : r.getD x.col.toNat default = v) (h2 : holdsB x.op (cmpV v x.val) = true) : holdErr chks r i = 0 := by
  subst hx; subst hv; unfold holdErr; rw [h2, if_neg (by simp)]
end Go.Proofs.Ytpgdfhncigmmbaa
