/-
  Decode's deferred closure; what Decode's walk keeps; how it ends in a panic. No condition.
-/
import Derived.Test.YtpgdfhncigmmbaaWVal
import Derived.Defers
import Derived.Recover
namespace Go.Proofs.Ytpgdfhncigmmbaa
open Go.RowKit

set_option maxRecDepth 20000 in
set_option maxHeartbeats 2000000 in
theorem catch_idle (p q r : Addr) (w : World) : CallsD Try.prog 39 #[.pointer (some p), .pointer (some q), .pointer (some r)] .returning w fun e u' w' => e = .returned (.tuple #[]) ∧ u' = .returning ∧ w' = w := by
  refine callsD_of_wpS Try.func39 rfl fun c₀ cs hu => ?_
  apply wpS_seq
  apply wpS_region
  simp [wpOpsS, go_sem, recoverD, hu, Try.ntmps39, Exit.thenS]
  refine wpS_of_wp ?_
  cases c₀
  simp only at hu
  subst hu
  simp only [Array.replicate, List.replicate]
  go_wp2_with fail
  exact ⟨rfl, _, rfl, .tuple #[], by simp [results, go_sem, Try.results39], rfl, rfl, rfl⟩
theorem oneS (a : Option Addr) (n c : Nat) : ∀ u ∈ [Value.slice a n c], u.oneCell' = true := by intro u hu; simp at hu; subst hu; rfl
set_option maxRecDepth 20000 in
set_option maxHeartbeats 2000000 in
theorem catch_panic (B p q r : Nat) (w : World) (x y z : Value) (O : Own B w [BlkP p 28 [x], BlkP q 3 [y], BlkP r 33 [z]]) : CallsD Try.prog 39 #[.pointer (some ⟨p, 0, none⟩), .pointer (some ⟨q, 0, none⟩), .pointer (some ⟨r, 0, none⟩)] (.panicking [{ v := errV, recovered := false }]) w fun e u' w' =>
    e = .returned (.tuple #[]) ∧ u' = .panicking [{ v := errV, recovered := true }] ∧ Below B w w' ∧ Own B w' [BlkP p 28 [.slice none 0 0], BlkP q 3 [.int .i64 0], BlkP r 33 [.int .i64 3]] := by
  have hta : ∀ w, (Instr.typeAssert (.iface 33 (.int .i64 3)) 20 33 false).run Try.prog w = .ok (.int .i64 3) w := fun w => rfl
  have HO := Box.mk O.drew
  have HB := Box.mk ((Below.refl B w).drew)
  clear O
  refine callsD_of_wpS Try.func39 rfl fun c₀ cs hu => ?_
  apply wpS_seq
  apply wpS_region
  simp [wpOpsS, go_sem, recoverD, hu, Try.ntmps39, Exit.thenS]
  refine wpS_of_wp ?_
  cases c₀
  simp only [Array.replicate, List.replicate, errV]
  go_wp2_with fail
  refine wp_region_held_drew (S := fun _ => True) (by kernel_rfl) trivial (fun _ => ?_)
  have HC := Box.mk (And.intro HO.out HB.out)
  refine wpAnyH_take (i := 0) (v := ?_) rfl (by kernel_rfl) (by kernel_rfl) (by kernel_rfl) (fun _ _ _ h => h) (yieldsIf_val (by rfl) (fun w' hS => ?_)) trivial ?_
  rotate_left
  · skip
    go_simp
    all_goals with_reducible rfl
  conv =>
    arg 8
    simp [go_sem]
  refine wpAnyH_take (i := 1) (v := ?_) rfl (by kernel_rfl) (by kernel_rfl) (by kernel_rfl) (fun _ _ _ h => h) (yieldsIf_val (by rfl) (fun w' hS => ?_)) trivial ?_
  rotate_left
  · skip
    have q := hta w'
    go_simp
    all_goals with_reducible rfl
  conv =>
    arg 8
    simp [go_sem]
  conv =>
    arg 8
    simp [go_sem]
  refine wpAnyH_ready (rs := [2]) (by kernel_rfl) (by simp) ?_
  refine AllReadyH.cons rfl (fun K' hK' => ?_) AllReadyH.nil
  refine oper_store_part (by rfl) 28 (.tmp 0) (.const (.slice none 0 0)) rfl rfl (size := 1) (off := 0) (by kernel_rfl) (HC.out.1.blk 0 rfl).1 (by simp) rfl (cs := [.slice none 0 0]) rfl rfl (oneS _ _ _) ?_
  rw [show splice [x] 0 [.slice none 0 0] = [.slice none 0 0] from rfl]
  have HX := HC.out.1.setRow 0 rfl [.slice none 0 0]
  have HO1 := Box.mk (And.intro HX.1 (HC.out.2.trans HX.2))
  clear HX
  refine hK'.out _ _ trivial (fun _ => ?_)
  clear hK' K'
  conv =>
    arg 8
    simp [go_sem]
  conv =>
    arg 8
    simp [go_sem]
  refine wpAnyH_ready (rs := [3]) (by kernel_rfl) (by simp) ?_
  refine AllReadyH.cons rfl (fun K' hK' => ?_) AllReadyH.nil
  refine oper_store_part (by rfl) 3 (.tmp 1) (.const (.int .i64 0)) rfl rfl (size := 1) (off := 0) (by kernel_rfl) (HO1.out.1.blk 1 rfl).1 (by simp) rfl (cs := [.int .i64 0]) rfl rfl (oneI _) ?_
  rw [show splice [y] 0 [.int .i64 0] = [.int .i64 0] from rfl]
  have HX := HO1.out.1.setRow 1 rfl [.int .i64 0]
  have HO2 := Box.mk (And.intro HX.1 (HO1.out.2.trans HX.2))
  clear HX
  refine hK'.out _ _ trivial (fun _ => ?_)
  clear hK' K'
  conv =>
    arg 8
    simp [go_sem]
  conv =>
    arg 8
    simp [go_sem]
  refine wpAnyH_ready (rs := [4]) (by kernel_rfl) (by simp) ?_
  refine AllReadyH.cons rfl (fun K' hK' => ?_) AllReadyH.nil
  refine oper_store_part (by rfl) 33 (.tmp 2) (.tmp 8) rfl rfl (size := 1) (off := 0) (by kernel_rfl) (HO2.out.1.blk 2 rfl).1 (by simp) rfl (cs := [.int .i64 3]) rfl rfl (oneI _) ?_
  rw [show splice [z] 0 [.int .i64 3] = [.int .i64 3] from rfl]
  have HX := HO2.out.1.setRow 2 rfl [.int .i64 3]
  have HO3 := Box.mk (And.intro HX.1 (HO2.out.2.trans HX.2))
  clear HX
  refine hK'.out _ _ trivial (fun _ => ?_)
  clear hK' K'
  conv =>
    arg 8
    simp [go_sem]
  refine ⟨by kernel_rfl, ?_⟩
  go_wp2_with fail
  exact ⟨rfl, _, rfl, .tuple #[], by simp [results, go_sem, Try.results39], rfl, rfl, HO3.out.2, HO3.out.1⟩
  done
/-- The rows that have been read off the columns, and the words behind them. -/
def decTo (cols : List Col) (n nulls : Nat) (l : List Int) : Nat → Option (List Val × List Int)
  | 0 => some ([], l)
  | k + 1 => (decTo cols n nulls l k).bind fun p =>
    if n ≤ k ∨ nulls / 2 ^ k % 2 = 1 then (if (cols.getD k default).null = true then some (p.1 ++ [zval], p.2) else none)
    else (rdV (cols.getD k default).kind p.2).map fun q => (p.1 ++ [q.1], q.2)
/-- The row at the beginning of some words, and how many words it has. -/
def decT (T : Tab) (l : List Int) : Option (List Val × Nat) := (rdW lim40 l).bind fun h =>
  if (h.1 / 256).toNat < 1 ∨ T.cols.length < (h.1 / 256).toNat ∨ (h.1 % 256).toNat / 2 ^ (h.1 / 256).toNat ≠ 0 then none
  else (decTo T.cols (h.1 / 256).toNat (h.1 % 256).toNat h.2 T.cols.length).map fun p => (p.1, l.length - p.2.length)
def decV (o : Option (List Val × Nat)) : List Val := (o.map (·.1)).getD []
def decN (o : Option (List Val × Nat)) : Nat := (o.map (·.2)).getD 0
def decE (o : Option (List Val × Nat)) : Int := if o.isSome then 0 else 3
/-- A row of the call's own, a number, an error. -/
def RetDec (o : Option (List Val × Nat)) (w : World) (e : Ending) (w' : World) : Prop := Below w.heap.size w w' ∧ ∃ a c, e = .returned (.tuple #[.slice a (decV o).length c, .int .i64 (decN o), .int .i64 (decE o)]) ∧ w'.ownsRow w.heap.size 59 3 (.slice a (decV o).length c) (decV o).length (recC Val.enc (decV o))
theorem decTo_lt {cols : List Col} {n nulls k m : Nat} {l : List Int} (h : decTo cols n nulls l k = none) (hk : k ≤ m) : decTo cols n nulls l m = none := by
  induction m with
  | zero => obtain rfl : k = 0 := by omega
            exact h
  | succ m ih =>
    by_cases e : k = m + 1
    · subst e; exact h
    · unfold decTo; rw [ih (by omega)]; rfl
theorem decTo_len {cols : List Col} {n nulls : Nat} {l : List Int} : ∀ {k : Nat} {p : List Val × List Int}, decTo cols n nulls l k = some p → p.1.length = k
  | 0, p, h => by simp only [decTo, Option.some.injEq] at h; subst h; rfl
  | k + 1, p, h => by
    unfold decTo at h
    obtain ⟨q, h1, h2⟩ := Option.bind_eq_some_iff.1 h
    have := decTo_len h1
    split at h2
    · split at h2
      · simp only [Option.some.injEq] at h2; subst h2; simp; omega
      · cases h2
    · obtain ⟨r, h3, rfl⟩ := Option.map_eq_some_iff.1 h2
      simp; omega

/-- Decode's cells: its table, its row's, its number's, its error's, the reader's; the row. -/
structure DSt (w wr : World) (X : TabP) (la : Option Addr) (ln lc : Nat) (l : List Int) (k : Nat) (a : Option Addr) (m c : Nat) (vs : List Val) : Prop where
  o : Own w.heap.size wr [BlkP w.heap.size 26 X.cs, BlkP (w.heap.size + 1) 28 [.slice a m c], BlkP (w.heap.size + 2) 3 [.int .i64 0], BlkP (w.heap.size + 3) 33 [.int .i64 0],
    BlkP (w.heap.size + 4) 68 [.slice la ln lc, .int .i64 k], RowP 59 3 a m c (recC Val.enc vs)]
  b : Below w.heap.size w wr
  le : k ≤ ln
variable {w wr : World} {X : TabP} {la : Option Addr} {ln lc : Nat} {l : List Int} {k : Nat} {a : Option Addr} {m c : Nat} {vs : List Val}
theorem DSt.step {w' : World} (h : DSt w wr X la ln lc l k a m c vs) (hb : Below wr.heap.size wr w') : DSt w w' X la ln lc l k a m c vs :=
  ⟨h.o.below hb, h.b.trans (hb.mono h.b.size), h.le⟩
theorem DSt.drew (h : DSt w wr X la ln lc l k a m c vs) : DSt w wr.drew X la ln lc l k a m c vs := ⟨h.o.drew, h.b.drew, h.le⟩
theorem DSt.rdr (h : DSt w wr X la ln lc l k a m c vs) (hl : Rd w la ln lc 1 (intVals l)) : Rdr w.heap.size wr (w.heap.size + 4) la ln lc l k :=
  ⟨(h.o.blk 4 rfl).1, hl.below h.b (Nat.le_refl _), h.le, fun ad ha h0 => by
    obtain ⟨b, off, h1, h2⟩ := hl.at 0 h0
    rw [ha] at h1; cases h1
    exact cell_block_lt (h2 0 (by have := hl.hlen; omega))⟩
theorem DSt.call {w' : World} {k' : Nat} (h : DSt w wr X la ln lc l k a m c vs) (hr : Rdr w.heap.size w' (w.heap.size + 4) la ln lc l k') (hb : But [w.heap.size + 4] wr w') : DSt w w' X la ln lc l k' a m c vs := by
  obtain ⟨F, ⟨_, hF⟩, _, h2⟩ := h.o.turn 4 rfl
  subst hF
  obtain ⟨h3, h4⟩ := h2 (BlkP (w.heap.size + 4) 68 [.slice la ln lc, .int .i64 k']) w' [w.heap.size + 4] (BlkP.stb _ _ _) hb ⟨hr.blk, rfl⟩ (fun x hx => .inl hx)
  exact ⟨h3, h.b.trans h4, hr.le⟩
/-- Ready to die. -/
structure DDd (w wr : World) (a : Option Addr) (m c : Nat) : Prop where
  o : Own w.heap.size wr [BlkP (w.heap.size + 1) 28 [.slice a m c], BlkP (w.heap.size + 2) 3 [.int .i64 0], BlkP (w.heap.size + 3) 33 [.int .i64 0]]
  b : Below w.heap.size w wr
theorem DSt.dd (h : DSt w wr X la ln lc l k a m c vs) : DDd w wr a m c := ⟨((h.o.drop 5).drop 4).drop 0, h.b⟩
theorem DDd.step {w' : World} (h : DDd w wr a m c) (hb : Below wr.heap.size wr w') : DDd w w' a m c := ⟨h.o.below hb, h.b.trans (hb.mono h.b.size)⟩
theorem DSt.ddc {w' : World} (h : DSt w wr X la ln lc l k a m c vs) (hb : But [w.heap.size + 4] wr w') : DDd w w' a m c := by
  obtain ⟨F, ⟨h1, hF⟩, _, h2⟩ := h.o.turn 4 rfl
  subst hF
  have hlt := h1.lt
  have hO := (h.o.drop 4)
  have hk : ∀ g, g ≠ w.heap.size + 4 → g < wr.heap.size → w'.heap[g]? = wr.heap[g]? := fun g hg hg2 => hb.block g hg2 (by simpa using hg)
  obtain ⟨h3, h4⟩ := h2 (fun _ F => F = []) w' [] ⟨fun w F hF x hx => by subst hF; simp at hx, fun w w' F hF _ => hF⟩ hb rfl (fun x hx => by simp at hx)
  exact ⟨((h3.drop 5).drop 4).drop 0, h.b.trans h4⟩

set_option maxRecDepth 20000 in
theorem dec_results {w : World} {g : Nat} {x y z : Value} (hp : Blk w (g + 1) 28 [x]) (hq : Blk w (g + 2) 3 [y]) (hr : Blk w (g + 3) 33 [z]) (tmps : Array Value) (h4 : tmps.getD 4 undef = .pointer (some ⟨g + 1, 0, none⟩)) (h5 : tmps.getD 5 undef = .pointer (some ⟨g + 2, 0, none⟩)) (h6 : tmps.getD 6 undef = .pointer (some ⟨g + 3, 0, none⟩)) :
    (results Try.f14 tmps).run Try.prog w = .ok (.tuple #[x, y, z]) w := by
  have c0 := hp.cellOf (i := 0) rfl
  have c1 := hq.cellOf (i := 0) rfl
  have c2 := hr.cellOf (i := 0) rfl
  have h4' : tmps[4]?.getD undef = .pointer (some ⟨g + 1, 0, none⟩) := by simpa using h4
  have h5' : tmps[5]?.getD undef = .pointer (some ⟨g + 2, 0, none⟩) := by simpa using h5
  have h6' : tmps[6]?.getD undef = .pointer (some ⟨g + 3, 0, none⟩) := by simpa using h6
  simp [results, Try.results14, h4', h5', h6', asAddr, go_sem, c0, c1, c2]
def decDefer (g : Nat) : Deferred := { target := .fn (.func 39) #[.pointer (some ⟨g + 1, 0, none⟩), .pointer (some ⟨g + 2, 0, none⟩), .pointer (some ⟨g + 3, 0, none⟩)], args := #[] }
theorem DDd.dies (h : DDd w wr a m c) (tmps : Array Value) (h4 : tmps.getD 4 undef = .pointer (some ⟨w.heap.size + 1, 0, none⟩)) (h5 : tmps.getD 5 undef = .pointer (some ⟨w.heap.size + 2, 0, none⟩)) (h6 : tmps.getD 6 undef = .pointer (some ⟨w.heap.size + 3, 0, none⟩)) :
    Leaves Try.prog Try.f14 tmps (RetDec none w) [decDefer w.heap.size] (.panicking [{ v := errV, recovered := false }]) wr := by
  refine leaves_cons (f := 39) (args := #[.pointer (some ⟨w.heap.size + 1, 0, none⟩), .pointer (some ⟨w.heap.size + 2, 0, none⟩), .pointer (some ⟨w.heap.size + 3, 0, none⟩)]) (by simp) (by simp [go_sem]) ?_
  refine (catch_panic w.heap.size (w.heap.size + 1) (w.heap.size + 2) (w.heap.size + 3) wr _ _ _ h.o).mono ?_
  rintro e u' w' ⟨rfl, rfl, hb, hO⟩
  exact ⟨_, dec_results (hO.blk 0 rfl).1 (hO.blk 1 rfl).1 (hO.blk 2 rfl).1 tmps h4 h5 h6, h.b.trans hb, none, 0, rfl, World.ownsRow_nil _ _ _ _⟩
theorem dec_done {O : Option (List Val × Nat)} {e : Int} (ho : Own w.heap.size wr [BlkP (w.heap.size + 1) 28 [.slice a m c], BlkP (w.heap.size + 2) 3 [.int .i64 k], BlkP (w.heap.size + 3) 33 [.int .i64 e], RowP 59 3 a m c (recC Val.enc vs)]) (hb : Below w.heap.size w wr)
    (hO : decV O = vs ∧ decN O = k ∧ decE O = e ∧ vs.length = m) (tmps : Array Value) (h4 : tmps.getD 4 undef = .pointer (some ⟨w.heap.size + 1, 0, none⟩)) (h5 : tmps.getD 5 undef = .pointer (some ⟨w.heap.size + 2, 0, none⟩)) (h6 : tmps.getD 6 undef = .pointer (some ⟨w.heap.size + 3, 0, none⟩)) :
    Leaves Try.prog Try.f14 tmps (RetDec O w) [decDefer w.heap.size] .returning wr := by
  refine leaves_cons (f := 39) (args := #[.pointer (some ⟨w.heap.size + 1, 0, none⟩), .pointer (some ⟨w.heap.size + 2, 0, none⟩), .pointer (some ⟨w.heap.size + 3, 0, none⟩)]) (by simp) (by simp [go_sem]) ?_
  refine (catch_idle _ _ _ wr).mono ?_
  rintro e u' w' ⟨rfl, rfl, rfl⟩
  obtain ⟨rfl, rfl, rfl, rfl⟩ := hO
  exact ⟨_, dec_results (ho.blk 0 rfl).1 (ho.blk 1 rfl).1 (ho.blk 2 rfl).1 tmps h4 h5 h6, hb, a, c, rfl, ho.rowB 3 rfl⟩
/-- Where it dies no other slot matters. -/
theorem dec_put {R : Ending → World → Prop} {c : List PanicEntry} {tmps : Array Value} {ds : List Deferred} {w : World} {i : Nat} {v : Value} (h4 : i ≠ 4) (h5 : i ≠ 5) (h6 : i ≠ 6) (h : Leaves Try.prog Try.f14 (tmps.setIfInBounds i v) R ds (.panicking c) w) :
    Leaves Try.prog Try.f14 tmps R ds (.panicking c) w := by
  have hr : results Try.f14 (tmps.setIfInBounds i v) = results Try.f14 tmps := by
    simp [results, Try.results14, Array.getElem?_setIfInBounds, h4, h5, h6]
  have key : ∀ (ds : List Deferred) (u : FrameMode) (w : World), Leaves Try.prog Try.f14 (tmps.setIfInBounds i v) R ds u w → Leaves Try.prog Try.f14 tmps R ds u w := by
    intro ds
    induction ds with
    | nil =>
      intro u w h
      cases u with
      | returning => obtain ⟨v, h1, h2⟩ := h; exact ⟨v, by rw [← hr]; exact h1, h2⟩
      | panicking c => exact h
      | run => exact h
    | cons d ds ih =>
      intro u w h
      obtain ⟨hu, fv, cap, f, args, h1, h2, h3⟩ := h
      refine ⟨hu, fv, cap, f, args, h1, h2, h3.mono ?_⟩
      intro e u' w' he
      cases e with
      | returned v => exact ih _ _ he
      | panicked c => exact ih _ _ he
      | outgrown => exact he
  exact key ds _ w h
theorem DSt.start (X : TabP) (la : Option Addr) (ln lc : Nat) (l : List Int) : DSt w (((((w.alloc (.cells X.cs.toArray 26)).alloc (.cells #[.slice none 0 0] 28)).alloc (.cells #[.int .i64 0] 3)).alloc (.cells #[.int .i64 0] 33)).alloc (.cells #[.slice la ln lc, .int .i64 0] 68)) X la ln lc l 0 none 0 0 [] := by
  have h := (((((Own.start w).new X.cs 26).new [.slice none 0 0] 28).new [.int .i64 0] 3).new [.int .i64 0] 33).new [.slice la ln lc, .int .i64 0] 68
  have e1 : ∀ (w : World) (o : Obj), (w.alloc o).heap.size = w.heap.size + 1 := fun w o => by simp
  simp only [e1, List.nil_append, List.cons_append, Nat.add_assoc, Nat.reduceAdd] at h
  exact ⟨h.nilRow _ _, (((((Below.refl _ _).alloc (Nat.le_refl _) _).alloc (by simp) _).alloc (by simp; omega) _).alloc (by simp; omega) _).alloc (by simp; omega) _, Nat.zero_le _⟩
end Go.Proofs.Ytpgdfhncigmmbaa
