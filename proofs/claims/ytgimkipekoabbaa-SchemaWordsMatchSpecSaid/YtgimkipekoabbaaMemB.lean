/-
  Laws of the walk for append, slicing and conversions, in terms of 'Rd' and own rows. No condition.
-/
import Derived.Test.YtgimkipekoabbaaMemA
namespace Go.Proofs.Ytgimkipekoabbaa
open Go.RowKit

/-- The facts on a slice type that append asks. -/
structure SlT (P : Program) (t e : TypeId) (z : Value) (size bytes : Nat) : Prop where
  ht : P.underlying t = some (.slice e)
  info : (P.info? e).map (fun i => (i.zero, i.size, i.bytes)) = some (some z, size, bytes)
  hz : z.cells.size = size

theorem wpList_append_src {P : Program} {w : World} {ops : Array Oper} {rest : List Oper} {o : Oper} {a : Act} {Q : Exit → Act → World → Prop} (hgd : Region.wanted o (yielded ops a.tmps) = true) (s x : Operand) (t tx : TypeId)
    (ho : o.op = .call { callee := .builtin .append, args := #[s, x], argTypes := #[t, tx] })
    {e : TypeId} {z : Value} {size bytes : Nat} (hT : SlT P t e z size bytes) (htx : P.underlying tx = some (.slice e) ∨ P.underlying tx = some .string)
    {base : Nat} {a0 : Option Addr} {n cap : Nat} {xs : List Value} (hs : a.eval s = .slice a0 n cap) (hown : w.ownsRow base e size (.slice a0 n cap) n xs)
    {xv : Value} {m : Nat} {news : List Value} (hx : a.eval x = xv) (hsrc : Src P w xv m size news)
    (hbytes : (n + m) * bytes ≤ 140737488355328) (h63 : n + m ≤ maxLen) (hbase : base ≤ w.heap.size)
    (h : ∀ a' cap' w', w'.ownsRow base e size (.slice a' (n + m) cap') (n + m) (xs ++ news) → w.grownBy w' (Value.slice a0 n cap).ownBlock → (∀ ad, a' = some ad → (a0 = some ad ∨ w.heap.size ≤ ad.block)) →
      wpList P ops Q rest (a.put o.dst (.slice a' (n + m) cap')) w') : wpList P ops Q (o :: rest) a w := by
  refine BigFrame.wpList_want hgd fun K hK => ?_
  obtain ⟨i, hi, hz, hsz, hby⟩ := info_parts hT.info
  obtain ⟨a', cap', w', hr, h2, h3, h4⟩ := run_append_src (P := P) w base t tx o.type e i z size bytes hT.ht htx hi hz hsz hby hT.hz a0 n cap xs hown xv m news hsrc h63 hbytes hbase
  unfold Oper.wp execOp
  simp only [ho, resolve, invoke, builtin, Sem.run_bind, Sem.run_pure, Result.andThen_ok, List.map_toArray, List.map_cons, List.map_nil, hs, hx, hr]
  exact hK _ _ (h a' cap' w' h2 h3 h4)

theorem Src.oneNew {P : Program} (w : World) (v : Value) (e : TypeId) (hv : v.oneCell' = true) : Src P (w.alloc (.cells #[v] e)) (.slice (some ⟨w.heap.size, 0, none⟩) 1 1) 1 1 [v] := by
  refine Src.ofRd (cap := 1) ⟨rfl, Nat.le_refl _, by unfold maxLen; omega, fun h => (by cases h), fun ad ha j u hu => ?_⟩ (by intro u hu; simp at hu; subst hu; exact hv)
  simp only [Option.some.injEq] at ha
  subst ha
  match j, hu with
  | 0, hu =>
    simp at hu; subst hu
    rw [show (⟨w.heap.size, 0, none⟩ : Addr).add 0 = ⟨w.heap.size, 0, none⟩ from rfl, cell_of_row _ w.heap.size 0 #[v] e (0, 0) (heap_alloc_new w _)]
    rfl

theorem Src.below {P : Program} {w w' : World} {a : Option Addr} {n cap size : Nat} {xs : List Value} (h : Rd w a n cap size xs) (h1 : ∀ u ∈ xs, u.oneCell' = true) {B : Nat} (hb : Below B w w') (hB : w.heap.size ≤ B) : Src P w' (.slice a n cap) n size xs :=
  Src.ofRd (h.below hb hB) h1

/-- The string of a slice of bytes. -/
theorem run_string_rd {P : Program} {w : World} {src dst e : TypeId} (hs : P.underlying src = some (.slice e)) (he : P.underlying e = some (.int .u8)) (hd : P.underlying dst = some .string)
    {a : Option Addr} {n cap : Nat} {l : List UInt8} (h : Rd w a n cap 1 (byteVals l)) : (convert src dst (.slice a n cap)).run P w = .ok (.string ⟨l.toArray⟩) w := by
  cases a with
  | none =>
    have := h.hnil rfl
    have hl : l = [] := by cases l with | nil => rfl | cons x y => simp [byteVals] at this
    subst hl
    rw [run_convert_bytes_nil w src e hs he n cap dst hd]; rfl
  | some ad =>
    rw [run_convert_bytes_string w src dst e _ n cap hs he hd]
    have hl : (loadCells ad n).run P w = .ok ((l.map fun b => (b.toNat : Int)).map (Value.int .u8)).toArray w := by
      have hlen := h.hlen
      have := run_loadCells_list (P := P) w ad (byteVals l) (h.hcell ad rfl)
      rw [hlen, Nat.mul_one] at this
      rw [this]
      simp [byteVals, List.map_map, Function.comp_def]
    rw [run_bytesToString w _ n cap _ hl, foldl_push_bytes]
    congr 2
    simp [ByteArray.empty, ByteArray.emptyWithCapacity, List.map_map, Function.comp_def]
    rfl

/-- Slicing: the value, and that it can be read. -/
theorem run_slice_rd {P : Program} {w : World} {t e : TypeId} {z : Value} {size bytes : Nat} (hT : SlT P t e z size bytes)
    {a : Option Addr} {n cap : Nat} {xs : List Value} (h : Rd w a n cap size xs) (lo hi mx : Option Int) (l u m : Nat)
    (hl : (lo.getD 0) = (l : Int)) (hu : (hi.getD n) = (u : Int)) (hm : (mx.getD cap) = (m : Int)) (h0 : mx.isSome = true → hi.isSome = true) (h1 : l ≤ u) (h2 : u ≤ n) (h3 : u ≤ m) (h4 : m ≤ cap) :
    ∃ a', (Instr.sliceAt t (.slice a n cap) (lo.map (Value.int .i64)) (hi.map (Value.int .i64)) (mx.map (Value.int .i64))).run P w = .ok (.slice a' (u - l) (m - l)) w ∧ Rd w a' (u - l) (m - l) size ((xs.drop (l * size)).take ((u - l) * size)) ∧
      (∀ ad, a' = some ad → ∃ ad0, a = some ad0 ∧ ad.block = ad0.block) := by
  obtain ⟨i, hi', hz, hsz, hby⟩ := info_parts hT.info
  refine ⟨_, ?_, h.sub l u m h1 h2 h3 h4, ?_⟩
  · have e1 : ∀ x : Nat, ((0 : Int) ≤ (x : Int)) = True := fun x => by simp
    have k1 : ¬ (u < l) := by omega
    cases lo <;> cases hi <;> cases mx <;> simp only [Option.getD_some, Option.getD_none] at hl hu hm <;> (try simp at h0) <;>
      (try (have hl' := hl; have : l = 0 := by omega)) <;> (try (have hu' : u = n := by omega)) <;> (try (have hm' : m = cap := by omega)) <;> (try subst hl) <;> (try subst hu) <;> (try subst hm) <;> (try subst this) <;> (try subst hu') <;> (try subst hm') <;>
      simp [Instr.sliceAt, Instr.slice, Instr.sliceBounds, Instr.sliceBound, run_underlying hT.ht, sizeOf, typeInfo, hi', hsz, asIntOf, h1, h3, h4] <;> (try (intro hc; omega))
  · intro ad ha
    split at ha
    · exact ⟨ad, ha, rfl⟩
    · cases a with
      | none => simp at ha
      | some a0 => simp at ha; subst ha; exact ⟨a0, rfl, add_block _ _⟩
end Go.Proofs.Ytgimkipekoabbaa
