/-
  General lemmas on memory: slices, blocks, appends, arguments. No condition.
-/
import Derived.WalkKit
import Derived.WalkSpells
import Derived.WalkLawsBesides
import Derived.Lib.Hide
import Derived.Deep.QuietTactic
import Derived.BigQuiet
import Derived.Stop.BytesEq
import Derived.Deep.Slices
import Derived.Carry
import Derived.ChangeOld
import Derived.OpenShut
import Derived.SizedLaws
import Derived.ChangeMaps5
import Derived.WideShapes
import Derived.OneCell
import Derived.Laws.BitsAllLaws
/-
  Plain lemmas on memory for the walks of this seat: a slice that can be read ('Rd'), an own row, append from any source. No condition.
-/
namespace Go.Proofs.Ytpgdfhncigmmbaa
open Go.RowKit

/-- The slice value '.slice a n cap' can be read in w: its n elements (of 'size' cells each) are the cells xs. -/
structure Rd (w : World) (a : Option Addr) (n cap size : Nat) (xs : List Value) : Prop where
  hlen : xs.length = n * size
  hcap : n ≤ cap
  hmax : cap ≤ maxLen
  hnil : a = none → xs = []
  hcell : ∀ ad, a = some ad → ∀ j u, xs[j]? = some u → w.cell? (ad.add j) = some u

theorem Rd.lenMax {w : World} {a : Option Addr} {n cap size : Nat} {xs : List Value} (h : Rd w a n cap size xs) : n ≤ 9223372036854775807 := by
  have h1 := h.hcap; have h2 := h.hmax; unfold maxLen at h2; omega

theorem Rd.nilSlice (w : World) (size : Nat) : Rd w none 0 0 size [] :=
  ⟨by simp, Nat.le_refl _, Nat.zero_le _, fun _ => rfl, fun _ h => by cases h⟩

theorem cell_block_lt {w : World} {p : Addr} {u : Value} (h : w.cell? p = some u) : p.block < w.heap.size := by
  unfold World.cell? at h
  split at h
  · rename_i c e f hb
    exact (Array.getElem?_eq_some_iff.1 hb).1
  · cases h

theorem add_block (ad : Addr) (j : Nat) : (ad.add j).block = ad.block := by unfold Addr.add; split <;> rfl

/-- What could be read can be read in every world that keeps the old blocks. -/
theorem Rd.below {w w' : World} {a : Option Addr} {n cap size : Nat} {xs : List Value} (h : Rd w a n cap size xs) {B : Nat} (hb : Below B w w') (hB : w.heap.size ≤ B) : Rd w' a n cap size xs :=
  ⟨h.hlen, h.hcap, h.hmax, h.hnil, fun ad ha j u hu => by
    have hc := h.hcell ad ha j u hu
    have hl := cell_block_lt hc
    rw [hb.cell (by omega)]; exact hc⟩

/-- The same, where the slice lies below B as a whole. -/
theorem Rd.belowAt {w w' : World} {a : Option Addr} {n cap size : Nat} {xs : List Value} (h : Rd w a n cap size xs) {B : Nat} (hb : Below B w w') (hB : ∀ ad, a = some ad → ad.block < B) : Rd w' a n cap size xs :=
  ⟨h.hlen, h.hcap, h.hmax, h.hnil, fun ad ha j u hu => by
    have hc := h.hcell ad ha j u hu
    rw [hb.cell (by rw [add_block]; exact hB ad ha)]; exact hc⟩

theorem spot_none {w : World} {p : Addr} {u : Value} (h : w.cell? p = some u) : p.spot = none := by
  unfold World.cell? at h
  split at h
  · split at h
    · cases h
    · rename_i hs; simpa using hs
  · cases h

/-- Where there is an element there is an address: element k's only cell. -/
theorem Rd.at {w : World} {a : Option Addr} {n cap : Nat} {xs : List Value} (h : Rd w a n cap 1 xs) (k : Nat) (hk : k < n) :
    ∃ b off, a = some ⟨b, off, none⟩ ∧ ∀ (j : Nat) (hj : j < xs.length), w.cell? ⟨b, off + j, none⟩ = some xs[j] := by
  have hl := h.hlen
  cases a with
  | none => have := h.hnil rfl; subst this; simp at hl; omega
  | some ad =>
    have h0 : 0 < xs.length := by omega
    have hc := h.hcell ad rfl 0 xs[0] (List.getElem?_eq_getElem h0)
    have hs : ad.spot = none := by
      have := spot_none hc
      simpa [Addr.add] using this
    obtain ⟨b, off, sp⟩ := ad
    simp only at hs
    subst hs
    refine ⟨b, off, rfl, fun j hj => ?_⟩
    have := h.hcell _ rfl j xs[j] (List.getElem?_eq_getElem hj)
    have he : (⟨b, off, none⟩ : Addr).add j = ⟨b, off + j, none⟩ := by
      unfold Addr.add; split <;> simp_all
    rwa [he] at this

theorem add_add (ad : Addr) (i j : Nat) : (ad.add i).add j = ad.add (i + j) := by
  unfold Addr.add
  split
  · simp_all
  · split
    · simp_all
    · rw [if_neg (by omega)]; simp; omega

/-- The pieces of a slice that can be read can be read. -/
theorem Rd.sub {w : World} {a : Option Addr} {n cap size : Nat} {xs : List Value} (h : Rd w a n cap size xs) (lo hi mx : Nat) (h1 : lo ≤ hi) (h2 : hi ≤ n) (h3 : hi ≤ mx) (h4 : mx ≤ cap) :
    Rd w (if mx = lo then a else a.map (·.add (lo * size))) (hi - lo) (mx - lo) size ((xs.drop (lo * size)).take ((hi - lo) * size)) := by
  have hl := h.hlen
  have hm : hi * size ≤ n * size := Nat.mul_le_mul_right _ h2
  have hs : (hi - lo) * size = hi * size - lo * size := Nat.sub_mul hi lo size
  have hlo : lo * size ≤ hi * size := Nat.mul_le_mul_right _ h1
  have hcm := h.hmax
  refine ⟨by rw [List.length_take, List.length_drop]; omega, by omega, by omega, ?_, ?_⟩
  · intro ha
    split at ha
    · rw [h.hnil ha]; simp
    · cases a with
      | none => rw [h.hnil rfl]; simp
      | some ad => simp at ha
  · intro ad ha j u hu
    by_cases hml : mx = lo
    · have : hi - lo = 0 := by omega
      rw [this] at hu; simp at hu
    · rw [if_neg hml] at ha
      cases a with
      | none => simp at ha
      | some a0 =>
        simp at ha
        subst ha
        rw [add_add]
        refine h.hcell a0 rfl _ u ?_
        rw [List.getElem?_take] at hu
        split at hu
        · rw [List.getElem?_drop] at hu; exact hu
        · cases hu

/-- What is owned can be read. -/
theorem Rd.ofOwn {w : World} {base e size n cap : Nat} {a : Option Addr} {xs : List Value} (h : w.ownsRow base e size (.slice a n cap) n xs) : Rd w a n cap size xs := by
  obtain ⟨hl, hd⟩ := h
  rcases hd with ⟨hv, h0⟩ | ⟨g, c, cur, hv, hb, hh, hnc, hcm, hcs, ht⟩
  · simp only [Value.slice.injEq] at hv
    obtain ⟨rfl, rfl, rfl⟩ := hv
    refine ⟨hl, Nat.le_refl _, Nat.zero_le _, fun _ => List.eq_nil_of_length_eq_zero (by simpa using hl), fun _ h => (by cases h)⟩
  · simp only [Value.slice.injEq] at hv
    obtain ⟨rfl, _, rfl⟩ := hv
    refine ⟨hl, hnc, hcm, fun h => (by cases h), fun ad ha j u hu => ?_⟩
    simp only [Option.some.injEq] at ha
    subst ha
    have hadd : (⟨g, 0, none⟩ : Addr).add j = ⟨g, j, none⟩ := by unfold Addr.add; split <;> simp_all
    rw [hadd, cell_of_row w g j cur e (0, 0) hh]
    rw [← ht, List.getElem?_take] at hu
    split at hu
    · simpa using hu
    · cases hu

/-- An owned row's value is a slice. -/
theorem own_shape {w : World} {base e size n : Nat} {v : Value} {xs : List Value} (h : w.ownsRow base e size v n xs) : ∃ a cap, v = .slice a n cap := by
  obtain ⟨hl, hd⟩ := h
  rcases hd with ⟨hv, h0⟩ | ⟨g, c, cur, hv, _⟩
  · subst h0; exact ⟨none, 0, hv⟩
  · exact ⟨_, c, hv⟩

/-- What is owned stays owned where the old blocks are kept. -/
theorem own_below {w w' : World} {base e size n : Nat} {v : Value} {xs : List Value} (h : w.ownsRow base e size v n xs) {B : Nat} (hb : Below B w w') (hB : w.heap.size ≤ B) : w'.ownsRow base e size v n xs := by
  obtain ⟨hl, hd⟩ := h
  refine ⟨hl, ?_⟩
  rcases hd with hn | ⟨g, c, cur, hv, hbg, hh, rest⟩
  · exact .inl hn
  · refine .inr ⟨g, c, cur, hv, hbg, ?_, rest⟩
    have := (Array.getElem?_eq_some_iff.1 hh).1
    rw [hb.block g (by omega)]; exact hh

theorem own_base {w : World} {base base' e size n : Nat} {v : Value} {xs : List Value} (h : w.ownsRow base e size v n xs) (hb : base' ≤ base) : w.ownsRow base' e size v n xs := by
  obtain ⟨hl, hd⟩ := h
  refine ⟨hl, ?_⟩
  rcases hd with hn | ⟨g, c, cur, hv, hbg, rest⟩
  · exact .inl hn
  · exact .inr ⟨g, c, cur, hv, by omega, rest⟩

/-- Behind an append (or a make) onto an own row: old memory below B is kept. -/
theorem below_grown {B : Nat} {w w1 w2 : World} {a : Option Addr} {n cap base e size : Nat} {xs : List Value} (hb : Below B w w1) (hg : w1.grownBy w2 (Value.slice a n cap).ownBlock)
    (hown : w1.ownsRow base e size (.slice a n cap) n xs) (hB : B ≤ base) (hBs : B ≤ w1.heap.size) : Below B w w2 :=
  hb.grown hg hBs (fun k hk => by
    have := (hown.lt k hk).1
    omega)

/-- What is appended: its length and its cells, in every draw of the world w. -/
structure Src (P : Program) (w : World) (x : Value) (m size : Nat) (news : List Value) : Prop where
  len : news.length = m * size
  lenOf : (Builtin.lenOf x).run P w = .ok m w
  cells : (Builtin.firstCells size m x).run P w = .ok news.toArray w
  cellsDrew : (Builtin.firstCells size m x).run P w.drew = .ok news.toArray w.drew
  one : ∀ u ∈ news, u.oneCell' = true

theorem Src.ofRd {P : Program} {w : World} {a : Option Addr} {n cap size : Nat} {xs : List Value} (h : Rd w a n cap size xs) (h1 : ∀ u ∈ xs, u.oneCell' = true) : Src P w (.slice a n cap) n size xs := by
  refine ⟨h.hlen, by simp [Builtin.lenOf], ?_, ?_, h1⟩
  · cases a with
    | none => rw [run_firstCells_none, h.hnil rfl]
    | some ad => exact run_firstCells_some w size n ad n cap xs h.hlen (h.hcell ad rfl)
  · cases a with
    | none => rw [run_firstCells_none, h.hnil rfl]
    | some ad => exact run_firstCells_some w.drew size n ad n cap xs h.hlen (by simpa using h.hcell ad rfl)

/-- The bytes of a string as cells. -/
def byteVals (l : List UInt8) : List Value := l.map fun b => Value.int .u8 b.toNat

theorem byteVals_length (l : List UInt8) : (byteVals l).length = l.length := by simp [byteVals]
theorem byteVals_one (l : List UInt8) : ∀ u ∈ byteVals l, u.oneCell' = true := by
  intro u hu
  obtain ⟨_, _, rfl⟩ := List.mem_map.1 hu
  rfl
theorem byteVals_append (l m : List UInt8) : byteVals (l ++ m) = byteVals l ++ byteVals m := by simp [byteVals]

theorem Src.ofString {P : Program} (w : World) (s : ByteArray) : Src P w (.string s) s.size 1 (byteVals s.data.toList) := by
  have hx : ((s.extract 0 s.size).data.map fun b => Value.int .u8 b.toNat) = (byteVals s.data.toList).toArray := by
    have : (s.extract 0 s.size) = s := ByteArray.extract_zero_size
    rw [this]
    apply Array.ext'
    rw [Array.toList_map, byteVals]
  refine ⟨?_, by simp [Builtin.lenOf], ?_, ?_, byteVals_one _⟩
  · rw [byteVals_length]; simp
  · simp only [Builtin.firstCells, hx, Sem.run_pure]
  · simp only [Builtin.firstCells, hx, Sem.run_pure]

section
variable {P : Program} (w : World)

/-- append onto an own row, from any source that is no number. -/
theorem run_append_src (base : Nat) (t tx ty e : TypeId) (i : TypeInfo) (z : Value) (size bytes : Nat) (ht : P.underlying t = some (.slice e)) (htx : P.underlying tx = some (.slice e) ∨ P.underlying tx = some .string)
    (hi : P.info? e = some i) (hz : i.zero = some z)
    (hsize : i.size = size) (hby : i.bytes = bytes) (hzs : z.cells.size = size)
    (a : Option Addr) (n cap : Nat) (xs : List Value) (hown : w.ownsRow base e size (.slice a n cap) n xs)
    (x : Value) (m : Nat) (news : List Value) (hsrc : Src P w x m size news)
    (h63 : n + m ≤ maxLen) (hbytes : (n + m) * bytes ≤ 140737488355328) (hbase : base ≤ w.heap.size) :
    ∃ a' cap' w', (Builtin.append_ #[t, tx] ty #[.slice a n cap, x]).run P w = .ok (.slice a' (n + m) cap') w' ∧ w'.ownsRow base e size (.slice a' (n + m) cap') (n + m) (xs ++ news) ∧ w.grownBy w' (Value.slice a n cap).ownBlock ∧
      (∀ ad, a' = some ad → (a = some ad ∨ w.heap.size ≤ ad.block)) := by
  subst hsize
  subst hby
  have hsmall : n + m ≤ 9223372036854775807 := by simp only [maxLen] at h63; omega
  have hl := hsrc.len
  have hlen : (xs ++ news).length = (n + m) * i.size := by rw [List.length_append, hown.1, hl, Nat.add_mul]
  have grown : ∀ (old : Nat), old < n + m → ∀ (row : Option Nat),
      (w.drew.alloc (.cells (xs.toArray ++ news.toArray ++ Builtin.zeroCells z.cells (grownCap w (n + m) old e - (n + m))) e)).ownsRow base e i.size
        (.slice (some ⟨w.heap.size, 0, none⟩) (n + m) (grownCap w (n + m) old e)) (n + m) (xs ++ news) ∧
      w.grownBy (w.drew.alloc (.cells (xs.toArray ++ news.toArray ++ Builtin.zeroCells z.cells (grownCap w (n + m) old e - (n + m))) e)) row := by
    intro old ho row
    have hge := grownCap_ge w (n + m) old e
    have hcm : grownCap w (n + m) old e ≤ maxLen := grownCap_le_maxLen w (n + m) old e h63
    refine ⟨⟨hlen, .inr ⟨w.heap.size, _, _, rfl, hbase, heap_alloc_new w.drew _, hge, hcm, ?_, ?_⟩⟩, ⟨rfl, rfl, rfl, by simp, fun k hk _ => Below.heap_alloc w.drew _ k hk⟩⟩
    · simp only [Array.size_append, List.size_toArray, size_zeroCells, hzs, hown.1, hl, ← Nat.add_mul]
      congr 1
      omega
    · simp only [Array.toList_append, List.append_assoc]
      rw [← List.append_assoc, ← hlen]
      exact List.take_left
  have hfo : (Builtin.firstCells i.size n (.slice a n cap)).run P w.drew = .ok xs.toArray w.drew := by
    have hrd := Rd.ofOwn hown
    cases a with
    | none => rw [run_firstCells_none, hrd.hnil rfl]
    | some ad => exact run_firstCells_some w.drew i.size n ad n cap xs hrd.hlen (by simpa using hrd.hcell ad rfl)
  have hlo := hsrc.lenOf
  have hce := hsrc.cells
  have hcd := hsrc.cellsDrew
  by_cases hroom : n + m ≤ cap
  · rcases hown.2 with ⟨hv, h0⟩ | ⟨g, cap1, cur, hv, hbg, hg, hnc, hcm, hcs, htake⟩
    · simp only [Value.slice.injEq] at hv
      obtain ⟨rfl, rfl, rfl⟩ := hv
      have hm0 : m = 0 := by omega
      subst hm0
      have hn : news = [] := List.eq_nil_of_length_eq_zero (by simpa using hl)
      subst hn
      refine ⟨none, 0, w, ?_, ?_, ⟨rfl, rfl, rfl, Nat.le_refl _, fun _ _ _ => rfl⟩, fun _ h => by cases h⟩
      · rcases htx with htx | htx <;> simp [Builtin.append_, run_underlying ht, run_underlying htx, sizeOf, typeInfo, hi, hlo, hce]
      · have hx : xs = [] := List.eq_nil_of_length_eq_zero (by simpa using hown.1)
        subst hx
        exact World.ownsRow_nil w base e i.size
    · simp only [Value.slice.injEq] at hv
      obtain ⟨rfl, _, rfl⟩ := hv
      have hfit : n * i.size + news.length ≤ cur.size := by rw [hl, hcs, ← Nat.add_mul]; exact Nat.mul_le_mul_right _ hroom
      have hst := run_storeCells_at P g (n * i.size) e news 0 cur w hg (by simpa using hfit) hsrc.one
      simp only [Nat.add_zero] at hst
      refine ⟨some ⟨g, 0, none⟩, cap, _, ?_, ⟨hlen, .inr ⟨g, cap, _, rfl, hbg, setRow_heap w g cur (cur.toList.take (n * i.size) ++ news ++ cur.toList.drop (n * i.size + news.length)).toArray e _ hg, hroom, hcm, ?_, ?_⟩⟩, ⟨rfl, rfl, rfl, by simp, fun k _ hk => setRow_other w g k _ (fun e => hk (by simp [Value.ownBlock, e]))⟩, fun ad h => .inl h⟩
      · rcases htx with htx | htx <;> simp [Builtin.append_, run_underlying ht, run_underlying htx, sizeOf, typeInfo, hi, hlo, hroom, hce, Addr.add_lit, hst]
      · simp only [List.size_toArray, List.length_append, List.length_take, List.length_drop, Array.length_toList]
        omega
      · rw [htake, ← hlen]
        exact List.take_left
  · have h48 : ¬ (281474976710656 < Builtin.nextslicecap (n + m) cap * i.bytes) := by
      have := growslice_fits (need := n + m) (old := cap) (bytes := i.bytes) (by omega) hbytes; omega
    have h63' : ¬ (9223372036854775807 < ((n : Int) + (m : Int))) := by omega
    have hgr := grown cap (by omega) (Value.slice a n cap).ownBlock
    refine ⟨some ⟨w.heap.size, 0, none⟩, _, _, ?_, hgr.1, hgr.2, fun ad h => .inr (by simp only [Option.some.injEq] at h; subst h; exact Nat.le_refl _)⟩
    rcases htx with htx | htx <;>
      (simp [Builtin.append_, run_underlying ht, run_underlying htx, sizeOf, typeInfo, zeroValue, hi, hz, hlo, hroom, h63', h48, Question.forced, hfo, hcd, newRow, grownCap]
       congr 2; apply Array.ext'; simp [List.append_assoc])
end
end Go.Proofs.Ytpgdfhncigmmbaa

/-
  Laws of the walk for append, slicing and conversions, in terms of 'Rd' and own rows. No condition.
-/
namespace Go.Proofs.Ytpgdfhncigmmbaa
open Go.RowKit

/-- The facts on a slice type that append asks. -/
structure SlT (P : Program) (t e : TypeId) (z : Value) (size bytes : Nat) : Prop where
  ht : P.underlying t = some (.slice e)
  info : (P.info? e).map (fun i => (i.zero, i.size, i.bytes)) = some (some z, size, bytes)
  hz : z.cells.size = size

theorem wpList_append_src {P : Program} {w : World} {ops : Array Oper} {rest : List Oper} {o : Oper} {a : Act} {Q : Exit → Act → World → Prop} (hgd : Region.wanted o (yielded ops a.tmps) = true) (s x : Operand) (t tx : TypeId)
    (ho : o.op = .call { callee := .builtin .append, args := #[s, x], argTypes := #[t, tx] })
    {e : TypeId} {z : Value} {size bytes : Nat} (hT : SlT P t e z size bytes) (htx : P.underlying tx = some (.slice e) ∨ P.underlying tx = some .string)
    {base : Nat} {a0 : Option Addr} {n cap : Nat} {xs : List Value} (hs : a.eval s = .slice a0 n cap) (hown : w.ownsRow base e size (.slice a0 n cap) n xs)
    {xv : Value} {m : Nat} {news : List Value} (hx : a.eval x = xv) (hsrc : Src P w xv m size news)
    (hbytes : (n + m) * bytes ≤ 140737488355328) (h63 : n + m ≤ maxLen) (hbase : base ≤ w.heap.size)
    (h : ∀ a' cap' w', w'.ownsRow base e size (.slice a' (n + m) cap') (n + m) (xs ++ news) → w.grownBy w' (Value.slice a0 n cap).ownBlock → (∀ ad, a' = some ad → (a0 = some ad ∨ w.heap.size ≤ ad.block)) →
      wpList P ops Q rest (a.put o.dst (.slice a' (n + m) cap')) w') : wpList P ops Q (o :: rest) a w := by
  refine BigFrame.wpList_want hgd fun K hK => ?_
  obtain ⟨i, hi, hz, hsz, hby⟩ := info_parts hT.info
  obtain ⟨a', cap', w', hr, h2, h3, h4⟩ := run_append_src (P := P) w base t tx o.type e i z size bytes hT.ht htx hi hz hsz hby hT.hz a0 n cap xs hown xv m news hsrc h63 hbytes hbase
  unfold Oper.wp execOp
  simp only [ho, resolve, invoke, builtin, Sem.run_bind, Sem.run_pure, Result.andThen_ok, List.map_toArray, List.map_cons, List.map_nil, hs, hx, hr]
  exact hK _ _ (h a' cap' w' h2 h3 h4)

theorem Src.oneNew {P : Program} (w : World) (v : Value) (e : TypeId) (hv : v.oneCell' = true) : Src P (w.alloc (.cells #[v] e)) (.slice (some ⟨w.heap.size, 0, none⟩) 1 1) 1 1 [v] := by
  refine Src.ofRd (cap := 1) ⟨rfl, Nat.le_refl _, by unfold maxLen; omega, fun h => (by cases h), fun ad ha j u hu => ?_⟩ (by intro u hu; simp at hu; subst hu; exact hv)
  simp only [Option.some.injEq] at ha
  subst ha
  match j, hu with
  | 0, hu =>
    simp at hu; subst hu
    rw [show (⟨w.heap.size, 0, none⟩ : Addr).add 0 = ⟨w.heap.size, 0, none⟩ from rfl, cell_of_row _ w.heap.size 0 #[v] e (0, 0) (heap_alloc_new w _)]
    rfl

theorem Src.below {P : Program} {w w' : World} {a : Option Addr} {n cap size : Nat} {xs : List Value} (h : Rd w a n cap size xs) (h1 : ∀ u ∈ xs, u.oneCell' = true) {B : Nat} (hb : Below B w w') (hB : w.heap.size ≤ B) : Src P w' (.slice a n cap) n size xs :=
  Src.ofRd (h.below hb hB) h1

/-- The string of a slice of bytes. -/
theorem run_string_rd {P : Program} {w : World} {src dst e : TypeId} (hs : P.underlying src = some (.slice e)) (he : P.underlying e = some (.int .u8)) (hd : P.underlying dst = some .string)
    {a : Option Addr} {n cap : Nat} {l : List UInt8} (h : Rd w a n cap 1 (byteVals l)) : (convert src dst (.slice a n cap)).run P w = .ok (.string ⟨l.toArray⟩) w := by
  cases a with
  | none =>
    have := h.hnil rfl
    have hl : l = [] := by cases l with | nil => rfl | cons x y => simp [byteVals] at this
    subst hl
    rw [run_convert_bytes_nil w src e hs he n cap dst hd]; rfl
  | some ad =>
    rw [run_convert_bytes_string w src dst e _ n cap hs he hd]
    have hl : (loadCells ad n).run P w = .ok ((l.map fun b => (b.toNat : Int)).map (Value.int .u8)).toArray w := by
      have hlen := h.hlen
      have := run_loadCells_list (P := P) w ad (byteVals l) (h.hcell ad rfl)
      rw [hlen, Nat.mul_one] at this
      rw [this]
      simp [byteVals, List.map_map, Function.comp_def]
    rw [run_bytesToString w _ n cap _ hl, foldl_push_bytes]
    congr 2
    simp [ByteArray.empty, ByteArray.emptyWithCapacity, List.map_map, Function.comp_def]
    rfl

/-- Slicing: the value, and that it can be read. -/
theorem run_slice_rd {P : Program} {w : World} {t e : TypeId} {z : Value} {size bytes : Nat} (hT : SlT P t e z size bytes)
    {a : Option Addr} {n cap : Nat} {xs : List Value} (h : Rd w a n cap size xs) (lo hi mx : Option Int) (l u m : Nat)
    (hl : (lo.getD 0) = (l : Int)) (hu : (hi.getD n) = (u : Int)) (hm : (mx.getD cap) = (m : Int)) (h0 : mx.isSome = true → hi.isSome = true) (h1 : l ≤ u) (h2 : u ≤ n) (h3 : u ≤ m) (h4 : m ≤ cap) :
    ∃ a', (Instr.sliceAt t (.slice a n cap) (lo.map (Value.int .i64)) (hi.map (Value.int .i64)) (mx.map (Value.int .i64))).run P w = .ok (.slice a' (u - l) (m - l)) w ∧ Rd w a' (u - l) (m - l) size ((xs.drop (l * size)).take ((u - l) * size)) ∧
      (∀ ad, a' = some ad → ∃ ad0, a = some ad0 ∧ ad.block = ad0.block) := by
  obtain ⟨i, hi', hz, hsz, hby⟩ := info_parts hT.info
  refine ⟨_, ?_, h.sub l u m h1 h2 h3 h4, ?_⟩
  · have e1 : ∀ x : Nat, ((0 : Int) ≤ (x : Int)) = True := fun x => by simp
    have k1 : ¬ (u < l) := by omega
    cases lo <;> cases hi <;> cases mx <;> simp only [Option.getD_some, Option.getD_none] at hl hu hm <;> (try simp at h0) <;>
      (try (have hl' := hl; have : l = 0 := by omega)) <;> (try (have hu' : u = n := by omega)) <;> (try (have hm' : m = cap := by omega)) <;> (try subst hl) <;> (try subst hu) <;> (try subst hm) <;> (try subst this) <;> (try subst hu') <;> (try subst hm') <;>
      simp [Instr.sliceAt, Instr.slice, Instr.sliceBounds, Instr.sliceBound, run_underlying hT.ht, sizeOf, typeInfo, hi', hsz, asIntOf, h1, h3, h4] <;> (try (intro hc; omega))
  · intro ad ha
    split at ha
    · exact ⟨ad, ha, rfl⟩
    · cases a with
      | none => simp at ha
      | some a0 => simp at ha; subst ha; exact ⟨a0, rfl, add_block _ _⟩
end Go.Proofs.Ytpgdfhncigmmbaa

/-
  Laws of the walk for structs and arrays held in memory, and for slices against nil. No condition.
-/
namespace Go.Proofs.Ytpgdfhncigmmbaa
open Go.RowKit

/-- The type is a struct or an array of 'size' cells. -/
structure AggT (P : Program) (ty : TypeId) (size : Nat) : Prop where
  agg : (P.underlying ty).map (fun d => match d with | .struct _ | .array _ _ => true | _ => false) = some true
  info : (P.info? ty).map (·.size) = some size

theorem AggT.isAgg {P : Program} {ty : TypeId} {size : Nat} (h : AggT P ty size) (w : World) : (Go.isAgg ty).run P w = .ok true w := by
  obtain ⟨d, hu, hd⟩ := Option.map_eq_some_iff.1 h.agg
  unfold Go.isAgg
  rw [Sem.run_bind, run_underlying hu w]
  cases d <;> simp_all

theorem AggT.size {P : Program} {ty : TypeId} {size : Nat} (h : AggT P ty size) (w : World) : (sizeOf ty).run P w = .ok size w := by
  obtain ⟨i, hi, hs⟩ := Option.map_eq_some_iff.1 h.info
  simp [sizeOf, typeInfo, hi, hs]

theorem run_loadVar_agg {P : Program} {w : World} {ty : TypeId} {size : Nat} (hT : AggT P ty size) (ad : Addr) (cs : List Value) (hl : cs.length = size)
    (hc : ∀ j u, cs[j]? = some u → w.cell? (ad.add j) = some u) : (loadVar ty ad).run P w = .ok (.agg cs.toArray) w := by
  have h := run_loadCells_list (P := P) w ad cs hc
  rw [hl] at h
  simp [loadVar, Sem.run_bind, hT.isAgg, hT.size, h]

theorem wpList_load_agg {P : Program} {w : World} {ops : Array Oper} {rest : List Oper} {o : Oper} {a : Act} {Q : Exit → Act → World → Prop} (hgd : Region.wanted o (yielded ops a.tmps) = true) (ty : TypeId) (x : Operand) (ho : o.op = .load ty x)
    {size : Nat} (hT : AggT P ty size) {ad : Addr} (hx : a.eval x = .pointer (some ad)) {cs : List Value} (hl : cs.length = size)
    (hc : ∀ j u, cs[j]? = some u → w.cell? (ad.add j) = some u) (h : wpList P ops Q rest (a.put o.dst (.agg cs.toArray)) w) : wpList P ops Q (o :: rest) a w := by
  refine BigFrame.wpList_want hgd fun K hK => ?_
  unfold Oper.wp execOp
  simp only [ho, hx, Instr.loadAt, Instr.sureAddr, Sem.run_bind, Sem.run_pure, Result.andThen_ok, run_loadVar_agg hT ad cs hl hc]
  exact hK _ _ h

/-- Cells of a block, at an offset. -/
theorem block_cells {w : World} {g : Nat} {cur : Array Value} {e : TypeId} {fr : Nat × Nat} (hg : w.heap[g]? = some (.cells cur e fr)) (off : Nat) (cs : List Value) (hcs : ∀ j, j < cs.length → cur[off + j]? = cs[j]?) :
    ∀ j u, cs[j]? = some u → w.cell? ((⟨g, off, none⟩ : Addr).add j) = some u := by
  intro j u hu
  have hadd : (⟨g, off, none⟩ : Addr).add j = ⟨g, off + j, none⟩ := by unfold Addr.add; split <;> simp_all
  have hj : j < cs.length := (List.getElem?_eq_some_iff.1 hu).1
  rw [hadd, cell_of_row w g (off + j) cur e fr hg, hcs j hj, hu]

/-- A store of a whole aggregate into the block laid last. -/
theorem wpList_store_fresh {P : Program} {w : World} {ops : Array Oper} {rest : List Oper} {o : Oper} {a : Act} {Q : Exit → Act → World → Prop} (hgd : Region.wanted o (yielded ops a.tmps) = true) (ty : TypeId) (x v : Operand) (ho : o.op = .store ty x v) (hdst : o.dst = none)
    {size : Nat} (hsz : (P.info? ty).map (·.size) = some size) {cur : Array Value} {e : TypeId} (hcur : cur.size = size) (hx : a.eval x = .pointer (some ⟨w.heap.size, 0, none⟩)) {cs : List Value} (hv : (a.eval v).cells = cs.toArray) (hl : cs.length = size)
    (h1 : ∀ u ∈ cs, u.oneCell' = true) (h : wpList P ops Q rest a (w.alloc (.cells cs.toArray e))) : wpList P ops Q (o :: rest) a (w.alloc (.cells cur e)) := by
  refine BigFrame.wpList_want hgd fun K hK => ?_
  obtain ⟨i, hi, hs⟩ := Option.map_eq_some_iff.1 hsz
  have hg := heap_alloc_new w (.cells cur e)
  have hst := run_storeCells_at P w.heap.size 0 e cs 0 cur (w.alloc (.cells cur e)) hg (by omega) h1
  have hrow : (w.alloc (.cells cur e)).setRow w.heap.size (cur.toList.take 0 ++ cs ++ cur.toList.drop (0 + cs.length)).toArray = w.alloc (.cells cs.toArray e) := by
    have hd : cur.toList.drop (0 + cs.length) = [] := List.drop_eq_nil_of_le (by rw [Array.length_toList]; omega)
    rw [hd, List.take_zero, List.nil_append, List.append_nil]
    unfold World.setRow World.alloc
    congr 1
    apply Array.ext_getElem?
    intro k
    simp only [Array.getElem?_modify, Array.getElem?_push]
    by_cases hk : k = w.heap.size
    · subst hk; simp
    · rw [if_neg hk, if_neg hk, if_neg (Ne.symm hk)]
  simp only [Nat.add_zero] at hst
  rw [hrow] at hst
  have hrun : (Instr.storeAt ty (.pointer (some ⟨w.heap.size, 0, none⟩)) (a.eval v)).run P (w.alloc (.cells cur e)) = .ok () (w.alloc (.cells cs.toArray e)) := by
    simp [Instr.storeAt, Instr.sureAddr, storeVar, sizeOf, typeInfo, hi, hs, hl, hv, hst]
  unfold Oper.wp execOp
  simp only [ho, hx, Sem.run_bind, hrun, Result.andThen_ok, Sem.run_pure]
  have hp : a.put o.dst undef = a := by rw [hdst]; rfl
  show K (a.put o.dst undef) _
  rw [hp]
  exact hK _ _ h

/-- The address of 's[lo:hi]' under one name, and what can be read there. -/
theorem Rd.subAt {w : World} {a : Option Addr} {n cap : Nat} {xs : List Value} (h : Rd w a n cap 1 xs) (lo hi : Nat) (h1 : lo ≤ hi) (h2 : hi ≤ n) :
    ∃ a', (if cap = lo then a else Option.map (fun x => x.add lo) a) = a' ∧ Rd w a' (hi - lo) (cap - lo) 1 ((xs.drop lo).take (hi - lo)) := by
  have hs := h.sub lo hi cap h1 h2 (Nat.le_trans h2 h.hcap) (Nat.le_refl _)
  simp only [Nat.mul_one] at hs
  exact ⟨_, rfl, hs⟩

/-- Slicing a slice that can be read. -/
theorem wpList_slice_rd {P : Program} {w : World} {ops : Array Oper} {rest : List Oper} {o : Oper} {a : Act} {Q : Exit → Act → World → Prop} (hgd : Region.wanted o (yielded ops a.tmps) = true) (t : TypeId) (x : Operand) (lo hi mx : Option Operand) (ho : o.op = .slice t x lo hi mx)
    {e : TypeId} {z : Value} {size bytes : Nat} (hT : SlT P t e z size bytes) {a0 : Option Addr} {n cap : Nat} {xs : List Value} (hx : a.eval x = .slice a0 n cap) (hrd : Rd w a0 n cap size xs)
    (lo' hi' mx' : Option Int) (hlo : lo.map a.eval = lo'.map (Value.int .i64)) (hhi : hi.map a.eval = hi'.map (Value.int .i64)) (hmx : mx.map a.eval = mx'.map (Value.int .i64)) (l u m : Nat)
    (hl : (lo'.getD 0) = (l : Int)) (hu : (hi'.getD n) = (u : Int)) (hm : (mx'.getD cap) = (m : Int)) (h0 : mx'.isSome = true → hi'.isSome = true) (h1 : l ≤ u) (h2 : u ≤ n) (h3 : u ≤ m) (h4 : m ≤ cap)
    (h : ∀ a', Rd w a' (u - l) (m - l) size ((xs.drop (l * size)).take ((u - l) * size)) → (∀ ad, a' = some ad → ∃ ad0, a0 = some ad0 ∧ ad.block = ad0.block) → wpList P ops Q rest (a.put o.dst (.slice a' (u - l) (m - l))) w) : wpList P ops Q (o :: rest) a w := by
  refine BigFrame.wpList_want hgd fun K hK => ?_
  obtain ⟨a', hr, hr1, hr2⟩ := run_slice_rd (P := P) hT hrd lo' hi' mx' l u m hl hu hm h0 h1 h2 h3 h4
  rw [← hlo, ← hhi, ← hmx] at hr
  unfold Oper.wp execOp
  simp only [ho, hx, Sem.run_bind, hr, Result.andThen_ok, Sem.run_pure]
  exact hK _ _ (h a' hr1 hr2)

end Go.Proofs.Ytpgdfhncigmmbaa

/-
  More laws of the walk: a slice literal of one aggregate, results that lie in a cell. No condition.
-/
namespace Go.Proofs.Ytpgdfhncigmmbaa
open Go.RowKit

theorem fold_set (l : List Value) (pre suf : List Value) (h : suf.length = l.length) :
    (l.zipIdx pre.length).foldl (fun (cs : Array Value) (p : Value × Nat) => cs.setIfInBounds p.2 p.1) (pre ++ suf).toArray = (pre ++ l).toArray := by
  induction l generalizing pre suf with
  | nil => have : suf = [] := List.eq_nil_of_length_eq_zero (by simpa using h); subst this; simp
  | cons v l ih =>
    match suf, h with
    | s :: suf, h =>
      rw [List.zipIdx_cons, List.foldl_cons]
      have e : ((pre ++ s :: suf).toArray.setIfInBounds pre.length v) = ((pre ++ [v]) ++ suf).toArray := by
        rw [List.setIfInBounds_toArray, List.set_append_right _ _ (Nat.le_refl _)]
        simp
      simp only at e ⊢
      rw [e]
      have h2 := ih (pre ++ [v]) suf (by simpa using h)
      rw [List.length_append, List.length_singleton] at h2
      rw [h2]
      simp

theorem fold_all (l : List Value) (z : Array Value) (h : z.size = l.length) :
    l.zipIdx.foldl (fun (cs : Array Value) (p : Value × Nat) => cs.setIfInBounds p.2 p.1) z = l.toArray := by
  have := fold_set l [] z.toList (by simpa using h)
  simpa using this

/-- A slice literal of one element that is an aggregate. -/
theorem wpList_lit_one {P : Program} {w : World} {ops : Array Oper} {rest : List Oper} {o : Oper} {a : Act} {Q : Exit → Act → World → Prop} (hgd : Region.wanted o (yielded ops a.tmps) = true) (t : TypeId) (x : Operand) (ho : o.op = .buildSlice t 1 #[(0, x)])
    {e : TypeId} {z : Value} {size bytes : Nat} (hT : SlT P t e z size bytes) {cs : List Value} (hx : (a.eval x).cells = cs.toArray) (hl : cs.length = size) (hs : size ≤ 1000000) (hs0 : 0 < size)
    (h : wpList P ops Q rest (a.put o.dst (.slice (some ⟨w.heap.size, 0, none⟩) 1 1)) (w.alloc (.cells cs.toArray e))) : wpList P ops Q (o :: rest) a w := by
  refine BigFrame.wpList_want hgd fun K hK => ?_
  obtain ⟨i, hi, hz, hsz, hby⟩ := info_parts hT.info
  have hfa := fold_all cs ((Array.range size).map (z.cells[· % z.cells.size]!)) (by simp [hl])
  have h0 : ¬ (16777216 < size) := by omega
  have h1 : ¬ size = 0 := by omega
  have hrun : (Instr.buildSlice t 1 #[(0, a.eval x)]).run P w = .ok (.slice (some ⟨w.heap.size, 0, none⟩) 1 1) (w.alloc (.cells cs.toArray e)) := by
    simp [Instr.buildSlice, run_underlying hT.ht, sizeOf, typeInfo, zeroValue, hi, hz, hsz, h0, h1, Instr.fill, hx, hl, newRow, hfa]
  unfold Oper.wp execOp
  simp only [ho, List.map_toArray, List.map_cons, List.map_nil, Sem.run_bind, hrun, Result.andThen_ok, Sem.run_pure]
  exact hK _ _ h

theorem run_arrayAt {P : Program} {arr e : TypeId} {n : Nat} (h : P.underlying arr = some (.array n e)) (a : Option Addr) (len cap : Nat) (hn : n ≤ len) (w : World) : (Instr.arrayAt arr (.slice a len cap)).run P w = .ok (.pointer a) w := by
  have : ¬ len < n := by omega
  simp [Instr.arrayAt, run_underlying h, this]

theorem results_cell3 {P : Program} {w : World} {fn : Func} {p t u : Tmp} {ty : TypeId} (h : fn.results = #[.cell p ty, .tmp t, .tmp u]) (tmps : Array Value) {g : Nat} {e : TypeId} {cs : List Value} {fr : Nat × Nat}
    (hp : tmps.getD p undef = .pointer (some ⟨g, 0, none⟩)) (hg : w.heap[g]? = some (.cells cs.toArray e fr)) (hT : AggT P ty cs.length) :
    (results fn tmps).run P w = .ok (.tuple #[.agg cs.toArray, tmps.getD t undef, tmps.getD u undef]) w := by
  have hp' : tmps[p]?.getD undef = .pointer (some ⟨g, 0, none⟩) := by simpa using hp
  have hl := run_loadVar_agg (P := P) (w := w) hT ⟨g, 0, none⟩ cs rfl (block_cells hg 0 cs (fun j hj => by simp))
  simp [results, h, hp', asAddr, hl]

theorem results_cell2 {P : Program} {w : World} {fn : Func} {p t : Tmp} {ty : TypeId} (h : fn.results = #[.cell p ty, .tmp t]) (tmps : Array Value) {g : Nat} {e : TypeId} {cs : List Value} {fr : Nat × Nat}
    (hp : tmps.getD p undef = .pointer (some ⟨g, 0, none⟩)) (hg : w.heap[g]? = some (.cells cs.toArray e fr)) (hT : AggT P ty cs.length) :
    (results fn tmps).run P w = .ok (.tuple #[.agg cs.toArray, tmps.getD t undef]) w := by
  have hp' : tmps[p]?.getD undef = .pointer (some ⟨g, 0, none⟩) := by simpa using hp
  have hl := run_loadVar_agg (P := P) (w := w) hT ⟨g, 0, none⟩ cs rfl (block_cells hg 0 cs (fun j hj => by simp))
  simp [results, h, hp', asAddr, hl]

theorem results_cell1 {P : Program} {w : World} {fn : Func} {p : Tmp} {ty : TypeId} (h : fn.results = #[.cell p ty]) (tmps : Array Value) {g : Nat} {e : TypeId} {cs : List Value} {fr : Nat × Nat}
    (hp : tmps.getD p undef = .pointer (some ⟨g, 0, none⟩)) (hg : w.heap[g]? = some (.cells cs.toArray e fr)) (hT : AggT P ty cs.length) :
    (results fn tmps).run P w = .ok (.agg cs.toArray) w := by
  have hp' : tmps[p]?.getD undef = .pointer (some ⟨g, 0, none⟩) := by simpa using hp
  have hl := run_loadVar_agg (P := P) (w := w) hT ⟨g, 0, none⟩ cs rfl (block_cells hg 0 cs (fun j hj => by simp))
  simp [results, h, hp', asAddr, hl]
end Go.Proofs.Ytpgdfhncigmmbaa

/-
  Regions that draw their order: single operations by hand. No condition.
-/
namespace Go.Proofs.Ytpgdfhncigmmbaa
open Go.RowKit

/-- One operation of a quiet region that yields the value v. -/
theorem wpQuiet_val {P : Program} {ops : Array Oper} {C : World → Prop} {Q : Act → Prop} {a : Act} {o : Oper} {rest : List Oper} (hgd : o.guard = none) (v : Value)
    (hrun : ∀ w', C w' → (execOp a.eval o).run P w' = .ok (.value v) w') (h : wpQuiet P ops C Q rest (a.put o.dst v)) : wpQuiet P ops C Q (o :: rest) a := by
  have hw : Region.wanted o (yielded ops a.tmps) = true := by unfold Region.wanted; rw [hgd]
  unfold wpQuiet
  rw [if_pos hw]
  refine ⟨v, fun w' hw' => ?_, h⟩
  unfold Oper.quietAt
  rw [hrun w' hw']
  exact ⟨rfl, rfl⟩

theorem wpQuiet_load_agg {P : Program} {ops : Array Oper} {w : World} {Q : Act → Prop} {a : Act} {o : Oper} {rest : List Oper} (hgd : o.guard = none) (ty : TypeId) (x : Operand) (ho : o.op = .load ty x)
    {size : Nat} (hT : AggT P ty size) {ad : Addr} (hx : a.eval x = .pointer (some ad)) {cs : List Value} (hl : cs.length = size) (hc : ∀ j u, cs[j]? = some u → w.cell? (ad.add j) = some u)
    (h : wpQuiet P ops (fun w' => ∃ n, w' = w.drewN n) Q rest (a.put o.dst (.agg cs.toArray))) : wpQuiet P ops (fun w' => ∃ n, w' = w.drewN n) Q (o :: rest) a := by
  refine wpQuiet_val hgd _ (fun w' hw' => ?_) h
  obtain ⟨n, rfl⟩ := hw'
  have hr := run_loadVar_agg (P := P) (w := w.drewN n) hT ad cs hl (fun j u hu => by
    have := hc j u hu
    simpa [World.drewN, World.cell?] using this)
  unfold execOp
  simp only [ho, hx, Instr.loadAt, Instr.sureAddr, Sem.run_bind, Sem.run_pure, Result.andThen_ok, hr]

theorem byteVals_cell (l : List UInt8) : byteVals l = l.map Extern.Stop.cell := rfl

theorem run_eqGuard_no {P : Program} {op : BinOp} {t : TypeId} {x y : Operand} {a b : Array Value} (hg : P.eqGuardType P.depth t = false) (w : World) : (eqGuard op t x y (.agg a) (.agg b)).run P w = .ok () w := by
  cases op <;> simp [eqGuard, hg]

/-- '==' and '!=' of two arrays of bytes, as an operation. -/
theorem run_neq_bytes {P : Program} {t e : TypeId} {n : Nat} (ht : P.underlying t = some (.array n e)) (he : P.underlying e = some (.int .u8)) (hsz : (P.info? e).map (·.size) = some 1) (hg : P.eqGuardType P.depth t = false)
    {xs ys : List UInt8} (hx : xs.length = n) (hy : ys.length = n) {a : Act} {o : Oper} (x y : Operand) (yt : TypeId) (ho : o.op = .binOp .neq t x y yt) (hxv : a.eval x = .agg (byteVals xs).toArray) (hyv : a.eval y = .agg (byteVals ys).toArray) (w : World) :
    (execOp a.eval o).run P w = .ok (.value (.bool (!(xs == ys)))) w := by
  have hs : ∀ w, (sizeOf e).run P w = .ok 1 w := by
    obtain ⟨i, hi, hi1⟩ := Option.map_eq_some_iff.1 hsz
    intro w; simp [sizeOf, typeInfo, hi, hi1]
  unfold execOp
  simp only [ho, hxv, hyv, Sem.run_bind, run_eqGuard_no hg, Result.andThen_ok]
  rw [run_neq_struct, byteVals_cell, byteVals_cell, run_equalIn_bytes w 9998 t e n ht he hs xs ys hx hy]
  simp
end Go.Proofs.Ytpgdfhncigmmbaa

/-
  append onto a slice without room ('b[:len(b):len(b)]'). No condition.
-/
namespace Go.Proofs.Ytpgdfhncigmmbaa
open Go.RowKit

theorem run_append_full {P : Program} (w : World) (t tx ty e : TypeId) {z : Value} {size bytes : Nat} (hT : SlT P t e z size bytes) (htx : P.underlying tx = some (.slice e) ∨ P.underlying tx = some .string)
    (a : Option Addr) (n : Nat) (xs : List Value) (hrd : Rd w a n n size xs) (x : Value) (m : Nat) (news : List Value) (hsrc : Src P w x m size news)
    (hbytes : (n + m) * bytes ≤ 140737488355328) (h63 : n + m ≤ maxLen) :
    ∃ a' cap' w', (Builtin.append_ #[t, tx] ty #[.slice a n n, x]).run P w = .ok (.slice a' (n + m) cap') w' ∧ Rd w' a' (n + m) cap' size (xs ++ news) ∧ Below w.heap.size w w' := by
  obtain ⟨i, hi, hz, hs, hby⟩ := info_parts hT.info
  have hlo := hsrc.lenOf
  have hce := hsrc.cells
  have hcd := hsrc.cellsDrew
  have hl := hsrc.len
  have hsmall : n + m ≤ 9223372036854775807 := by simp only [maxLen] at h63; omega
  have hlen : (xs ++ news).length = (n + m) * size := by rw [List.length_append, hrd.hlen, hl, Nat.add_mul]
  have hfo : (Builtin.firstCells size n (.slice a n n)).run P w.drew = .ok xs.toArray w.drew := by
    cases a with
    | none => rw [run_firstCells_none, hrd.hnil rfl]
    | some ad => exact run_firstCells_some w.drew size n ad n n xs hrd.hlen (by simpa using hrd.hcell ad rfl)
  by_cases hm : m = 0
  · subst hm
    have hn : news = [] := List.eq_nil_of_length_eq_zero (by simpa using hl)
    subst hn
    refine ⟨a, n, w, ?_, by simpa using hrd, Below.refl _ _⟩
    have hst : ∀ ad : Addr, (storeCells ad []).run P w = .ok () w := fun ad => by simp [storeCells]
    cases a <;> rcases htx with htx | htx <;> simp [Builtin.append_, run_underlying hT.ht, run_underlying htx, sizeOf, typeInfo, hi, hs, hlo, hce, hst]
  · have hroom : ¬ (n + m ≤ n) := by omega
    have h48 : ¬ (281474976710656 < Builtin.nextslicecap (n + m) n * i.bytes) := by
      have := growslice_fits (need := n + m) (old := n) (bytes := i.bytes) (by omega) (by rw [hby]; exact hbytes); omega
    have h63' : ¬ (9223372036854775807 < ((n : Int) + (m : Int))) := by omega
    have hge := grownCap_ge w (n + m) n e
    have hcm : grownCap w (n + m) n e ≤ maxLen := grownCap_le_maxLen w (n + m) n e h63
    refine ⟨some ⟨w.heap.size, 0, none⟩, grownCap w (n + m) n e, w.drew.alloc (.cells (xs.toArray ++ news.toArray ++ Builtin.zeroCells z.cells (grownCap w (n + m) n e - (n + m))) e), ?_, ⟨hlen, hge, hcm, fun h => (by cases h), fun ad ha j u hu => ?_⟩, ((Below.refl _ _).drew).alloc (by simp) _⟩
    · rcases htx with htx | htx <;>
        (simp [Builtin.append_, run_underlying hT.ht, run_underlying htx, sizeOf, typeInfo, zeroValue, hi, hz, hs, hlo, hroom, h63', h48, Question.forced, hfo, hcd, newRow, grownCap]
         congr 2; apply Array.ext'; simp [List.append_assoc])
    · simp only [Option.some.injEq] at ha; subst ha
      refine block_cells (heap_alloc_new w.drew _) 0 (xs ++ news) (fun j hj => ?_) j u hu
      rw [Nat.zero_add, Array.getElem?_append_left (by simp at hj ⊢; omega)]
      simp [List.getElem?_append]

/-- append onto a slice without room. -/
theorem wpList_append_full {P : Program} {w : World} {ops : Array Oper} {rest : List Oper} {o : Oper} {a : Act} {Q : Exit → Act → World → Prop} (hgd : Region.wanted o (yielded ops a.tmps) = true) (s x : Operand) (t tx : TypeId)
    (ho : o.op = .call { callee := .builtin .append, args := #[s, x], argTypes := #[t, tx] })
    {e : TypeId} {z : Value} {size bytes : Nat} (hT : SlT P t e z size bytes) (htx : P.underlying tx = some (.slice e) ∨ P.underlying tx = some .string)
    {a0 : Option Addr} {n : Nat} {xs : List Value} (hs : a.eval s = .slice a0 n n) (hrd : Rd w a0 n n size xs)
    {xv : Value} {m : Nat} {news : List Value} (hx : a.eval x = xv) (hsrc : Src P w xv m size news)
    (hbytes : (n + m) * bytes ≤ 140737488355328) (h63 : n + m ≤ maxLen)
    (h : ∀ a' cap' w', Rd w' a' (n + m) cap' size (xs ++ news) → Below w.heap.size w w' → wpList P ops Q rest (a.put o.dst (.slice a' (n + m) cap')) w') : wpList P ops Q (o :: rest) a w := by
  refine BigFrame.wpList_want hgd fun K hK => ?_
  obtain ⟨a', cap', w', hr, h2, h3⟩ := run_append_full (P := P) w t tx o.type e hT htx a0 n xs hrd xv m news hsrc hbytes h63
  unfold Oper.wp execOp
  simp only [ho, resolve, invoke, builtin, Sem.run_bind, Sem.run_pure, Result.andThen_ok, List.map_toArray, List.map_cons, List.map_nil, hs, hx, hr]
  exact hK _ _ (h a' cap' w' h2 h3)
end Go.Proofs.Ytpgdfhncigmmbaa

/-
  What the arguments of a statement are to a walk: slices of numbers that came in. No condition.
-/
namespace Go.Proofs.Ytpgdfhncigmmbaa
open Go.RowKit

/-- What the walk is told of a slice of integers that came in. -/
def IsRow (k : IntKind) (w : World) (a : Option Addr) (len cap : Nat) (zs : List Int) : Prop :=
  (a = none ∧ len = 0 ∧ cap = 0 ∧ zs = []) ∨
  ∃ x, a = some x ∧ len ≤ cap ∧ cap ≤ maxLen ∧ zs.length = cap ∧ (∀ i, i < zs.length → w.cell? (x.add i) = some (.int k (zs.getD i 0))) ∧ ∀ n ∈ zs, (Lit.int k n).wf = true

theorem IsRow.rd {k : IntKind} {w : World} {a : Option Addr} {len cap : Nat} {zs : List Int} (h : IsRow k w a len cap zs) : Rd w a len cap 1 ((zs.take len).map (Value.int k)) := by
  rcases h with ⟨rfl, rfl, rfl, rfl⟩ | ⟨x, rfl, h1, h2, h3, h4, _⟩
  · exact Rd.nilSlice w 1
  · refine ⟨by rw [List.length_map, List.length_take]; omega, h1, h2, fun h => (by cases h), fun ad ha j u hu => ?_⟩
    simp only [Option.some.injEq] at ha; subst ha
    have hj : j < len := by
      have := (List.getElem?_eq_some_iff.1 hu).1
      rw [List.length_map, List.length_take] at this; omega
    rw [h4 j (by omega)]
    rw [List.getElem?_map, List.getElem?_take, if_pos hj, List.getElem?_eq_getElem (by omega)] at hu
    simp only [Option.map_some, Option.some.injEq] at hu
    rw [← hu, List.getD_eq_getElem?_getD, List.getElem?_eq_getElem (by omega)]; rfl

theorem IsRow.wf {k : IntKind} {w : World} {a : Option Addr} {len cap : Nat} {zs : List Int} (h : IsRow k w a len cap zs) : ∀ n ∈ zs.take len, (Lit.int k n).wf = true := by
  intro n hn
  rcases h with ⟨rfl, rfl, rfl, rfl⟩ | ⟨x, rfl, h1, h2, h3, h4, h5⟩
  · simp at hn
  · exact h5 n (List.mem_of_mem_take hn)

theorem wf_i64_bd {n : Int} (h : (Lit.int .i64 n).wf = true) : -9223372036854775808 ≤ n ∧ n ≤ 9223372036854775807 := by
  simp [Lit.wf, IntKind.min, IntKind.max, IntKind.signed, IntKind.bits] at h; omega
theorem wf_u8_bd {n : Int} (h : (Lit.int .u8 n).wf = true) : 0 ≤ n ∧ n < 256 := by
  simp [Lit.wf, IntKind.min, IntKind.max, IntKind.signed, IntKind.bits] at h; omega

/-- A byte slice that came in. -/
theorem IsRow.bytes {w : World} {a : Option Addr} {len cap : Nat} {zs : List Int} (h : IsRow .u8 w a len cap zs) : ∃ l : List UInt8, l.length = len ∧ Rd w a len cap 1 (byteVals l) := by
  have hr := h.rd
  have hl := hr.hlen
  rw [List.length_map] at hl
  refine ⟨(zs.take len).map fun n => UInt8.ofNat n.toNat, by rw [List.length_map]; omega, ?_⟩
  have he : byteVals ((zs.take len).map fun n => UInt8.ofNat n.toNat) = (zs.take len).map (Value.int .u8) := by
    unfold byteVals
    rw [List.map_map]
    apply List.map_congr_left
    intro n hn
    have hb := wf_u8_bd (h.wf n hn)
    simp only [Function.comp]
    congr 1
    simp
    omega
  rw [he]; exact hr

/-- A slice of ints that came in. -/
theorem IsRow.ints {w : World} {a : Option Addr} {len cap : Nat} {zs : List Int} (h : IsRow .i64 w a len cap zs) :
    ∃ l : List Int, l.length = len ∧ Rd w a len cap 1 (l.map (Value.int .i64)) ∧ ∀ x ∈ l, -9223372036854775808 ≤ x ∧ x ≤ 9223372036854775807 := by
  have hr := h.rd
  have hl := hr.hlen
  rw [List.length_map] at hl
  exact ⟨zs.take len, by omega, hr, fun x hx => wf_i64_bd (h.wf x hx)⟩
end Go.Proofs.Ytpgdfhncigmmbaa

/-
  What the arguments of a statement are to a walk, in general: slices of any elements that came in; all arguments read again behind the call. No condition.
-/
namespace Go.Proofs.Ytpgdfhncigmmbaa
open Go.RowKit Go.WideShapes

theorem flat_cell {w : World} {a : Addr} {size : Nat} : ∀ (css : List (List Value)) (k : Nat), (∀ cs ∈ css, cs.length = size) → (∀ i (hi : i < css.length) r, r < size → w.cell? (a.add ((k + i) * size + r)) = (css[i])[r]?) →
    ∀ j u, css.flatten[j]? = some u → w.cell? (a.add (k * size + j)) = some u
  | [], _, _, _, j, u, hu => by simp at hu
  | c :: css, k, hl, hc, j, u, hu => by
    have h0 := hl c (by simp)
    rw [List.flatten_cons] at hu
    rcases Nat.lt_or_ge j size with h | h
    · rw [List.getElem?_append_left (by omega)] at hu
      have := hc 0 (by simp) j h
      rw [Nat.add_zero] at this
      rw [this]; exact hu
    · rw [List.getElem?_append_right (by omega), h0] at hu
      have := flat_cell css (k + 1) (fun x hx => hl x (by simp [hx])) (fun i hi r hr => by
        have := hc (i + 1) (by simp; omega) r hr
        rw [show k + (i + 1) = k + 1 + i from by omega] at this
        rw [this]; simp) (j - size) u hu
      rw [Nat.add_mul, Nat.one_mul, show k * size + size + (j - size) = k * size + j from by omega] at this
      exact this

section
variable {H : Type} {enc : TypeId × Value → H} {P : Program} {w : World}

/-- An element as it is read. -/
def Elem (enc : TypeId × Value → H) (P : Program) (w : World) (e : TypeId) (cs : List Value) (d : DataW H) : Prop := ∃ n pl, DataW.trod enc P w 0 (fun _ => true) true n e cs = some (d, pl)

/-- A slice that came in, element by element. -/
theorem open_rows {t e : TypeId} {v : Value} {d : DataW H} {p : List MemPlace} (ht : P.underlying t = some (.slice e)) {r : Reach} {b0 : Nat} (hv : Value.okWide P w r b0 t v) (h : DataW.Trod enc P w 0 (fun _ => true) true t v d p) :
    ∃ (a : Option Addr) (len cap : Nat) (css : List (List Value)) (els spare : List (DataW H)), v = .slice a len cap ∧ css.length = len ∧ els.length = len ∧ Rd w a len cap (P.cellsOf e) css.flatten ∧ (∀ cs ∈ css, cs.length = P.cellsOf e) ∧
      len + spare.length = cap ∧ ((d = .slice els spare) ∨ (d = .nil ∧ els = [] ∧ spare = [])) ∧ (∀ i (hi : i < css.length) (hj : i < els.length), Elem enc P w e css[i] els[i]) := by
  obtain ⟨a0, l0, c0, rfl⟩ := okWide_slice ht hv
  obtain ⟨fuel, hf⟩ := h
  rcases Deep.open_slice ht hf with ⟨hcs, hx⟩ | ⟨a, len, cap, m, n, D, Pl, hcs, _, hl, hm, hmm, hx, hel⟩
  · simp [Value.cells] at hcs
    obtain ⟨rfl, rfl, rfl⟩ := hcs
    simp only [Prod.mk.injEq] at hx
    exact ⟨none, 0, 0, [], [], [], rfl, rfl, rfl, Rd.nilSlice w _, by simp, rfl, .inr ⟨hx.1, rfl, rfl⟩, fun i hi => by simp at hi⟩
  · simp [Value.cells] at hcs
    obtain ⟨rfl, rfl, rfl⟩ := hcs
    simp only [if_true] at hmm
    subst hmm
    simp only [Prod.mk.injEq] at hx
    have hC : ∀ i, i < m → ∃ cs', w.cells? 0 (a.add (i * P.cellsOf e)) (P.cellsOf e) = some cs' ∧ cs' = (w.cells? 0 (a.add (i * P.cellsOf e)) (P.cellsOf e)).getD [] ∧ DataW.trod enc P w 0 (fun _ => true) true n e cs' = some (D i, Pl i) := fun i hi => by
      obtain ⟨cs', h1, h2⟩ := hel i hi
      exact ⟨cs', h1, by rw [h1]; rfl, h2⟩
    have hlen : ∀ cs ∈ (List.range l0).map (fun i => (w.cells? 0 (a.add (i * P.cellsOf e)) (P.cellsOf e)).getD []), cs.length = P.cellsOf e := by
      intro cs hcs
      obtain ⟨i, hi, rfl⟩ := List.mem_map.1 hcs
      obtain ⟨cs', h1, h2, h3⟩ := hC i (by have := List.mem_range.1 hi; omega)
      rw [← h2]; exact (World.cells?_some h1).2.1
    refine ⟨some a, l0, m, (List.range l0).map (fun i => (w.cells? 0 (a.add (i * P.cellsOf e)) (P.cellsOf e)).getD []), (List.range l0).map D, (List.range (m - l0)).map fun j => D (l0 + j), rfl, by simp, by simp,
      ⟨?_, hl, hm, fun h => (by cases h), fun ad ha j u hu => ?_⟩, hlen, by simp; omega, .inl hx.1, fun i hi hj => ?_⟩
    · have : ∀ css : List (List Value), (∀ cs ∈ css, cs.length = P.cellsOf e) → css.flatten.length = css.length * P.cellsOf e := by
        intro css
        induction css with
        | nil => simp
        | cons c css ih => intro h; rw [List.flatten_cons, List.length_append, h c (by simp), ih (fun x hx => h x (by simp [hx])), List.length_cons, Nat.add_mul]; omega
      rw [this _ hlen]; simp
    · simp only [Option.some.injEq] at ha; subst ha
      have := flat_cell (w := w) (a := a) (size := P.cellsOf e) _ 0 hlen (fun i hi r hr => by
        simp only [List.length_map, List.length_range] at hi
        obtain ⟨cs', h1, h2, h3⟩ := hC i (by omega)
        have hh := (World.cells?_some h1).2.2 r hr
        rw [add_add] at hh
        rw [List.getElem_map, List.getElem_range, ← h2, Nat.zero_add]; exact hh) j u hu
      rwa [Nat.zero_mul, Nat.zero_add] at this
    · simp only [List.length_map, List.length_range] at hi
      obtain ⟨cs', h1, h2, h3⟩ := hC i (by omega)
      refine ⟨n, Pl i, ?_⟩
      rw [List.getElem_map, List.getElem_range, List.getElem_map, List.getElem_range, ← h2]; exact h3

/-- All elements at once, by a reading of one element. -/
theorem open_all {α : Type} {e : TypeId} (cell : α → List Value) (dat : α → DataW H) (ok : α → Prop) (hone : ∀ cs d, Elem enc P w e cs d → ∃ x, cs = cell x ∧ d = dat x ∧ ok x) :
    ∀ (css : List (List Value)) (els : List (DataW H)), css.length = els.length → (∀ i (hi : i < css.length) (hj : i < els.length), Elem enc P w e css[i] els[i]) → ∃ xs : List α, css = xs.map cell ∧ els = xs.map dat ∧ ∀ x ∈ xs, ok x
  | [], [], _, _ => ⟨[], rfl, rfl, by simp⟩
  | c :: css, d :: els, hl, h => by
    obtain ⟨x, rfl, rfl, hx⟩ := hone c d (h 0 (by simp) (by simp))
    obtain ⟨xs, rfl, rfl, hxs⟩ := open_all cell dat ok hone css els (by simpa using hl) (fun i hi hj => by
      have := h (i + 1) (by simp; omega) (by simp; omega)
      simpa using this)
    refine ⟨x :: xs, rfl, rfl, fun y hy => ?_⟩
    rcases List.mem_cons.1 hy with rfl | hy
    · exact hx
    · exact hxs y hy
  | [], _ :: _, hl, _ => by simp at hl
  | _ :: _, [], hl, _ => by simp at hl

theorem elem_string {e : TypeId} (he : P.underlying e = some .string) {cs : List Value} {d : DataW H} (h : Elem enc P w e cs d) : ∃ x : List UInt8, cs = [.string ⟨x.toArray⟩] ∧ d = .lit (.string x) ∧ x.length ≤ maxLen := by
  obtain ⟨n, pl, h⟩ := h
  obtain ⟨s, rfl, hx, hs⟩ := DataW.trod_string he h
  simp only [Prod.mk.injEq] at hx
  exact ⟨s.data.toList, by simp, hx.1, by simpa using hs⟩

theorem elem_int {e : TypeId} {k : IntKind} (he : P.underlying e = some (.int k)) {cs : List Value} {d : DataW H} (h : Elem enc P w e cs d) : ∃ x : Int, cs = [.int k x] ∧ d = .lit (.int k x) ∧ (Lit.int k x).wf = true := by
  obtain ⟨n, pl, h⟩ := h
  obtain ⟨x, rfl, hx, hs⟩ := DataW.trod_int he h
  simp only [Prod.mk.injEq] at hx
  exact ⟨x, rfl, hx.1, hs⟩

/-- An element that is an array. -/
theorem elem_array {t e : TypeId} {n : Nat} (ht : P.underlying t = some (.array n e)) (he : P.cellsOf e = 1) {cs : List Value} {d : DataW H} (h : Elem enc P w t cs d) : cs.length = P.cellsOf t ∧ ∃ els : List (DataW H), els.length = n ∧ d = .agg els ∧ ∀ i (hj : i < els.length), Elem enc P w e ((cs.drop i).take 1) els[i] := by
  obtain ⟨m, pl, h⟩ := h
  obtain ⟨xs, m', rfl, hx, hl, hn, hi⟩ := DataW.trod_array ht h
  simp only [Prod.mk.injEq] at hx
  refine ⟨hl, xs.map (·.1), by simpa using hn, hx.1, fun i hj => ?_⟩
  simp only [List.length_map] at hj
  have := hi i (by omega)
  rw [he, Nat.mul_one, List.getElem?_eq_getElem hj] at this
  exact ⟨m', (xs[i]).2, by rw [this]; simp⟩

/-- A string that came in. -/
theorem open_str {t : TypeId} {v : Value} {d : DataW H} {p : List MemPlace} (ht : P.underlying t = some .string) {r : Reach} {b0 : Nat} (hv : Value.okWide P w r b0 t v) (h : DataW.Trod enc P w 0 (fun _ => true) true t v d p) :
    ∃ s : ByteArray, v = .string s ∧ d = .lit (.string s.data.toList) ∧ s.size ≤ maxLen := by
  obtain ⟨s, h1, h2, _, h3⟩ := Go.ChangeMaps.open_string ht hv h
  exact ⟨s, h1, h2, h3⟩
end

/-- All arguments read behind the call as they read before. -/
theorem below_trodAll {H : Type} {enc : TypeId × Value → H} {P : Program} {W W' : World} (hl : laidOutB P = true) (hb : Below W.heap.size W W') :
    ∀ {ts : List TypeId} {vs : List Value} {ds : List (DataW H)} {ps : List MemPlace}, ts.all (fun t => P.readableRec t && decide (t < P.types.size)) = true → DataW.TrodAll enc P W 0 (fun _ => true) true ts vs ds ps → DataW.TrodAll enc P W' 0 (fun b => decide (b < W.heap.size)) true ts vs ds ps
  | [], [], [], _, _, h => h
  | t :: ts, v :: vs, d :: ds, _, hr, h => by
    simp only [List.all_cons, Bool.and_eq_true, decide_eq_true_eq] at hr
    obtain ⟨p, q, h1, h2, rfl⟩ := h
    refine ⟨p, q, Below.trod hl hr.1.1 hr.1.2 h1 hb (by obtain ⟨m, hm⟩ := h1; exact DataW.trod_lt m _ _ _ hm), below_trodAll hl hb hr.2 h2, rfl⟩
  | [], [], _ :: _, _, _, h => by simp [DataW.TrodAll] at h
  | [], _ :: _, _, _, _, h => by simp [DataW.TrodAll] at h
  | _ :: _, [], _, _, _, h => by simp [DataW.TrodAll] at h
  | _ :: _, _ :: _, [], _, _, h => by simp [DataW.TrodAll] at h

/-- A slice of bytes that came in, as bytes. -/
theorem Rd.u8s {w : World} {a : Option Addr} {len cap : Nat} {xs : List Int} (h : Rd w a len cap 1 (xs.map (Value.int .u8))) (hx : ∀ x ∈ xs, (Lit.int .u8 x).wf = true) : ∃ l : List UInt8, Rd w a len cap 1 (byteVals l) := by
  refine ⟨xs.map fun n => UInt8.ofNat n.toNat, ?_⟩
  have he : byteVals (xs.map fun n => UInt8.ofNat n.toNat) = xs.map (Value.int .u8) := by
    unfold byteVals
    rw [List.map_map]
    apply List.map_congr_left
    intro n hn
    have hb := wf_u8_bd (hx n hn)
    simp only [Function.comp]
    congr 1
    simp
    omega
  rw [he]; exact h
end Go.Proofs.Ytpgdfhncigmmbaa

/-
  What arguments of plain types are to a walk. No condition.
-/
namespace Go.Proofs.Ytpgdfhncigmmbaa
open Go.RowKit

theorem flat_one {α : Type} (f : α → Value) (xs : List α) : (xs.map fun x => [f x]).flatten = xs.map f := by
  induction xs with
  | nil => rfl
  | cons x xs ih => rw [List.map_cons, List.flatten_cons, ih]; rfl

theorem Rd.rows1 {w : World} {a : Option Addr} {len cap size : Nat} {α : Type} {f : α → Value} {xs : List α} (h : Rd w a len cap size ((xs.map fun x => [f x]).flatten)) (hs : size = 1) : Rd w a len cap 1 (xs.map f) := by
  subst hs; rw [flat_one] at h; exact h

section
variable {H : Type} {enc : TypeId × Value → H} {P : Program} {w : World}

theorem elem_bool {e : TypeId} (he : P.underlying e = some .bool) {cs : List Value} {d : DataW H} (h : Elem enc P w e cs d) : ∃ x : Bool, cs = [.bool x] ∧ d = .lit (.bool x) ∧ True := by
  obtain ⟨n, pl, h⟩ := h
  obtain ⟨x, rfl, hx⟩ := DataW.trod_bool he h
  simp only [Prod.mk.injEq] at hx
  exact ⟨x, rfl, hx.1, trivial⟩

/-- An element that is a struct. -/
theorem elem_struct {t : TypeId} {fs : Array Field} (ht : P.underlying t = some (.struct fs)) {cs : List Value} {d : DataW H} (h : Elem enc P w t cs d) :
    cs.length = P.cellsOf t ∧ ∃ els : List (DataW H), els.length = fs.size ∧ d = .agg els ∧ ∀ (i : Nat) (f : Field), fs[i]? = some f → ∃ (hi : i < els.length), Elem enc P w f.type ((cs.drop f.offset).take (P.cellsOf f.type)) els[i] := by
  obtain ⟨m, pl, h⟩ := h
  obtain ⟨xs, m', rfl, hx, hl, hn, hi⟩ := DataW.trod_struct ht h
  simp only [Prod.mk.injEq] at hx
  refine ⟨hl, xs.map (·.1), by simpa using hn, hx.1, fun i f hf => ?_⟩
  have h1 := (Array.getElem?_eq_some_iff.1 hf).1
  have := hi i f hf
  rw [List.getElem?_eq_getElem (by omega)] at this
  exact ⟨by rw [List.length_map]; omega, m', (xs[i]'(by omega)).2, by rw [this]; simp⟩

theorem sized_rows {ts : List TypeId} {ds : List (DataW H)} (h : (DataW.weightsEach P ts ds).all (· ≤ reachBytes) = true) {j : Nat} {t e : TypeId} {d : DataW H} {els spare : List (DataW H)} (ht : ts[j]? = some t) (hd : ds[j]? = some d) (hu : P.underlying t = some (.slice e))
    (hs : (d = .slice els spare) ∨ (d = .nil ∧ els = [] ∧ spare = [])) : (els.length + spare.length) * P.bytesOf e ≤ 140737488351232 := by
  rcases hs with rfl | ⟨_, rfl, rfl⟩
  · exact sized_slice h ht hd hu
  · simp

theorem all_mem {e : TypeId} : ∀ {l : List (DataW H)} {d : DataW H}, d ∈ l → ∀ n ∈ d.weights P e, n ∈ DataW.weightsAll P e l
  | d' :: r, d, hd, n, hn => by
    simp only [DataW.weightsAll, List.mem_append]
    rcases List.mem_cons.1 hd with rfl | h
    · exact Or.inl hn
    · exact Or.inr (all_mem h n hn)

/-- Each string of a slice is within the reach. -/
theorem sized_strs {ts : List TypeId} {ds : List (DataW H)} (h : (DataW.weightsEach P ts ds).all (· ≤ reachBytes) = true) {j : Nat} {t e : TypeId} {d : DataW H} {ss : List (List UInt8)} {spare : List (DataW H)} (ht : ts[j]? = some t) (hd : ds[j]? = some d) (hu : P.underlying t = some (.slice e))
    (hs : (d = .slice (ss.map fun x => DataW.lit (.string x)) spare) ∨ (d = .nil ∧ (ss.map fun x => DataW.lit (H := H) (.string x)) = [] ∧ spare = [])) : ∀ s ∈ ss, s.length ≤ 140737488351232 := by
  intro s hm
  rcases hs with rfl | ⟨_, h0, _⟩
  · have := List.all_eq_true.1 h _ (DataW.weights_mem_each ht hd s.length (by
      simp only [DataW.weights, hu, List.mem_cons, List.mem_append]
      exact Or.inr (Or.inl (all_mem (List.mem_map.2 ⟨s, hm, rfl⟩) _ (by simp [DataW.weights])))))
    exact of_decide_eq_true this
  · have : ss = [] := by simpa using h0
    subst this; cases hm
end

end Go.Proofs.Ytpgdfhncigmmbaa

/-
  More lemmas on memory: what is kept behind calls; slices that can be read. No condition.
-/
namespace Go.Proofs.Ytpgdfhncigmmbaa
open Go.RowKit

theorem heap_at {w : World} {o : Obj} {k : Nat} (h : k = w.heap.size) : (w.alloc o).heap[k]? = some o := by subst h; exact heap_alloc_new w o

/-- A block just laid, read as a slice; its number and its cells spelled otherwise. -/
theorem rd_newAt {w : World} {arr : Array Value} {cs : List Value} {e : TypeId} {n g size : Nat} (hg : g = w.heap.size) (ha : arr = cs.toArray) (hn : cs.length = n * size) (hm : n ≤ maxLen) : Rd (w.alloc (.cells arr e)) (some ⟨g, 0, none⟩) n n size cs := by
  subst hg; subst ha
  exact ⟨hn, Nat.le_refl _, hm, fun h => (by cases h), fun ad ha j u hu => by
    simp only [Option.some.injEq] at ha; subst ha
    exact block_cells (heap_alloc_new w _) 0 cs (fun j hj => by simp) j u hu⟩

theorem _root_.Go.RowKit.Below.call {B : Nat} {w w1 w2 : World} {o : Obj} (h : Below B w w1) (hB : B ≤ w.heap.size) (hb : Below (w1.alloc o).heap.size (w1.alloc o) w2) : Below B w w2 :=
  (h.alloc (Nat.le_trans hB h.size) o).trans (hb.mono (by have := h.size; simp; omega))
theorem _root_.Go.RowKit.Below.call0 {B : Nat} {w w1 w2 : World} (h : Below B w w1) (hB : B ≤ w.heap.size) (hb : Below w1.heap.size w1 w2) : Below B w w2 :=
  h.trans (hb.mono (Nat.le_trans hB h.size))
theorem _root_.Go.RowKit.Below.new {B : Nat} {w w1 : World} (h : Below B w w1) (hB : B ≤ w.heap.size) (o : Obj) : Below B w (w1.alloc o) := h.alloc (Nat.le_trans hB h.size) o
theorem Rd.call {w1 w2 : World} {o : Obj} {a : Option Addr} {n cap size : Nat} {xs : List Value} (h : Rd w1 a n cap size xs) (hb : Below (w1.alloc o).heap.size (w1.alloc o) w2) : Rd w2 a n cap size xs :=
  h.below ((Below.refl w1.heap.size w1).call (Nat.le_refl _) hb) (Nat.le_refl _)
theorem Rd.call0 {w1 w2 : World} {a : Option Addr} {n cap size : Nat} {xs : List Value} (h : Rd w1 a n cap size xs) (hb : Below w1.heap.size w1 w2) : Rd w2 a n cap size xs :=
  h.below hb (Nat.le_refl _)
theorem Rd.alloc {w1 : World} {a : Option Addr} {n cap size : Nat} {xs : List Value} (h : Rd w1 a n cap size xs) (o : Obj) : Rd (w1.alloc o) a n cap size xs :=
  h.below ((Below.refl w1.heap.size w1).alloc (Nat.le_refl _) o) (Nat.le_refl _)
theorem Rd.drew {w1 : World} {a : Option Addr} {n cap size : Nat} {xs : List Value} (h : Rd w1 a n cap size xs) : Rd w1.drew a n cap size xs := ⟨h.hlen, h.hcap, h.hmax, h.hnil, h.hcell⟩

/-- 's[:u]'. -/
theorem Rd.pre {w : World} {a : Option Addr} {n cap : Nat} {xs : List Value} (h : Rd w a n cap 1 xs) (u : Nat) (hu : u ≤ n) : Rd w a u cap 1 (xs.take u) :=
  ⟨by rw [List.length_take]; have := h.hlen; omega, Nat.le_trans hu h.hcap, h.hmax, fun ha => by rw [h.hnil ha]; simp, fun ad ha j v hv => by
    rw [List.getElem?_take] at hv
    split at hv
    · exact h.hcell ad ha j v hv
    · cases hv⟩
/-- 'b[:len(b):len(b)]'. -/
theorem Rd.full {w : World} {a : Option Addr} {n cap size : Nat} {xs : List Value} (h : Rd w a n cap size xs) : Rd w a n n size xs :=
  ⟨h.hlen, Nat.le_refl _, Nat.le_trans h.hcap h.hmax, h.hnil, h.hcell⟩
theorem byteVals_app {l m : List UInt8} : byteVals l ++ byteVals m = byteVals (l ++ m) := (byteVals_append l m).symm
theorem byteVals_snoc (l : List UInt8) (b : UInt8) : byteVals (l ++ [b]) = byteVals l ++ [Value.int .u8 b.toNat] := by simp [byteVals]
theorem Rd.blen {w : World} {a : Option Addr} {n cap : Nat} {l : List UInt8} (h : Rd w a n cap 1 (byteVals l)) : l.length = n := by
  have := h.hlen; rw [byteVals_length] at this; omega
theorem Rd.byteN {w : World} {a : Option Addr} {n cap : Nat} {l : List UInt8} (h : Rd w a n cap 1 (byteVals l)) (k : Nat) (hk : k < n) :
    ∃ b off, a = some ⟨b, off, none⟩ ∧ w.cell? ⟨b, off + k, none⟩ = some (.int .u8 ((l.getD k 0).toNat : Int)) := by
  have hl := h.blen
  obtain ⟨b, off, ha, hc⟩ := h.at k hk
  refine ⟨b, off, ha, ?_⟩
  rw [hc k (by rw [byteVals_length]; omega)]
  simp [byteVals, List.getD_eq_getElem?_getD, List.getElem?_eq_getElem (show k < l.length by omega)]

/-- Integers as cells. -/
def intVals (xs : List Int) : List Value := xs.map (Value.int .i64)
theorem intVals_length (xs : List Int) : (intVals xs).length = xs.length := by simp [intVals]
/-- Strings as cells. -/
def bstrVals (ss : List (List UInt8)) : List Value := ss.map fun s => Value.string ⟨s.toArray⟩
theorem bstrVals_length (ss : List (List UInt8)) : (bstrVals ss).length = ss.length := by simp [bstrVals]
theorem Rd.intAt {w : World} {a : Option Addr} {n cap : Nat} {l : List Int} (h : Rd w a n cap 1 (intVals l)) (k : Nat) (hk : k < l.length) :
    ∃ b off, a = some ⟨b, off, none⟩ ∧ w.cell? ⟨b, off + k, none⟩ = some (.int .i64 l[k]) := by
  have hl := h.hlen; rw [intVals_length] at hl
  obtain ⟨b, off, ha, hc⟩ := h.at k (by omega)
  exact ⟨b, off, ha, by rw [hc k (by rw [intVals_length]; exact hk)]; simp [intVals]⟩
theorem Rd.strAt {w : World} {a : Option Addr} {n cap : Nat} {l : List (List UInt8)} (h : Rd w a n cap 1 (bstrVals l)) (k : Nat) (hk : k < l.length) :
    ∃ b off, a = some ⟨b, off, none⟩ ∧ w.cell? ⟨b, off + k, none⟩ = some (.string ⟨(l[k]).toArray⟩) := by
  have hl := h.hlen; rw [bstrVals_length] at hl
  obtain ⟨b, off, ha, hc⟩ := h.at k (by omega)
  exact ⟨b, off, ha, by rw [hc k (by rw [bstrVals_length]; exact hk)]; simp [bstrVals]⟩

theorem str_back (s : ByteArray) : (⟨s.data.toList.toArray⟩ : ByteArray) = s := by cases s; simp
theorem str_to (l : List UInt8) : (⟨l.toArray⟩ : ByteArray).data.toList = l := by simp
theorem str_size (l : List UInt8) : (⟨l.toArray⟩ : ByteArray).size = l.length := by show l.toArray.size = _; simp

/-- What a function that makes a byte slice returns, for the caller. -/
def GotB (l : List UInt8) (w : World) (e : Ending) (w' : World) : Prop := ∃ a cap, e = .returned (.slice a l.length cap) ∧ Rd w' a l.length cap 1 (byteVals l) ∧ Below w.heap.size w w'
/-- What a function that returns a bool and keeps what was there. -/
def RetBool (b : Bool) (w : World) (e : Ending) (w' : World) : Prop := e = .returned (.bool b) ∧ Below w.heap.size w w'
/-- What a function that returns a value and keeps what was there. -/
def RetV (v : Value) (w : World) (e : Ending) (w' : World) : Prop := e = .returned v ∧ Below w.heap.size w w'
end Go.Proofs.Ytpgdfhncigmmbaa

/-
  Masks of integers of 64 bits. No condition.
-/
namespace Go.Proofs.Ytpgdfhncigmmbaa

theorem u64wrap (k : Int) : IntKind.u64.wrap k = k % 18446744073709551616 := by simp [IntKind.wrap, IntKind.bits, IntKind.signed]
theorem i64_and1 (n : Int) : bits .and .i64 n 1 = n % 2 := by
  have hc : (BitVec.ofInt 64 1).toNat = 2 ^ 1 - 1 := by decide
  have key : (BitVec.ofInt 64 n &&& BitVec.ofInt 64 1).toNat = (n % ((2 ^ 64 : Nat) : Int)).toNat % 2 ^ 1 := by
    rw [BitVec.toNat_and, BitVec.toNat_ofInt, hc, Nat.and_two_pow_sub_one_eq_mod]
  show IntKind.i64.wrap ((BitVec.ofInt 64 n &&& BitVec.ofInt 64 1).toNat : Nat) = n % 2
  rw [key, IntKind.wrap_i64]
  omega
theorem i64_and7 (n : Int) : bits .and .i64 n 7 = n % 8 := by
  have hc : (BitVec.ofInt 64 7).toNat = 2 ^ 3 - 1 := by decide
  have key : (BitVec.ofInt 64 n &&& BitVec.ofInt 64 7).toNat = (n % ((2 ^ 64 : Nat) : Int)).toNat % 2 ^ 3 := by
    rw [BitVec.toNat_and, BitVec.toNat_ofInt, hc, Nat.and_two_pow_sub_one_eq_mod]
  show IntKind.i64.wrap ((BitVec.ofInt 64 n &&& BitVec.ofInt 64 7).toNat : Nat) = n % 8
  rw [key, IntKind.wrap_i64]
  omega
theorem i64_and15 (n : Int) : bits .and .i64 n 15 = n % 16 := by
  have hc : (BitVec.ofInt 64 15).toNat = 2 ^ 4 - 1 := by decide
  have key : (BitVec.ofInt 64 n &&& BitVec.ofInt 64 15).toNat = (n % ((2 ^ 64 : Nat) : Int)).toNat % 2 ^ 4 := by
    rw [BitVec.toNat_and, BitVec.toNat_ofInt, hc, Nat.and_two_pow_sub_one_eq_mod]
  show IntKind.i64.wrap ((BitVec.ofInt 64 n &&& BitVec.ofInt 64 15).toNat : Nat) = n % 16
  rw [key, IntKind.wrap_i64]
  omega
theorem i64_and31 (n : Int) : bits .and .i64 n 31 = n % 32 := by
  have hc : (BitVec.ofInt 64 31).toNat = 2 ^ 5 - 1 := by decide
  have key : (BitVec.ofInt 64 n &&& BitVec.ofInt 64 31).toNat = (n % ((2 ^ 64 : Nat) : Int)).toNat % 2 ^ 5 := by
    rw [BitVec.toNat_and, BitVec.toNat_ofInt, hc, Nat.and_two_pow_sub_one_eq_mod]
  show IntKind.i64.wrap ((BitVec.ofInt 64 n &&& BitVec.ofInt 64 31).toNat : Nat) = n % 32
  rw [key, IntKind.wrap_i64]
  omega
theorem i64_and255 (n : Int) : bits .and .i64 n 255 = n % 256 := by
  have hc : (BitVec.ofInt 64 255).toNat = 2 ^ 8 - 1 := by decide
  have key : (BitVec.ofInt 64 n &&& BitVec.ofInt 64 255).toNat = (n % ((2 ^ 64 : Nat) : Int)).toNat % 2 ^ 8 := by
    rw [BitVec.toNat_and, BitVec.toNat_ofInt, hc, Nat.and_two_pow_sub_one_eq_mod]
  show IntKind.i64.wrap ((BitVec.ofInt 64 n &&& BitVec.ofInt 64 255).toNat : Nat) = n % 256
  rw [key, IntKind.wrap_i64]
  omega
theorem i64_and1099511627775 (n : Int) : bits .and .i64 n 1099511627775 = n % 1099511627776 := by
  have hc : (BitVec.ofInt 64 1099511627775).toNat = 2 ^ 40 - 1 := by decide
  have key : (BitVec.ofInt 64 n &&& BitVec.ofInt 64 1099511627775).toNat = (n % ((2 ^ 64 : Nat) : Int)).toNat % 2 ^ 40 := by
    rw [BitVec.toNat_and, BitVec.toNat_ofInt, hc, Nat.and_two_pow_sub_one_eq_mod]
  show IntKind.i64.wrap ((BitVec.ofInt 64 n &&& BitVec.ofInt 64 1099511627775).toNat : Nat) = n % 1099511627776
  rw [key, IntKind.wrap_i64]
  omega
end Go.Proofs.Ytpgdfhncigmmbaa

/-
  Blocks of the call's own, cell by cell; a store of a whole aggregate. No condition.
-/
namespace Go.Proofs.Ytpgdfhncigmmbaa
open Go.RowKit

/-- Block g holds the cells cs. -/
def Blk (w : World) (g : Nat) (ty : TypeId) (cs : List Value) : Prop := w.heap[g]? = some (.cells cs.toArray ty (0, 0))

section
variable {w w' : World} {g : Nat} {ty : TypeId} {cs : List Value}
theorem Blk.lt (h : Blk w g ty cs) : g < w.heap.size := lt_of_block h
theorem Blk.cell (h : Blk w g ty cs) (i : Nat) (hi : i < cs.length) : w.cell? ⟨g, i, none⟩ = some cs[i] := by
  rw [cell_of_row w g i cs.toArray ty (0, 0) h]; simp [hi]
theorem Blk.cellOf (h : Blk w g ty cs) {i : Nat} {v : Value} (hv : cs[i]? = some v) : w.cell? ⟨g, i, none⟩ = some v := by
  rw [cell_of_row w g i cs.toArray ty (0, 0) h]; simpa using hv
theorem Blk.free (h : Blk w g ty cs) (i : Nat) : w.frozen? ⟨g, i, none⟩ = false := by
  unfold Blk at h; simp [World.frozen?, h]
theorem Blk.agg (h : Blk w g ty cs) : ∀ j u, cs[j]? = some u → w.cell? ((⟨g, 0, none⟩ : Addr).add j) = some u :=
  block_cells h 0 cs (fun j hj => by simp)
theorem Blk.set (h : Blk w g ty cs) (i : Nat) (v : Value) : Blk (w.setCell ⟨g, i, none⟩ v) g ty (cs.set i v) := by
  have hlt := h.lt
  unfold Blk at h ⊢
  have h' : w.heap[g] = .cells cs.toArray ty (0, 0) := by simpa [Array.getElem?_eq_getElem hlt] using h
  show (w.heap.modify g _)[g]? = _
  rw [Array.getElem?_eq_getElem (by simpa using hlt), Array.getElem_modify_self, h']
  simp
theorem Blk.other (h : Blk w g ty cs) {p : Addr} (hk : g ≠ p.block) (v : Value) : Blk (w.setCell p v) g ty cs := by
  unfold Blk at h ⊢
  rw [Below.heap_setCell _ _ _ _ hk]; exact h
theorem Blk.below (h : Blk w g ty cs) {B : Nat} (hb : Below B w w') (hB : w.heap.size ≤ B) : Blk w' g ty cs := by
  have := h.lt
  unfold Blk at h ⊢
  rw [hb.block g (by omega)]; exact h
theorem Blk.call0 (h : Blk w g ty cs) (hb : Below w.heap.size w w') : Blk w' g ty cs := h.below hb (Nat.le_refl _)
theorem Blk.drew (h : Blk w g ty cs) : Blk w.drew g ty cs := h
theorem Blk.drewN (h : Blk w g ty cs) (n : Nat) : Blk (w.drewN n) g ty cs := h
theorem below_drewN {B : Nat} {a w : World} (h : Below B a w) (n : Nat) : Below B a (w.drewN n) := ⟨h.os, h.tape, h.output, h.size, h.block⟩
theorem Blk.alloc (h : Blk w g ty cs) (o : Obj) : Blk (w.alloc o) g ty cs := h.call0 ((Below.refl _ _).alloc (Nat.le_refl _) o)
theorem Blk.new {k : Nat} {arr : Array Value} (hk : k = w.heap.size) (ha : arr = cs.toArray) : Blk (w.alloc (.cells arr ty)) k ty cs := by subst ha; exact heap_at hk
theorem Blk.row (h : Blk w g ty cs) (ds : List Value) : Blk (w.setRow g ds.toArray) g ty ds := setRow_heap w g cs.toArray ds.toArray ty _ h
theorem Blk.rowOther (h : Blk w g ty cs) {k : Nat} (hk : g ≠ k) (ds : Array Value) : Blk (w.setRow k ds) g ty cs := by
  unfold Blk at h ⊢
  rw [setRow_other w k g _ hk]; exact h
theorem below_setRow {B : Nat} {a w : World} (h : Below B a w) {g : Nat} (hg : B ≤ g) (ds : Array Value) : Below B a (w.setRow g ds) :=
  h.trans ⟨rfl, rfl, rfl, by simp, fun k hk => setRow_other w g k _ (by omega)⟩
end

/-- A store of a whole aggregate into a block of the call's own. -/
theorem wpList_store_row {P : Program} {w : World} {ops : Array Oper} {rest : List Oper} {o : Oper} {a : Act} {Q : Exit → Act → World → Prop} (hgd : Region.wanted o (yielded ops a.tmps) = true) (ty : TypeId) (x v : Operand) (ho : o.op = .store ty x v) (hdst : o.dst = none)
    {size g : Nat} (hsz : (P.info? ty).map (·.size) = some size) {e : TypeId} {cur : List Value} (hb : Blk w g e cur) (hcur : cur.length = size) (hx : a.eval x = .pointer (some ⟨g, 0, none⟩)) {cs : List Value} (hv : (a.eval v).cells = cs.toArray) (hl : cs.length = size)
    (h1 : ∀ u ∈ cs, u.oneCell' = true) (h : wpList P ops Q rest a (w.setRow g cs.toArray)) : wpList P ops Q (o :: rest) a w := by
  refine BigFrame.wpList_want hgd fun K hK => ?_
  obtain ⟨i, hi, hs⟩ := Option.map_eq_some_iff.1 hsz
  have hst := run_storeCells_at P g 0 e cs 0 cur.toArray w hb (by simp; omega) h1
  have hd : cur.toArray.toList.drop (0 + cs.length) = [] := List.drop_eq_nil_of_le (by simp; omega)
  rw [hd, List.take_zero, List.nil_append, List.append_nil] at hst
  have hrun : (Instr.storeAt ty (.pointer (some ⟨g, 0, none⟩)) (a.eval v)).run P w = .ok () (w.setRow g cs.toArray) := by
    simp [Instr.storeAt, Instr.sureAddr, storeVar, sizeOf, typeInfo, hi, hs, hl, hv, hst]
  unfold Oper.wp execOp
  simp only [ho, hx, Sem.run_bind, hrun, Result.andThen_ok, Sem.run_pure]
  have hp : a.put o.dst undef = a := by rw [hdst]; rfl
  show K (a.put o.dst undef) _
  rw [hp]
  exact hK _ _ h

/-- Words as cells. -/
def wordVals (l : List UInt32) : List Value := l.map fun x => Value.int .u32 (x.toNat : Int)
theorem wordVals_length (l : List UInt32) : (wordVals l).length = l.length := by simp [wordVals]
theorem wordVals_one (l : List UInt32) : ∀ u ∈ wordVals l, u.oneCell' = true := by
  intro u hu
  obtain ⟨_, _, rfl⟩ := List.mem_map.1 hu
  rfl

/-- All bytes of a slice that is not empty. -/
theorem Rd.byteAll {w : World} {a : Option Addr} {n cap : Nat} {l : List UInt8} (h : Rd w a n cap 1 (byteVals l)) (hn : 0 < n) :
    ∃ g off, a = some ⟨g, off, none⟩ ∧ g < w.heap.size ∧ ∀ k, k < n → w.cell? ⟨g, off + k, none⟩ = some (.int .u8 ((l.getD k 0).toNat : Int)) := by
  have hl := h.blen
  obtain ⟨b, off, ha, hc⟩ := h.at 0 hn
  refine ⟨b, off, ha, ?_, fun k hk => ?_⟩
  · exact cell_block_lt (hc 0 (by rw [byteVals_length]; omega))
  · rw [hc k (by rw [byteVals_length]; omega)]
    simp [byteVals, List.getD_eq_getElem?_getD, List.getElem?_eq_getElem (show k < l.length by omega)]
end Go.Proofs.Ytpgdfhncigmmbaa

/-
  append of a number of zero elements ('append(s, make([]T, n)...)'). No condition.
-/
namespace Go.Proofs.Ytpgdfhncigmmbaa
open Go.RowKit

/-- The cells of m zero elements. -/
def zerosOf (z : Value) (m : Nat) : List Value := (Builtin.zeroCells z.cells m).toList
theorem zerosOf_len (z : Value) (m : Nat) : (zerosOf z m).length = m * z.cells.size := by
  unfold zerosOf; rw [Array.length_toList, size_zeroCells]

theorem run_append_num {P : Program} (w : World) (base : Nat) (t tx ty e : TypeId) (i : TypeInfo) (z : Value) (size bytes : Nat) (ht : P.underlying t = some (.slice e)) (htx : P.underlying tx = some (.int .i64))
    (hi : P.info? e = some i) (hz : i.zero = some z)
    (hsize : i.size = size) (hby : i.bytes = bytes) (hzs : z.cells.size = size) (hz1 : ∀ u ∈ z.cells.toList, u.oneCell' = true)
    (a : Option Addr) (n cap : Nat) (xs : List Value) (hown : w.ownsRow base e size (.slice a n cap) n xs)
    (m : Nat) (h63 : n + m ≤ maxLen) (hbytes : (n + m) * bytes ≤ 140737488355328) (hbase : base ≤ w.heap.size) :
    ∃ a' cap' w', (Builtin.append_ #[t, tx] ty #[.slice a n cap, .int .i64 m]).run P w = .ok (.slice a' (n + m) cap') w' ∧ w'.ownsRow base e size (.slice a' (n + m) cap') (n + m) (xs ++ zerosOf z m) ∧ w.grownBy w' (Value.slice a n cap).ownBlock ∧
      (∀ ad, a' = some ad → (a = some ad ∨ w.heap.size ≤ ad.block)) := by
  subst hsize
  subst hby
  have hsmall : n + m ≤ 9223372036854775807 := by simp only [maxLen] at h63; omega
  have hwm : IntKind.i64.wrap (m : Int) = (m : Int) := by rw [IntKind.wrap_i64]; omega
  have hm0 : ¬ ((m : Int) < 0) := by omega
  have hmb : ¬ (281474976710656 < (m : Int) * (i.bytes : Int)) := by
    have h1 : m * i.bytes ≤ (n + m) * i.bytes := Nat.mul_le_mul_right _ (by omega)
    have h2 : (m : Int) * (i.bytes : Int) = ((m * i.bytes : Nat) : Int) := by simp
    rw [h2]; omega
  have hl : (zerosOf z m).length = m * i.size := by rw [zerosOf_len, hzs]
  have h1 : ∀ u ∈ zerosOf z m, u.oneCell' = true := by
    intro u hu
    unfold zerosOf Builtin.zeroCells at hu
    simp only [Array.toList_map, List.mem_map, Array.toList_range] at hu
    obtain ⟨j, hj, rfl⟩ := hu
    by_cases h0 : z.cells.size = 0
    · rw [h0] at hj; simp at hj
    · have hlt : j % z.cells.size < z.cells.size := Nat.mod_lt _ (by omega)
      have : z.cells[j % z.cells.size]! = z.cells[j % z.cells.size] := by simp [hlt]
      rw [this]
      exact hz1 _ (by simp)
  have happ : ∀ w : World, (if m * i.size = 0 then (pure #[] : Sem (Array Value)) else (do pure (Builtin.zeroCells (← zeroValue e).cells m))).run P w = .ok (zerosOf z m).toArray w := by
    intro w
    by_cases h0 : m * i.size = 0
    · rw [if_pos h0]
      have : zerosOf z m = [] := List.eq_nil_of_length_eq_zero (by rw [hl, h0])
      rw [this]; rfl
    · rw [if_neg h0]; simp [zeroValue, typeInfo, hi, hz, zerosOf]
  have hlen : (xs ++ zerosOf z m).length = (n + m) * i.size := by rw [List.length_append, hown.1, hl, Nat.add_mul]
  have grown : ∀ (old : Nat), old < n + m → ∀ (row : Option Nat),
      (w.drew.alloc (.cells (xs.toArray ++ (zerosOf z m).toArray ++ Builtin.zeroCells z.cells (grownCap w (n + m) old e - (n + m))) e)).ownsRow base e i.size
        (.slice (some ⟨w.heap.size, 0, none⟩) (n + m) (grownCap w (n + m) old e)) (n + m) (xs ++ zerosOf z m) ∧
      w.grownBy (w.drew.alloc (.cells (xs.toArray ++ (zerosOf z m).toArray ++ Builtin.zeroCells z.cells (grownCap w (n + m) old e - (n + m))) e)) row := by
    intro old ho row
    have hge := grownCap_ge w (n + m) old e
    have hcm : grownCap w (n + m) old e ≤ maxLen := grownCap_le_maxLen w (n + m) old e h63
    refine ⟨⟨hlen, .inr ⟨w.heap.size, _, _, rfl, hbase, heap_alloc_new w.drew _, hge, hcm, ?_, ?_⟩⟩, ⟨rfl, rfl, rfl, by simp, fun k hk _ => Below.heap_alloc w.drew _ k hk⟩⟩
    · simp only [Array.size_append, List.size_toArray, size_zeroCells, hzs, hown.1, hl, ← Nat.add_mul]
      congr 1
      omega
    · simp only [Array.toList_append, List.append_assoc]
      rw [← List.append_assoc, ← hlen]
      exact List.take_left
  have hfo : (Builtin.firstCells i.size n (.slice a n cap)).run P w.drew = .ok xs.toArray w.drew := by
    have hrd := Rd.ofOwn hown
    cases a with
    | none => rw [run_firstCells_none, hrd.hnil rfl]
    | some ad => exact run_firstCells_some w.drew i.size n ad n cap xs hrd.hlen (by simpa using hrd.hcell ad rfl)
  by_cases hroom : n + m ≤ cap
  · rcases hown.2 with ⟨hv, h0⟩ | ⟨g, cap1, cur, hv, hbg, hg, hnc, hcm, hcs, htake⟩
    · simp only [Value.slice.injEq] at hv
      obtain ⟨rfl, rfl, rfl⟩ := hv
      have hm0' : m = 0 := by omega
      subst hm0'
      have hn : zerosOf z 0 = [] := List.eq_nil_of_length_eq_zero (by simpa using hl)
      refine ⟨none, 0, w, ?_, ?_, ⟨rfl, rfl, rfl, Nat.le_refl _, fun _ _ _ => rfl⟩, fun _ h => by cases h⟩
      · have hw0 : IntKind.i64.wrap 0 = 0 := rfl
        simp [Builtin.append_, run_underlying ht, run_underlying htx, sizeOf, typeInfo, hi, asInt, asIntOf, hw0]
      · have hx : xs = [] := List.eq_nil_of_length_eq_zero (by simpa using hown.1)
        subst hx
        rw [hn]
        exact World.ownsRow_nil w base e i.size
    · simp only [Value.slice.injEq] at hv
      obtain ⟨rfl, _, rfl⟩ := hv
      have hfit : n * i.size + (zerosOf z m).length ≤ cur.size := by rw [hl, hcs, ← Nat.add_mul]; exact Nat.mul_le_mul_right _ hroom
      have hst := run_storeCells_at P g (n * i.size) e (zerosOf z m) 0 cur w hg (by simpa using hfit) h1
      simp only [Nat.add_zero] at hst
      refine ⟨some ⟨g, 0, none⟩, cap, _, ?_, ⟨hlen, .inr ⟨g, cap, _, rfl, hbg, setRow_heap w g cur (cur.toList.take (n * i.size) ++ zerosOf z m ++ cur.toList.drop (n * i.size + (zerosOf z m).length)).toArray e _ hg, hroom, hcm, ?_, ?_⟩⟩, ⟨rfl, rfl, rfl, by simp, fun k _ hk => setRow_other w g k _ (fun e => hk (by simp [Value.ownBlock, e]))⟩, fun ad h => .inl h⟩
      · by_cases h0 : m * i.size = 0
        · have hnil : zerosOf z m = [] := List.eq_nil_of_length_eq_zero (by rw [hl, h0])
          rw [hnil] at hst ⊢
          simp [Builtin.append_, run_underlying ht, run_underlying htx, sizeOf, typeInfo, hi, asInt, asIntOf, hwm, hm0, hmb, hroom, Addr.add_lit, h0, hst]
        · have hst2 : (storeCells ⟨g, n * i.size, none⟩ (Builtin.zeroCells z.cells m).toList).run P w = _ := hst
          simp [Builtin.append_, run_underlying ht, run_underlying htx, sizeOf, typeInfo, zeroValue, hi, hz, asInt, asIntOf, hwm, hm0, hmb, hroom, Addr.add_lit, h0, hst2]
      · simp only [List.size_toArray, List.length_append, List.length_take, List.length_drop, Array.length_toList]
        omega
      · rw [htake, ← hlen]
        exact List.take_left
  · have h48 : ¬ (281474976710656 < Builtin.nextslicecap (n + m) cap * i.bytes) := by
      have := growslice_fits (need := n + m) (old := cap) (bytes := i.bytes) (by omega) hbytes; omega
    have h63' : ¬ (9223372036854775807 < ((n : Int) + (m : Int))) := by omega
    have hgr := grown cap (by omega) (Value.slice a n cap).ownBlock
    refine ⟨some ⟨w.heap.size, 0, none⟩, _, _, ?_, hgr.1, hgr.2, fun ad h => .inr (by simp only [Option.some.injEq] at h; subst h; exact Nat.le_refl _)⟩
    have hap := happ w.drew
    by_cases h0 : m * i.size = 0
    · rw [if_pos h0] at hap
      have hnil : zerosOf z m = [] := List.eq_nil_of_length_eq_zero (by rw [hl, h0])
      rw [hnil]
      simp [Builtin.append_, run_underlying ht, run_underlying htx, sizeOf, typeInfo, zeroValue, hi, hz, asInt, asIntOf, hwm, hm0, hmb, hroom, h63', h48, Question.forced, hfo, newRow, grownCap, h0]
    · simp [Builtin.append_, run_underlying ht, run_underlying htx, sizeOf, typeInfo, zeroValue, hi, hz, asInt, asIntOf, hwm, hm0, hmb, hroom, h63', h48, Question.forced, hfo, newRow, grownCap, h0]
      congr 2; apply Array.ext'; simp [zerosOf, List.append_assoc]

theorem wpList_append_num {P : Program} {w : World} {ops : Array Oper} {rest : List Oper} {o : Oper} {a : Act} {Q : Exit → Act → World → Prop} (hgd : Region.wanted o (yielded ops a.tmps) = true) (s x : Operand) (t tx : TypeId)
    (ho : o.op = .call { callee := .builtin .append, args := #[s, x], argTypes := #[t, tx] })
    {e : TypeId} {z : Value} {size bytes : Nat} (hT : SlT P t e z size bytes) (hz1 : ∀ u ∈ z.cells.toList, u.oneCell' = true) (htx : P.underlying tx = some (.int .i64))
    {base : Nat} {a0 : Option Addr} {n cap : Nat} {xs : List Value} (hs : a.eval s = .slice a0 n cap) (hown : w.ownsRow base e size (.slice a0 n cap) n xs)
    {m : Nat} (hx : a.eval x = .int .i64 m)
    (hbytes : (n + m) * bytes ≤ 140737488355328) (h63 : n + m ≤ maxLen) (hbase : base ≤ w.heap.size)
    (h : ∀ a' cap' w', w'.ownsRow base e size (.slice a' (n + m) cap') (n + m) (xs ++ zerosOf z m) → w.grownBy w' (Value.slice a0 n cap).ownBlock → wpList P ops Q rest (a.put o.dst (.slice a' (n + m) cap')) w') : wpList P ops Q (o :: rest) a w := by
  refine BigFrame.wpList_want hgd fun K hK => ?_
  obtain ⟨i, hi, hz, hsz, hby⟩ := info_parts hT.info
  obtain ⟨a', cap', w', hr, h2, h3, _⟩ := run_append_num (P := P) w base t tx o.type e i z size bytes hT.ht htx hi hz hsz hby hT.hz hz1 a0 n cap xs hown m h63 hbytes hbase
  unfold Oper.wp execOp
  simp only [ho, resolve, invoke, builtin, Sem.run_bind, Sem.run_pure, Result.andThen_ok, List.map_toArray, List.map_cons, List.map_nil, hs, hx, hr]
  exact hK _ _ (h a' cap' w' h2 h3)

theorem oper_append_num {P : Program} {w : World} {ops : Array Oper} {o : Oper} {a : Act} {K : Act → World → Prop} {Q : Exit → Act → World → Prop} (hgd : Region.wanted o (yielded ops a.tmps) = true) (s x : Operand) (t tx : TypeId)
    (ho : o.op = .call { callee := .builtin .append, args := #[s, x], argTypes := #[t, tx] })
    {e : TypeId} {z : Value} {size bytes : Nat} (hT : SlT P t e z size bytes) (hz1 : ∀ u ∈ z.cells.toList, u.oneCell' = true) (htx : P.underlying tx = some (.int .i64))
    {base : Nat} {a0 : Option Addr} {n cap : Nat} {xs : List Value} (hs : a.eval s = .slice a0 n cap) (hown : w.ownsRow base e size (.slice a0 n cap) n xs)
    {m : Nat} (hx : a.eval x = .int .i64 m)
    (hbytes : (n + m) * bytes ≤ 140737488355328) (h63 : n + m ≤ maxLen) (hbase : base ≤ w.heap.size)
    (h : ∀ a' cap' w', w'.ownsRow base e size (.slice a' (n + m) cap') (n + m) (xs ++ zerosOf z m) → w.grownBy w' (Value.slice a0 n cap).ownBlock → K (a.put o.dst (.slice a' (n + m) cap')) w') :
    if Region.wanted o (yielded ops a.tmps) = true then Oper.wp P o a w K Q else K (a.put o.dst undef) w := by
  rw [if_pos hgd]
  obtain ⟨i, hi, hz, hsz, hby⟩ := info_parts hT.info
  obtain ⟨a', cap', w', hr, h2, h3, _⟩ := run_append_num (P := P) w base t tx o.type e i z size bytes hT.ht htx hi hz hsz hby hT.hz hz1 a0 n cap xs hown m h63 hbytes hbase
  unfold Oper.wp execOp
  simp only [ho, resolve, invoke, builtin, Sem.run_bind, Sem.run_pure, Result.andThen_ok, List.map_toArray, List.map_cons, List.map_nil, hs, hx, hr]
  exact h a' cap' w' h2 h3
end Go.Proofs.Ytpgdfhncigmmbaa
