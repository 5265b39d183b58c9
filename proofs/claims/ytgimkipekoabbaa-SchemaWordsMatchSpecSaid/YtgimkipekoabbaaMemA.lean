/-
  Plain lemmas on memory for the walks of this seat: a slice that can be read ('Rd'), an own row, append from any source. No condition.
-/
import Derived.WalkKit
import Derived.WalkSpells
import Derived.WalkLawsBesides
import Derived.Lib.Hide
namespace Go.Proofs.Ytgimkipekoabbaa
open Go.RowKit

/-- The slice value '.slice a n cap' can be read in w: its n elements (of 'size' cells each) are the cells xs. -/
structure Rd (w : World) (a : Option Addr) (n cap size : Nat) (xs : List Value) : Prop where
  hlen : xs.length = n * size
  hcap : n ≤ cap
  hmax : cap ≤ maxLen
  hnil : a = none → xs = []
  hcell : ∀ ad, a = some ad → ∀ j u, xs[j]? = some u → w.cell? (ad.add j) = some u

theorem Rd.lenMax {w : World} {a : Option Addr} {n cap size : Nat} {xs : List Value} (h : Rd w a n cap size xs) : n ≤ 9223372036854775807 := by
  have h1 := h.hcap; have h2 := h.hmax; unfold maxLen at h2; omega

theorem Rd.nilSlice (w : World) (size : Nat) : Rd w none 0 0 size [] :=
  ⟨by simp, Nat.le_refl _, Nat.zero_le _, fun _ => rfl, fun _ h => by cases h⟩

theorem cell_block_lt {w : World} {p : Addr} {u : Value} (h : w.cell? p = some u) : p.block < w.heap.size := by
  unfold World.cell? at h
  split at h
  · rename_i c e f hb
    exact (Array.getElem?_eq_some_iff.1 hb).1
  · cases h

theorem add_block (ad : Addr) (j : Nat) : (ad.add j).block = ad.block := by unfold Addr.add; split <;> rfl

/-- What could be read can be read in every world that keeps the old blocks. -/
theorem Rd.below {w w' : World} {a : Option Addr} {n cap size : Nat} {xs : List Value} (h : Rd w a n cap size xs) {B : Nat} (hb : Below B w w') (hB : w.heap.size ≤ B) : Rd w' a n cap size xs :=
  ⟨h.hlen, h.hcap, h.hmax, h.hnil, fun ad ha j u hu => by
    have hc := h.hcell ad ha j u hu
    have hl := cell_block_lt hc
    rw [hb.cell (by omega)]; exact hc⟩

/-- The same, where the slice lies below B as a whole. -/
theorem Rd.belowAt {w w' : World} {a : Option Addr} {n cap size : Nat} {xs : List Value} (h : Rd w a n cap size xs) {B : Nat} (hb : Below B w w') (hB : ∀ ad, a = some ad → ad.block < B) : Rd w' a n cap size xs :=
  ⟨h.hlen, h.hcap, h.hmax, h.hnil, fun ad ha j u hu => by
    have hc := h.hcell ad ha j u hu
    rw [hb.cell (by rw [add_block]; exact hB ad ha)]; exact hc⟩

theorem spot_none {w : World} {p : Addr} {u : Value} (h : w.cell? p = some u) : p.spot = none := by
  unfold World.cell? at h
  split at h
  · split at h
    · cases h
    · rename_i hs; simpa using hs
  · cases h

/-- Where there is an element there is an address: element k's only cell. -/
theorem Rd.at {w : World} {a : Option Addr} {n cap : Nat} {xs : List Value} (h : Rd w a n cap 1 xs) (k : Nat) (hk : k < n) :
    ∃ b off, a = some ⟨b, off, none⟩ ∧ ∀ (j : Nat) (hj : j < xs.length), w.cell? ⟨b, off + j, none⟩ = some xs[j] := by
  have hl := h.hlen
  cases a with
  | none => have := h.hnil rfl; subst this; simp at hl; omega
  | some ad =>
    have h0 : 0 < xs.length := by omega
    have hc := h.hcell ad rfl 0 xs[0] (List.getElem?_eq_getElem h0)
    have hs : ad.spot = none := by
      have := spot_none hc
      simpa [Addr.add] using this
    obtain ⟨b, off, sp⟩ := ad
    simp only at hs
    subst hs
    refine ⟨b, off, rfl, fun j hj => ?_⟩
    have := h.hcell _ rfl j xs[j] (List.getElem?_eq_getElem hj)
    have he : (⟨b, off, none⟩ : Addr).add j = ⟨b, off + j, none⟩ := by
      unfold Addr.add; split <;> simp_all
    rwa [he] at this

theorem add_add (ad : Addr) (i j : Nat) : (ad.add i).add j = ad.add (i + j) := by
  unfold Addr.add
  split
  · simp_all
  · split
    · simp_all
    · rw [if_neg (by omega)]; simp; omega

/-- The pieces of a slice that can be read can be read. -/
theorem Rd.sub {w : World} {a : Option Addr} {n cap size : Nat} {xs : List Value} (h : Rd w a n cap size xs) (lo hi mx : Nat) (h1 : lo ≤ hi) (h2 : hi ≤ n) (h3 : hi ≤ mx) (h4 : mx ≤ cap) :
    Rd w (if mx = lo then a else a.map (·.add (lo * size))) (hi - lo) (mx - lo) size ((xs.drop (lo * size)).take ((hi - lo) * size)) := by
  have hl := h.hlen
  have hm : hi * size ≤ n * size := Nat.mul_le_mul_right _ h2
  have hs : (hi - lo) * size = hi * size - lo * size := Nat.sub_mul hi lo size
  have hlo : lo * size ≤ hi * size := Nat.mul_le_mul_right _ h1
  have hcm := h.hmax
  refine ⟨by rw [List.length_take, List.length_drop]; omega, by omega, by omega, ?_, ?_⟩
  · intro ha
    split at ha
    · rw [h.hnil ha]; simp
    · cases a with
      | none => rw [h.hnil rfl]; simp
      | some ad => simp at ha
  · intro ad ha j u hu
    by_cases hml : mx = lo
    · have : hi - lo = 0 := by omega
      rw [this] at hu; simp at hu
    · rw [if_neg hml] at ha
      cases a with
      | none => simp at ha
      | some a0 =>
        simp at ha
        subst ha
        rw [add_add]
        refine h.hcell a0 rfl _ u ?_
        rw [List.getElem?_take] at hu
        split at hu
        · rw [List.getElem?_drop] at hu; exact hu
        · cases hu

/-- What is owned can be read. -/
theorem Rd.ofOwn {w : World} {base e size n cap : Nat} {a : Option Addr} {xs : List Value} (h : w.ownsRow base e size (.slice a n cap) n xs) : Rd w a n cap size xs := by
  obtain ⟨hl, hd⟩ := h
  rcases hd with ⟨hv, h0⟩ | ⟨g, c, cur, hv, hb, hh, hnc, hcm, hcs, ht⟩
  · simp only [Value.slice.injEq] at hv
    obtain ⟨rfl, rfl, rfl⟩ := hv
    refine ⟨hl, Nat.le_refl _, Nat.zero_le _, fun _ => List.eq_nil_of_length_eq_zero (by simpa using hl), fun _ h => (by cases h)⟩
  · simp only [Value.slice.injEq] at hv
    obtain ⟨rfl, _, rfl⟩ := hv
    refine ⟨hl, hnc, hcm, fun h => (by cases h), fun ad ha j u hu => ?_⟩
    simp only [Option.some.injEq] at ha
    subst ha
    have hadd : (⟨g, 0, none⟩ : Addr).add j = ⟨g, j, none⟩ := by unfold Addr.add; split <;> simp_all
    rw [hadd, cell_of_row w g j cur e (0, 0) hh]
    rw [← ht, List.getElem?_take] at hu
    split at hu
    · simpa using hu
    · cases hu

/-- An owned row's value is a slice. -/
theorem own_shape {w : World} {base e size n : Nat} {v : Value} {xs : List Value} (h : w.ownsRow base e size v n xs) : ∃ a cap, v = .slice a n cap := by
  obtain ⟨hl, hd⟩ := h
  rcases hd with ⟨hv, h0⟩ | ⟨g, c, cur, hv, _⟩
  · subst h0; exact ⟨none, 0, hv⟩
  · exact ⟨_, c, hv⟩

/-- What is owned stays owned where the old blocks are kept. -/
theorem own_below {w w' : World} {base e size n : Nat} {v : Value} {xs : List Value} (h : w.ownsRow base e size v n xs) {B : Nat} (hb : Below B w w') (hB : w.heap.size ≤ B) : w'.ownsRow base e size v n xs := by
  obtain ⟨hl, hd⟩ := h
  refine ⟨hl, ?_⟩
  rcases hd with hn | ⟨g, c, cur, hv, hbg, hh, rest⟩
  · exact .inl hn
  · refine .inr ⟨g, c, cur, hv, hbg, ?_, rest⟩
    have := (Array.getElem?_eq_some_iff.1 hh).1
    rw [hb.block g (by omega)]; exact hh

theorem own_base {w : World} {base base' e size n : Nat} {v : Value} {xs : List Value} (h : w.ownsRow base e size v n xs) (hb : base' ≤ base) : w.ownsRow base' e size v n xs := by
  obtain ⟨hl, hd⟩ := h
  refine ⟨hl, ?_⟩
  rcases hd with hn | ⟨g, c, cur, hv, hbg, rest⟩
  · exact .inl hn
  · exact .inr ⟨g, c, cur, hv, by omega, rest⟩

/-- Behind an append (or a make) onto an own row: old memory below B is kept. -/
theorem below_grown {B : Nat} {w w1 w2 : World} {a : Option Addr} {n cap base e size : Nat} {xs : List Value} (hb : Below B w w1) (hg : w1.grownBy w2 (Value.slice a n cap).ownBlock)
    (hown : w1.ownsRow base e size (.slice a n cap) n xs) (hB : B ≤ base) (hBs : B ≤ w1.heap.size) : Below B w w2 :=
  hb.grown hg hBs (fun k hk => by
    have := (hown.lt k hk).1
    omega)

/-- What is appended: its length and its cells, in every draw of the world w. -/
structure Src (P : Program) (w : World) (x : Value) (m size : Nat) (news : List Value) : Prop where
  len : news.length = m * size
  lenOf : (Builtin.lenOf x).run P w = .ok m w
  cells : (Builtin.firstCells size m x).run P w = .ok news.toArray w
  cellsDrew : (Builtin.firstCells size m x).run P w.drew = .ok news.toArray w.drew
  one : ∀ u ∈ news, u.oneCell' = true

theorem Src.ofRd {P : Program} {w : World} {a : Option Addr} {n cap size : Nat} {xs : List Value} (h : Rd w a n cap size xs) (h1 : ∀ u ∈ xs, u.oneCell' = true) : Src P w (.slice a n cap) n size xs := by
  refine ⟨h.hlen, by simp [Builtin.lenOf], ?_, ?_, h1⟩
  · cases a with
    | none => rw [run_firstCells_none, h.hnil rfl]
    | some ad => exact run_firstCells_some w size n ad n cap xs h.hlen (h.hcell ad rfl)
  · cases a with
    | none => rw [run_firstCells_none, h.hnil rfl]
    | some ad => exact run_firstCells_some w.drew size n ad n cap xs h.hlen (by simpa using h.hcell ad rfl)

/-- The bytes of a string as cells. -/
def byteVals (l : List UInt8) : List Value := l.map fun b => Value.int .u8 b.toNat

theorem byteVals_length (l : List UInt8) : (byteVals l).length = l.length := by simp [byteVals]
theorem byteVals_one (l : List UInt8) : ∀ u ∈ byteVals l, u.oneCell' = true := by
  intro u hu
  obtain ⟨_, _, rfl⟩ := List.mem_map.1 hu
  rfl
theorem byteVals_append (l m : List UInt8) : byteVals (l ++ m) = byteVals l ++ byteVals m := by simp [byteVals]

theorem Src.ofString {P : Program} (w : World) (s : ByteArray) : Src P w (.string s) s.size 1 (byteVals s.data.toList) := by
  have hx : ((s.extract 0 s.size).data.map fun b => Value.int .u8 b.toNat) = (byteVals s.data.toList).toArray := by
    have : (s.extract 0 s.size) = s := ByteArray.extract_zero_size
    rw [this]
    apply Array.ext'
    rw [Array.toList_map, byteVals]
  refine ⟨?_, by simp [Builtin.lenOf], ?_, ?_, byteVals_one _⟩
  · rw [byteVals_length]; simp
  · simp only [Builtin.firstCells, hx, Sem.run_pure]
  · simp only [Builtin.firstCells, hx, Sem.run_pure]

section
variable {P : Program} (w : World)

/-- append onto an own row, from any source that is no number. -/
theorem run_append_src (base : Nat) (t tx ty e : TypeId) (i : TypeInfo) (z : Value) (size bytes : Nat) (ht : P.underlying t = some (.slice e)) (htx : P.underlying tx = some (.slice e) ∨ P.underlying tx = some .string)
    (hi : P.info? e = some i) (hz : i.zero = some z)
    (hsize : i.size = size) (hby : i.bytes = bytes) (hzs : z.cells.size = size)
    (a : Option Addr) (n cap : Nat) (xs : List Value) (hown : w.ownsRow base e size (.slice a n cap) n xs)
    (x : Value) (m : Nat) (news : List Value) (hsrc : Src P w x m size news)
    (h63 : n + m ≤ maxLen) (hbytes : (n + m) * bytes ≤ 140737488355328) (hbase : base ≤ w.heap.size) :
    ∃ a' cap' w', (Builtin.append_ #[t, tx] ty #[.slice a n cap, x]).run P w = .ok (.slice a' (n + m) cap') w' ∧ w'.ownsRow base e size (.slice a' (n + m) cap') (n + m) (xs ++ news) ∧ w.grownBy w' (Value.slice a n cap).ownBlock ∧
      (∀ ad, a' = some ad → (a = some ad ∨ w.heap.size ≤ ad.block)) := by
  subst hsize
  subst hby
  have hsmall : n + m ≤ 9223372036854775807 := by simp only [maxLen] at h63; omega
  have hl := hsrc.len
  have hlen : (xs ++ news).length = (n + m) * i.size := by rw [List.length_append, hown.1, hl, Nat.add_mul]
  have grown : ∀ (old : Nat), old < n + m → ∀ (row : Option Nat),
      (w.drew.alloc (.cells (xs.toArray ++ news.toArray ++ Builtin.zeroCells z.cells (grownCap w (n + m) old e - (n + m))) e)).ownsRow base e i.size
        (.slice (some ⟨w.heap.size, 0, none⟩) (n + m) (grownCap w (n + m) old e)) (n + m) (xs ++ news) ∧
      w.grownBy (w.drew.alloc (.cells (xs.toArray ++ news.toArray ++ Builtin.zeroCells z.cells (grownCap w (n + m) old e - (n + m))) e)) row := by
    intro old ho row
    have hge := grownCap_ge w (n + m) old e
    have hcm : grownCap w (n + m) old e ≤ maxLen := grownCap_le_maxLen w (n + m) old e h63
    refine ⟨⟨hlen, .inr ⟨w.heap.size, _, _, rfl, hbase, heap_alloc_new w.drew _, hge, hcm, ?_, ?_⟩⟩, ⟨rfl, rfl, rfl, by simp, fun k hk _ => Below.heap_alloc w.drew _ k hk⟩⟩
    · simp only [Array.size_append, List.size_toArray, size_zeroCells, hzs, hown.1, hl, ← Nat.add_mul]
      congr 1
      omega
    · simp only [Array.toList_append, List.append_assoc]
      rw [← List.append_assoc, ← hlen]
      exact List.take_left
  have hfo : (Builtin.firstCells i.size n (.slice a n cap)).run P w.drew = .ok xs.toArray w.drew := by
    have hrd := Rd.ofOwn hown
    cases a with
    | none => rw [run_firstCells_none, hrd.hnil rfl]
    | some ad => exact run_firstCells_some w.drew i.size n ad n cap xs hrd.hlen (by simpa using hrd.hcell ad rfl)
  have hlo := hsrc.lenOf
  have hce := hsrc.cells
  have hcd := hsrc.cellsDrew
  by_cases hroom : n + m ≤ cap
  · rcases hown.2 with ⟨hv, h0⟩ | ⟨g, cap1, cur, hv, hbg, hg, hnc, hcm, hcs, htake⟩
    · simp only [Value.slice.injEq] at hv
      obtain ⟨rfl, rfl, rfl⟩ := hv
      have hm0 : m = 0 := by omega
      subst hm0
      have hn : news = [] := List.eq_nil_of_length_eq_zero (by simpa using hl)
      subst hn
      refine ⟨none, 0, w, ?_, ?_, ⟨rfl, rfl, rfl, Nat.le_refl _, fun _ _ _ => rfl⟩, fun _ h => by cases h⟩
      · rcases htx with htx | htx <;> simp [Builtin.append_, run_underlying ht, run_underlying htx, sizeOf, typeInfo, hi, hlo, hce]
      · have hx : xs = [] := List.eq_nil_of_length_eq_zero (by simpa using hown.1)
        subst hx
        exact World.ownsRow_nil w base e i.size
    · simp only [Value.slice.injEq] at hv
      obtain ⟨rfl, _, rfl⟩ := hv
      have hfit : n * i.size + news.length ≤ cur.size := by rw [hl, hcs, ← Nat.add_mul]; exact Nat.mul_le_mul_right _ hroom
      have hst := run_storeCells_at P g (n * i.size) e news 0 cur w hg (by simpa using hfit) hsrc.one
      simp only [Nat.add_zero] at hst
      refine ⟨some ⟨g, 0, none⟩, cap, _, ?_, ⟨hlen, .inr ⟨g, cap, _, rfl, hbg, setRow_heap w g cur (cur.toList.take (n * i.size) ++ news ++ cur.toList.drop (n * i.size + news.length)).toArray e _ hg, hroom, hcm, ?_, ?_⟩⟩, ⟨rfl, rfl, rfl, by simp, fun k _ hk => setRow_other w g k _ (fun e => hk (by simp [Value.ownBlock, e]))⟩, fun ad h => .inl h⟩
      · rcases htx with htx | htx <;> simp [Builtin.append_, run_underlying ht, run_underlying htx, sizeOf, typeInfo, hi, hlo, hroom, hce, Addr.add_lit, hst]
      · simp only [List.size_toArray, List.length_append, List.length_take, List.length_drop, Array.length_toList]
        omega
      · rw [htake, ← hlen]
        exact List.take_left
  · have h48 : ¬ (281474976710656 < Builtin.nextslicecap (n + m) cap * i.bytes) := by
      have := growslice_fits (need := n + m) (old := cap) (bytes := i.bytes) (by omega) hbytes; omega
    have h63' : ¬ (9223372036854775807 < ((n : Int) + (m : Int))) := by omega
    have hgr := grown cap (by omega) (Value.slice a n cap).ownBlock
    refine ⟨some ⟨w.heap.size, 0, none⟩, _, _, ?_, hgr.1, hgr.2, fun ad h => .inr (by simp only [Option.some.injEq] at h; subst h; exact Nat.le_refl _)⟩
    rcases htx with htx | htx <;>
      (simp [Builtin.append_, run_underlying ht, run_underlying htx, sizeOf, typeInfo, zeroValue, hi, hz, hlo, hroom, h63', h48, Question.forced, hfo, hcd, newRow, grownCap]
       congr 2; apply Array.ext'; simp [List.append_assoc])
end
end Go.Proofs.Ytgimkipekoabbaa
