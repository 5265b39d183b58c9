/-
  Lists of records as cells; tables in memory. No condition.
-/
import Derived.Test.YtgimkipekoabbaaWHolds
namespace Go.Proofs.Ytgimkipekoabbaa
open Go.RowKit

/-- The cells of a list of records. -/
def recC {α : Type} (enc : α → List Value) (l : List α) : List Value := (l.map enc).flatten

section
variable {α : Type} {enc : α → List Value} {k : Nat}
theorem recC_nil : recC enc [] = [] := rfl
theorem recC_cons (x : α) (l : List α) : recC enc (x :: l) = enc x ++ recC enc l := by simp [recC]
theorem recC_append (l m : List α) : recC enc (l ++ m) = recC enc l ++ recC enc m := by simp [recC]
theorem recC_length (hk : ∀ x, (enc x).length = k) (l : List α) : (recC enc l).length = l.length * k := by
  induction l with
  | nil => simp [recC]
  | cons x l ih => rw [recC_cons, List.length_append, ih, hk, List.length_cons, Nat.succ_mul, Nat.add_comm]
theorem recC_one (h1 : ∀ x, ∀ u ∈ enc x, u.oneCell' = true) (l : List α) : ∀ u ∈ recC enc l, u.oneCell' = true := by
  intro u hu
  obtain ⟨m, hm, hu⟩ := List.mem_flatten.1 hu
  obtain ⟨x, _, rfl⟩ := List.mem_map.1 hm
  exact h1 x u hu
theorem recC_at [Inhabited α] (hk : ∀ x, (enc x).length = k) (l : List α) (i : Nat) (hi : i < l.length) (j : Nat) (hj : j < k) : (recC enc l)[i * k + j]? = (enc (l.getD i default))[j]? := by
  induction l generalizing i with
  | nil => simp at hi
  | cons x l ih =>
    rw [recC_cons]
    cases i with
    | zero => rw [Nat.zero_mul, Nat.zero_add, List.getElem?_append_left (by rw [hk]; exact hj)]; simp
    | succ i =>
      have := ih i (by simpa using hi)
      rw [List.getElem?_append_right (by rw [hk, Nat.succ_mul]; omega), hk, show (i + 1) * k + j - k = i * k + j from by rw [Nat.succ_mul]; omega, this]
      simp
theorem recC_take (hk : ∀ x, (enc x).length = k) (l : List α) (i : Nat) : (recC enc l).take (i * k) = recC enc (l.take i) := by
  induction l generalizing i with
  | nil => simp [recC]
  | cons x l ih =>
    cases i with
    | zero => simp [recC]
    | succ i =>
      rw [recC_cons, List.take_succ_cons, recC_cons, List.take_append, hk, List.take_of_length_le (by rw [hk, Nat.succ_mul]; omega), show (i + 1) * k - k = i * k from by rw [Nat.succ_mul]; omega, ih]
theorem recC_drop (hk : ∀ x, (enc x).length = k) (l : List α) (i : Nat) : (recC enc l).drop (i * k) = recC enc (l.drop i) := by
  induction l generalizing i with
  | nil => simp [recC]
  | cons x l ih =>
    cases i with
    | zero => simp [recC]
    | succ i =>
      rw [recC_cons, List.drop_succ_cons, List.drop_append, hk, List.drop_of_length_le (by rw [hk, Nat.succ_mul]; omega), List.nil_append, show (i + 1) * k - k = i * k from by rw [Nat.succ_mul]; omega, ih]

theorem Rd.rlen {w : World} {a : Option Addr} {n cap : Nat} {l : List α} (h : Rd w a n cap k (recC enc l)) (hk : ∀ x, (enc x).length = k) (hk0 : 0 < k) : l.length = n := by
  have := h.hlen; rw [recC_length hk] at this; exact Nat.eq_of_mul_eq_mul_right hk0 this
/-- Record i of a slice that can be read. -/
theorem Rd.recAt [Inhabited α] {w : World} {a : Option Addr} {n cap : Nat} {l : List α} (h : Rd w a n cap k (recC enc l)) (hk : ∀ x, (enc x).length = k) (hk0 : 0 < k) (i : Nat) (hi : i < n) :
    ∃ g off, a = some ⟨g, off, none⟩ ∧ g < w.heap.size ∧ ∀ j u, (enc (l.getD i default))[j]? = some u → w.cell? ⟨g, off + i * k + j, none⟩ = some u := by
  have hl := h.rlen hk hk0
  have hat : ∀ j u, (enc (l.getD i default))[j]? = some u → (recC enc l)[i * k + j]? = some u := fun j u hu => by
    have hj := (List.getElem?_eq_some_iff.1 hu).1
    rw [hk] at hj
    rw [recC_at hk l i (by omega) j hj, hu]
  have h0 : ∃ u, (recC enc l)[i * k + 0]? = some u := by
    rw [recC_at hk l i (by omega) 0 hk0]
    exact ⟨_, List.getElem?_eq_getElem (by rw [hk]; exact hk0)⟩
  obtain ⟨u0, hu0⟩ := h0
  cases a with
  | none => have := h.hnil rfl; rw [this] at hu0; simp at hu0
  | some ad =>
    have c0 := h.hcell ad rfl _ _ hu0
    have hlt := cell_block_lt c0
    rw [add_block] at hlt
    have hs : ad.spot = none := by
      have h1 := spot_none c0
      have h2 := (List.getElem?_eq_some_iff.1 hu0).1
      obtain ⟨b, off, sp⟩ := ad
      cases sp with
      | none => rfl
      | some s =>
        exfalso
        have h3 : ∃ v, (recC enc l)[0]? = some v := ⟨_, List.getElem?_eq_getElem (by omega)⟩
        obtain ⟨v, hv⟩ := h3
        have h4 := spot_none (h.hcell _ rfl 0 v hv)
        simp [Addr.add] at h4
    obtain ⟨b, off, sp⟩ := ad
    simp only at hs hlt
    subst hs
    have ha : ∀ j, (⟨b, off, none⟩ : Addr).add j = ⟨b, off + j, none⟩ := fun j => by unfold Addr.add; split <;> simp_all
    refine ⟨b, off, rfl, hlt, fun j u hu => ?_⟩
    have := h.hcell _ rfl _ _ (hat j u hu)
    rwa [ha, ← Nat.add_assoc] at this
end

/-- 's[:u]' of records. -/
theorem Rd.preK {α : Type} {enc : α → List Value} {k : Nat} {w : World} {a : Option Addr} {n cap : Nat} {l : List α} (h : Rd w a n cap k (recC enc l)) (hk : ∀ x, (enc x).length = k) (u : Nat) (hu : u ≤ n) : Rd w a u cap k (recC enc (l.take u)) := by
  rw [← recC_take hk]
  have hm : u * k ≤ n * k := Nat.mul_le_mul_right _ hu
  exact ⟨by rw [List.length_take]; have := h.hlen; omega, Nat.le_trans hu h.hcap, h.hmax, fun ha => by rw [h.hnil ha]; simp, fun ad ha j v hv => by
    rw [List.getElem?_take] at hv
    split at hv
    · exact h.hcell ad ha j v hv
    · cases hv⟩

def Col.enc (c : Col) : List Value := [.string ⟨c.name.toArray⟩, .int .i64 c.kind, .bool c.null]
theorem Col.enc_len (c : Col) : c.enc.length = 3 := rfl
theorem Col.enc_one (c : Col) : ∀ u ∈ c.enc, u.oneCell' = true := by intro u hu; simp [Col.enc] at hu; rcases hu with rfl | rfl | rfl <;> rfl
def Val.enc (x : Val) : List Value := [.int .i64 x.kind, .int .i64 x.n, .string ⟨x.s.toArray⟩]
theorem Val.enc_len (x : Val) : x.enc.length = 3 := rfl
theorem Val.enc_one (c : Val) : ∀ u ∈ c.enc, u.oneCell' = true := by intro u hu; simp [Val.enc] at hu; rcases hu with rfl | rfl | rfl <;> rfl
def Chk.enc (x : Chk) : List Value := [.int .i64 x.col, .int .i64 x.op, .int .i64 x.val.kind, .int .i64 x.val.n, .string ⟨x.val.s.toArray⟩]
theorem Chk.enc_len (x : Chk) : x.enc.length = 5 := rfl
theorem Chk.enc_one (c : Chk) : ∀ u ∈ c.enc, u.oneCell' = true := by intro u hu; simp [Chk.enc] at hu; rcases hu with rfl | rfl | rfl | rfl | rfl <;> rfl
/-- An index in memory: what it is and where its numbers lie. -/
structure IxP where
  x : Ix
  a : Option Addr
  cap : Nat
deriving Inhabited
def IxP.enc (p : IxP) : List Value := [.string ⟨p.x.name.toArray⟩, .slice p.a p.x.cols.length p.cap, .bool p.x.uniq]
theorem IxP.enc_len (x : IxP) : x.enc.length = 3 := rfl
theorem IxP.enc_one (c : IxP) : ∀ u ∈ c.enc, u.oneCell' = true := by intro u hu; simp [IxP.enc] at hu; rcases hu with rfl | rfl | rfl <;> rfl
def Col.v (c : Col) : Value := .agg #[.string ⟨c.name.toArray⟩, .int .i64 c.kind, .bool c.null]
def IxP.v (p : IxP) : Value := .agg #[.string ⟨p.x.name.toArray⟩, .slice p.a p.x.cols.length p.cap, .bool p.x.uniq]

/-- A table in memory. -/
structure TabP where
  name : List UInt8
  ca : Option Addr
  cc : Nat
  cols : List Col
  ia : Option Addr
  ic : Nat
  ixs : List IxP
  ha : Option Addr
  hc : Nat
  chks : List Chk
deriving Inhabited
def TabP.t (X : TabP) : Tab := ⟨X.name, X.cols, X.ixs.map (·.x), X.chks⟩
def TabP.cs (X : TabP) : List Value := [.string ⟨X.name.toArray⟩, .slice X.ca X.cols.length X.cc, .slice X.ia X.ixs.length X.ic, .slice X.ha X.chks.length X.hc]
def TabP.v (X : TabP) : Value := .agg #[.string ⟨X.name.toArray⟩, .slice X.ca X.cols.length X.cc, .slice X.ia X.ixs.length X.ic, .slice X.ha X.chks.length X.hc]
structure TabRd (w : World) (X : TabP) : Prop where
  cols : Rd w X.ca X.cols.length X.cc 3 (recC Col.enc X.cols)
  ixs : Rd w X.ia X.ixs.length X.ic 3 (recC IxP.enc X.ixs)
  nums : ∀ p ∈ X.ixs, Rd w p.a p.x.cols.length p.cap 1 (intVals p.x.cols)
  chks : Rd w X.ha X.chks.length X.hc 5 (recC Chk.enc X.chks)
theorem TabRd.below {w w' : World} {X : TabP} (h : TabRd w X) (hb : Below w.heap.size w w') : TabRd w' X :=
  ⟨h.cols.call0 hb, h.ixs.call0 hb, fun p hp => (h.nums p hp).call0 hb, h.chks.call0 hb⟩
theorem TabRd.alloc {w : World} {X : TabP} (h : TabRd w X) (o : Obj) : TabRd (w.alloc o) X := h.below ((Below.refl _ _).alloc (Nat.le_refl _) o)
theorem TabRd.drewN {w : World} {X : TabP} (h : TabRd w X) (n : Nat) : TabRd (w.drewN n) X := h.below (below_drewN (Below.refl _ _) n)

/-- A table that lies in block g too, behind a start. -/
structure TabIn (w0 w : World) (g : Nat) (X : TabP) : Prop where
  blk : Blk w g 28 X.cs
  rd : TabRd w X
  below : Below w0.heap.size w0 w
theorem TabIn.step {w0 w w' : World} {g : Nat} {X : TabP} (h : TabIn w0 w g X) (hb : Below w.heap.size w w') : TabIn w0 w' g X :=
  ⟨h.blk.call0 hb, h.rd.below hb, h.below.trans (hb.mono h.below.size)⟩
theorem TabIn.alloc {w0 w : World} {g : Nat} {X : TabP} (h : TabIn w0 w g X) (o : Obj) : TabIn w0 (w.alloc o) g X := h.step ((Below.refl _ _).alloc (Nat.le_refl _) o)
theorem TabIn.drewN {w0 w : World} {g : Nat} {X : TabP} (h : TabIn w0 w g X) (n : Nat) : TabIn w0 (w.drewN n) g X := h.step (below_drewN (Below.refl _ _) n)
theorem TabIn.start {w : World} {X : TabP} (h : TabRd w X) : TabIn w (w.alloc (.cells X.cs.toArray 28)) w.heap.size X :=
  ⟨Blk.new rfl rfl, h.alloc _, (Below.refl _ _).alloc (Nat.le_refl _) _⟩
theorem TabIn.c1 {w0 w : World} {g : Nat} {X : TabP} (h : TabIn w0 w g X) : w.cell? ⟨g, 1, none⟩ = some (.slice X.ca X.cols.length X.cc) := h.blk.cellOf rfl
theorem TabIn.c2 {w0 w : World} {g : Nat} {X : TabP} (h : TabIn w0 w g X) : w.cell? ⟨g, 2, none⟩ = some (.slice X.ia X.ixs.length X.ic) := h.blk.cellOf rfl
theorem TabIn.c3 {w0 w : World} {g : Nat} {X : TabP} (h : TabIn w0 w g X) : w.cell? ⟨g, 3, none⟩ = some (.slice X.ha X.chks.length X.hc) := h.blk.cellOf rfl
theorem TabIn.c0 {w0 w : World} {g : Nat} {X : TabP} (h : TabIn w0 w g X) : w.cell? ⟨g, 0, none⟩ = some (.string ⟨X.name.toArray⟩) := h.blk.cellOf rfl

theorem getD_map_x (l : List IxP) (i : Nat) : (l.map (·.x)).getD i default = (l.getD i default).x := by
  rw [List.getD_eq_getElem?_getD, List.getD_eq_getElem?_getD, List.getElem?_map]
  cases l[i]? <;> rfl
theorem getD_mem {α : Type} [Inhabited α] {l : List α} {i : Nat} (h : i < l.length) : l.getD i default ∈ l := by
  rw [List.getD_eq_getElem?_getD, List.getElem?_eq_getElem h]; exact List.getElem_mem h
end Go.Proofs.Ytgimkipekoabbaa
