/-
  What a call on own blocks keeps: every old block outside a list. No condition.
-/
import Derived.Test.YtgimkipekoabbaaExt
import Derived.Maps.OwnSet
namespace Go.Proofs.Ytgimkipekoabbaa
open Go.RowKit

/-- w' is as w was, but for the blocks of F and new ones. -/
structure But (F : List Nat) (w w' : World) : Prop where
  os : w'.os = w.os
  tape : w'.tape = w.tape
  output : w'.output = w.output
  size : w.heap.size ≤ w'.heap.size
  block : ∀ k, k < w.heap.size → k ∉ F → w'.heap[k]? = w.heap[k]?

theorem But.refl (F : List Nat) (w : World) : But F w w := ⟨rfl, rfl, rfl, Nat.le_refl _, fun _ _ _ => rfl⟩
theorem But.trans {F F' : List Nat} {a b c : World} (h : But F a b) (k : But F' b c) (hF : ∀ x ∈ F', x ∈ F ∨ a.heap.size ≤ x) : But F a c :=
  ⟨k.os.trans h.os, k.tape.trans h.tape, k.output.trans h.output, Nat.le_trans h.size k.size, fun i hi hn => by
    have hs := h.size
    rw [k.block i (by omega) (fun hm => by rcases hF i hm with h1 | h1; exact hn h1; omega), h.block i hi hn]⟩
theorem But.below {F : List Nat} {a b c : World} (h : But F a b) (k : Below b.heap.size b c) : But F a c :=
  ⟨k.os.trans h.os, k.tape.trans h.tape, k.output.trans h.output, Nat.le_trans h.size k.size, fun i hi hn => by
    have hs := h.size
    rw [k.block i (by omega), h.block i hi hn]⟩
theorem But.ofBelow {F : List Nat} {a b : World} (k : Below a.heap.size a b) : But F a b := (But.refl F a).below k
theorem But.alloc {F : List Nat} {a b : World} (h : But F a b) (o : Obj) : But F a (b.alloc o) := h.below ((Below.refl _ _).alloc (Nat.le_refl _) o)
theorem But.drew {F : List Nat} {a b : World} (h : But F a b) : But F a b.drew := ⟨h.os, h.tape, h.output, h.size, h.block⟩
theorem But.drewN {F : List Nat} {a b : World} (h : But F a b) (n : Nat) : But F a (b.drewN n) := ⟨h.os, h.tape, h.output, h.size, h.block⟩
theorem But.mono {F F' : List Nat} {a b : World} (h : But F a b) (hF : ∀ x ∈ F, x ∈ F' ∨ a.heap.size ≤ x) : But F' a b :=
  ⟨h.os, h.tape, h.output, h.size, fun i hi hn => h.block i hi (fun hm => by rcases hF i hm with h1 | h1; exact hn h1; omega)⟩
theorem But.setCell {F : List Nat} {a b : World} (h : But F a b) {p : Addr} (hp : p.block ∈ F ∨ a.heap.size ≤ p.block) (u : Value) : But F a (b.setCell p u) :=
  ⟨h.os, h.tape, h.output, by show a.heap.size ≤ (b.heap.modify p.block _).size; rw [Array.size_modify]; exact h.size, fun i hi hn => by
    have : i ≠ p.block := by rintro rfl; rcases hp with h1 | h1; exact hn h1; omega
    rw [Below.heap_setCell _ _ _ _ this, h.block i hi hn]⟩
theorem But.setRow {F : List Nat} {a b : World} (h : But F a b) {g : Nat} (hp : g ∈ F ∨ a.heap.size ≤ g) (ds : Array Value) : But F a (b.setRow g ds) :=
  ⟨h.os, h.tape, h.output, by simpa using h.size, fun i hi hn => by
    have : i ≠ g := by rintro rfl; rcases hp with h1 | h1; exact hn h1; omega
    rw [setRow_other b g i _ this, h.block i hi hn]⟩
theorem But.grown {F : List Nat} {a b c : World} {row : Option Nat} (h : But F a b) (hg : b.grownBy c row) (hr : ∀ k, row = some k → k ∈ F ∨ a.heap.size ≤ k) : But F a c :=
  ⟨hg.os.trans h.os, hg.tape.trans h.tape, hg.output.trans h.output, Nat.le_trans h.size hg.size, fun i hi hn => by
    have hs := h.size
    rw [hg.block i (by omega) (fun e => by rcases hr i e.symm with h1 | h1; exact hn h1; omega), h.block i hi hn]⟩
theorem But.turned {F : List Nat} {a b c : World} {m : Nat} (h : But F a b) (hg : b.mapTurned c m) (hm : m ∈ F ∨ a.heap.size ≤ m) : But F a c :=
  h.grown hg.grown (fun k hk => by cases hk; exact hm)
theorem But.toBelow {F : List Nat} {a b : World} (h : But F a b) {B : Nat} (hB : B ≤ a.heap.size) (hF : ∀ x ∈ F, B ≤ x) : Below B a b :=
  ⟨h.os, h.tape, h.output, h.size, fun i hi => h.block i (by omega) (fun hm => by have := hF i hm; omega)⟩

theorem cell_eq {w w' : World} {p : Addr} (h : w'.heap[p.block]? = w.heap[p.block]?) : w'.cell? p = w.cell? p := World.cell?_of_block (w := w) h
theorem Blk.eq {w w' : World} {g : Nat} {ty : TypeId} {cs : List Value} (h : Blk w g ty cs) (he : w'.heap[g]? = w.heap[g]?) : Blk w' g ty cs := by
  unfold Blk at h ⊢; rw [he]; exact h
theorem Blk.but {F : List Nat} {w w' : World} {g : Nat} {ty : TypeId} {cs : List Value} (h : Blk w g ty cs) (hb : But F w w') (hg : g ∉ F) : Blk w' g ty cs := h.eq (hb.block g h.lt hg)
theorem Rd.eq {w w' : World} {a : Option Addr} {n cap size : Nat} {xs : List Value} (h : Rd w a n cap size xs) (he : ∀ ad, a = some ad → w'.heap[ad.block]? = w.heap[ad.block]?) : Rd w' a n cap size xs :=
  ⟨h.hlen, h.hcap, h.hmax, h.hnil, fun ad ha j u hu => by
    have hc := h.hcell ad ha j u hu
    rw [cell_eq (w := w) (by rw [add_block]; exact he ad ha)]; exact hc⟩
theorem own_eq {w w' : World} {base e size n : Nat} {v : Value} {xs : List Value} (h : w.ownsRow base e size v n xs) (he : ∀ k, v.ownBlock = some k → w'.heap[k]? = w.heap[k]?) : w'.ownsRow base e size v n xs := by
  obtain ⟨hl, hd⟩ := h
  refine ⟨hl, ?_⟩
  rcases hd with hn | ⟨g, c, cur, hv, hbg, hh, rest⟩
  · exact .inl hn
  · refine .inr ⟨g, c, cur, hv, hbg, ?_, rest⟩
    rw [he g (by rw [hv]; rfl)]; exact hh
end Go.Proofs.Ytgimkipekoabbaa
