/-
  The contracts of chapter 1 with their results named. No condition.
-/
import Derived.Test.YtppmlhjpdmndoaaWFew
import Derived.Test.YtppmlhjpdmndoaaWGet2
import Derived.Test.YtppmlhjpdmndoaaWGet3
import Derived.Test.YtppmlhjpdmndoaaWGetD2
namespace Go.Proofs.Ytppmlhjpdmndoaa
open Go.RowKit

/-- A block just laid, read as a slice; its number and its cells spelled otherwise. -/
theorem rd_newAt {w : World} {arr : Array Value} {cs : List Value} {e : TypeId} {n g size : Nat} (hg : g = w.heap.size) (ha : arr = cs.toArray) (hn : cs.length = n * size) (hm : n ≤ maxLen) : Rd (w.alloc (.cells arr e)) (some ⟨g, 0, none⟩) n n size cs := by
  subst hg; subst ha
  exact ⟨hn, Nat.le_refl _, hm, fun h => (by cases h), fun ad ha j u hu => by
    simp only [Option.some.injEq] at ha; subst ha
    exact block_cells (heap_alloc_new w _) 0 cs (fun j hj => by simp) j u hu⟩

/-- A call behind a new block. -/
theorem _root_.Go.RowKit.Below.call {B : Nat} {w w1 w2 : World} {o : Obj} (h : Below B w w1) (hB : B ≤ w.heap.size) (hb : Below (w1.alloc o).heap.size (w1.alloc o) w2) : Below B w w2 :=
  (h.alloc (Nat.le_trans hB h.size) o).trans (hb.mono (by have := h.size; simp; omega))
theorem _root_.Go.RowKit.Below.call0 {B : Nat} {w w1 w2 : World} (h : Below B w w1) (hB : B ≤ w.heap.size) (hb : Below w1.heap.size w1 w2) : Below B w w2 :=
  h.trans (hb.mono (Nat.le_trans hB h.size))
theorem Rd.call {w1 w2 : World} {o : Obj} {a : Option Addr} {n cap size : Nat} {xs : List Value} (h : Rd w1 a n cap size xs) (hb : Below (w1.alloc o).heap.size (w1.alloc o) w2) : Rd w2 a n cap size xs :=
  h.below ((Below.refl w1.heap.size w1).call (Nat.le_refl _) hb) (Nat.le_refl _)
theorem Rd.call0 {w1 w2 : World} {a : Option Addr} {n cap size : Nat} {xs : List Value} (h : Rd w1 a n cap size xs) (hb : Below w1.heap.size w1 w2) : Rd w2 a n cap size xs :=
  h.below hb (Nat.le_refl _)
theorem Rd.alloc {w1 : World} {a : Option Addr} {n cap size : Nat} {xs : List Value} (h : Rd w1 a n cap size xs) (o : Obj) : Rd (w1.alloc o) a n cap size xs :=
  h.below ((Below.refl w1.heap.size w1).alloc (Nat.le_refl _) o) (Nat.le_refl _)

/-- What a function returns that makes a byte slice, for the caller. -/
def GotB (l : List UInt8) (w : World) (e : Ending) (w' : World) : Prop := ∃ a cap, e = .returned (.slice a l.length cap) ∧ Rd w' a l.length cap 1 (byteVals l) ∧ Below w.heap.size w w'
theorem RetB.got {l : List UInt8} {w w' : World} {e : Ending} (h : RetB l w e w') : GotB l w e w' := by
  obtain ⟨a, cap, he, ho, hb⟩ := h; exact ⟨a, cap, he, Rd.ofOwn ho, hb⟩
/-- The same for a decoder of a list. -/
def GotL (size n : Nat) (xs : List Value) (u er : Nat) (w : World) (e : Ending) (w' : World) : Prop := ∃ a cap, e = .returned (.tuple #[.slice a n cap, .int .i64 u, .int .i64 er]) ∧ Rd w' a n cap size xs ∧ Below w.heap.size w w'
theorem RetL.got {ty size n : Nat} {xs : List Value} {u er : Nat} {w w' : World} {e : Ending} (h : RetL ty size n xs u er w e w') : GotL size n xs u er w e w' := by
  obtain ⟨a, cap, he, ho, hb⟩ := h; exact ⟨a, cap, he, Rd.ofOwn ho, hb⟩

section
variable {l : List UInt8} {a : Option Addr} {n cap : Nat} {w : World} {u e : Nat}

theorem getInt_b {x : Int} (hx : getI l = (x, u, e)) (hrd : Rd w a n cap 1 (byteVals l)) :
    Calls Try.prog 24 #[.slice a n cap] w fun en w' => en = .returned (.tuple #[.int .i64 x, .int .i64 u, .int .i64 e]) ∧ Below w.heap.size w w' :=
  (getInt_n hx hrd).mono fun _ _ ⟨h1, h2⟩ => ⟨h1, h2 ▸ Below.refl _ _⟩
theorem refGetInt_b {x : Int} (hx : getI l = (x, u, e)) (hrd : Rd w a n cap 1 (byteVals l)) :
    Calls Try.prog 25 #[.slice a n cap] w fun en w' => en = .returned (.tuple #[.int .i64 x, .int .i64 u, .int .i64 e]) ∧ Below w.heap.size w w' :=
  (refGetInt_n hx hrd).mono fun _ _ ⟨h1, h2⟩ => ⟨h1, h2 ▸ Below.refl _ _⟩
theorem getBytes_b {x : List UInt8} (hx : getB l = (x, u, e)) (hrd : Rd w a n cap 1 (byteVals l)) :
    Calls Try.prog 26 #[.slice a n cap] w fun en w' => en = .returned (.tuple #[.string ⟨x.toArray⟩, .int .i64 u, .int .i64 e]) ∧ Below w.heap.size w w' :=
  (getBytes_n hx hrd).mono fun _ _ ⟨h1, h2⟩ => ⟨h1, h2 ▸ Below.refl _ _⟩
theorem refGetBytes_b {x : List UInt8} (hx : getB l = (x, u, e)) (hrd : Rd w a n cap 1 (byteVals l)) :
    Calls Try.prog 27 #[.slice a n cap] w fun en w' => en = .returned (.tuple #[.string ⟨x.toArray⟩, .int .i64 u, .int .i64 e]) ∧ Below w.heap.size w w' :=
  (refGetBytes_n hx hrd).mono fun _ _ ⟨h1, h2⟩ => ⟨h1, h2 ▸ Below.refl _ _⟩

theorem getInts_v {xs : List Int} (hx : getL getI 1 l = (xs, u, e)) (hrd : Rd w a n cap 1 (byteVals l)) (hn : n ≤ 1099511627776) : Calls Try.prog 28 #[.slice a n cap] w (GotL 1 xs.length (intVals xs) u e w) := by
  have := getInts_any l a n cap w hrd hn
  rw [hx] at this; exact this.mono fun _ _ h => h.got
theorem refGetInts_v {xs : List Int} (hx : getL getI 1 l = (xs, u, e)) (hrd : Rd w a n cap 1 (byteVals l)) (hn : n ≤ 1099511627776) : Calls Try.prog 29 #[.slice a n cap] w (GotL 1 xs.length (intVals xs) u e w) := by
  have := refGetInts_any l a n cap w hrd hn
  rw [hx] at this; exact this.mono fun _ _ h => h.got
theorem getStrings_v {xs : List (List UInt8)} (hx : getL getB 1 l = (xs, u, e)) (hrd : Rd w a n cap 1 (byteVals l)) (hn : n ≤ 1099511627776) : Calls Try.prog 31 #[.slice a n cap] w (GotL 1 xs.length (bstrVals xs) u e w) := by
  have := getStrings_any l a n cap w hrd hn
  rw [hx] at this; exact this.mono fun _ _ h => h.got
theorem refGetStrings_v {xs : List (List UInt8)} (hx : getL getB 1 l = (xs, u, e)) (hrd : Rd w a n cap 1 (byteVals l)) (hn : n ≤ 1099511627776) : Calls Try.prog 32 #[.slice a n cap] w (GotL 1 xs.length (bstrVals xs) u e w) := by
  have := refGetStrings_any l a n cap w hrd hn
  rw [hx] at this; exact this.mono fun _ _ h => h.got
theorem getDigests_v {xs : List (List UInt8)} (hx : getL getD16 16 l = (xs, u, e)) (hrd : Rd w a n cap 1 (byteVals l)) (hn : n ≤ 1099511627776) : Calls Try.prog 34 #[.slice a n cap] w (GotL 16 xs.length (digVals xs) u e w) := by
  have := getDigests_any l a n cap w hrd hn
  rw [hx] at this; exact this.mono fun _ _ h => h.got
theorem refGetDigests_v {xs : List (List UInt8)} (hx : getL getD16 16 l = (xs, u, e)) (hrd : Rd w a n cap 1 (byteVals l)) (hn : n ≤ 1099511627776) : Calls Try.prog 35 #[.slice a n cap] w (GotL 16 xs.length (digVals xs) u e w) := by
  have := refGetDigests_any l a n cap w hrd hn
  rw [hx] at this; exact this.mono fun _ _ h => h.got

theorem int_v {x : Int} {r : List UInt8} (hr : enc x = r) (h1 : -9223372036854775808 ≤ x) (h2 : x ≤ 9223372036854775807) : Calls Try.prog 14 #[.int .i64 x] w (GotB r w) := by
  subst hr; exact (int_any x w h1 h2).mono fun _ _ h => h.got
theorem refInt_v {x : Int} {r : List UInt8} (hr : enc x = r) (h1 : -9223372036854775808 ≤ x) (h2 : x ≤ 9223372036854775807) : Calls Try.prog 15 #[.int .i64 x] w (GotB r w) := by
  subst hr; exact (refInt_any x w h1 h2).mono fun _ _ h => h.got
theorem bytes_v {s : ByteArray} {r : List UInt8} (hr : encB s.data.toList = r) (hs : s.size ≤ 1099511627776) : Calls Try.prog 16 #[.string s] w (GotB r w) := by
  subst hr; exact (bytes_any s w hs).mono fun _ _ h => h.got
theorem refBytes_v {s : ByteArray} {r : List UInt8} (hr : encB s.data.toList = r) (hs : s.size ≤ 1099511627776) : Calls Try.prog 17 #[.string s] w (GotB r w) := by
  subst hr; exact (refBytes_any s w hs).mono fun _ _ h => h.got

theorem ints_v {xs : List Int} {r : List UInt8} (hr : encL enc xs = r) (hrd : Rd w a n cap 1 (intVals xs)) (hx : Hid (∀ x ∈ xs, -9223372036854775808 ≤ x ∧ x ≤ 9223372036854775807)) (hn : n ≤ 1099511627776) : Calls Try.prog 18 #[.slice a n cap] w (GotB r w) := by
  subst hr
  obtain rfl : n = xs.length := by have := hrd.hlen; rw [intVals_length] at this; omega
  exact (ints_any xs a cap w hrd hx hn).mono fun _ _ h => h.got
theorem refInts_v {xs : List Int} {r : List UInt8} (hr : encL enc xs = r) (hrd : Rd w a n cap 1 (intVals xs)) (hx : Hid (∀ x ∈ xs, -9223372036854775808 ≤ x ∧ x ≤ 9223372036854775807)) (hn : n ≤ 1099511627776) : Calls Try.prog 19 #[.slice a n cap] w (GotB r w) := by
  subst hr
  obtain rfl : n = xs.length := by have := hrd.hlen; rw [intVals_length] at this; omega
  exact (refInts_any xs a cap w hrd hx hn).mono fun _ _ h => h.got

theorem sumLen_tot (ss : List (List UInt8)) : sumLen (ss.map fun s => (⟨s.toArray⟩ : ByteArray)) = totLen ss := by
  unfold sumLen totLen; rw [List.map_map]; rfl
theorem encL_str (ss : List (List UInt8)) : encL (fun s : ByteArray => encB s.data.toList) (ss.map fun s => (⟨s.toArray⟩ : ByteArray)) = encL encB ss := by
  unfold encL; rw [List.length_map, List.flatMap_map]
theorem bstr_str (ss : List (List UInt8)) : bstrVals ss = strVals (ss.map fun s => (⟨s.toArray⟩ : ByteArray)) := by
  unfold bstrVals strVals; rw [List.map_map]; rfl

theorem strings_v {ss : List (List UInt8)} {r : List UInt8} (hr : encL encB ss = r) (hrd : Rd w a n cap 1 (bstrVals ss)) (hs : totLen ss ≤ 1099511627776) (hn : n ≤ 1099511627776) : Calls Try.prog 20 #[.slice a n cap] w (GotB r w) := by
  subst hr
  obtain rfl : n = (ss.map fun s => (⟨s.toArray⟩ : ByteArray)).length := by have := hrd.hlen; rw [bstrVals_length] at this; rw [List.length_map]; omega
  rw [bstr_str] at hrd
  have := strings_any _ a cap w hrd (by rw [sumLen_tot]; exact hs) hn
  rw [encL_str] at this
  exact this.mono fun _ _ h => h.got
theorem refStrings_v {ss : List (List UInt8)} {r : List UInt8} (hr : encL encB ss = r) (hrd : Rd w a n cap 1 (bstrVals ss)) (hs : totLen ss ≤ 1099511627776) (hn : n ≤ 1099511627776) : Calls Try.prog 21 #[.slice a n cap] w (GotB r w) := by
  subst hr
  obtain rfl : n = (ss.map fun s => (⟨s.toArray⟩ : ByteArray)).length := by have := hrd.hlen; rw [bstrVals_length] at this; rw [List.length_map]; omega
  rw [bstr_str] at hrd
  have := refStrings_any _ a cap w hrd (by rw [sumLen_tot]; exact hs) hn
  rw [encL_str] at this
  exact this.mono fun _ _ h => h.got

theorem dig_n {ds : List (List UInt8)} (hd : Hid (∀ d ∈ ds, d.length = 16)) (hrd : Rd w a n cap 16 (digVals ds)) : n = ds.length := by
  have := hrd.hlen; unfold digVals at this; rw [byteVals_length, flatten_len hd.out] at this; omega
theorem digests_v {ds : List (List UInt8)} {r : List UInt8} (hr : encL (fun d => d) ds = r) (hd : Hid (∀ d ∈ ds, d.length = 16)) (hrd : Rd w a n cap 16 (digVals ds)) (hn : n ≤ 1099511627776) : Calls Try.prog 22 #[.slice a n cap] w (GotB r w) := by
  subst hr
  obtain rfl := dig_n hd hrd
  exact (digests_any ds a cap w hrd hd hn).mono fun _ _ h => h.got
theorem refDigests_v {ds : List (List UInt8)} {r : List UInt8} (hr : encL (fun d => d) ds = r) (hd : Hid (∀ d ∈ ds, d.length = 16)) (hrd : Rd w a n cap 16 (digVals ds)) (hn : n ≤ 1099511627776) : Calls Try.prog 23 #[.slice a n cap] w (GotB r w) := by
  subst hr
  obtain rfl := dig_n hd hrd
  exact (refDigests_any ds a cap w hrd hd hn).mono fun _ _ h => h.got

theorem same_v {l m : List UInt8} {b : Option Addr} {n1 c1 n2 c2 : Nat} {r : Bool} (h1 : Rd w a n1 c1 1 (byteVals l)) (h2 : Rd w b n2 c2 1 (byteVals m)) (hr : (l == m) = r) : Calls Try.prog 13 #[.slice a n1 c1, .slice b n2 c2] w (RetBool r w) := by
  subst hr; exact (same_any l m a b n1 c1 n2 c2 w h1 h2).mono fun _ _ ⟨h1, h2⟩ => ⟨h1, h2 ▸ Below.refl _ _⟩
theorem sameInts_v {l m : List Int} {b : Option Addr} {n1 c1 n2 c2 : Nat} {r : Bool} (h1 : Rd w a n1 c1 1 (intVals l)) (h2 : Rd w b n2 c2 1 (intVals m)) (hr : (l == m) = r) : Calls Try.prog 30 #[.slice a n1 c1, .slice b n2 c2] w (RetBool r w) := by
  subst hr; exact sameInts_any l m a b n1 c1 n2 c2 w h1 h2
theorem sameTexts_v {l m : List (List UInt8)} {b : Option Addr} {n1 c1 n2 c2 : Nat} {r : Bool} (h1 : Rd w a n1 c1 1 (bstrVals l)) (h2 : Rd w b n2 c2 1 (bstrVals m)) (hr : (l == m) = r) : Calls Try.prog 33 #[.slice a n1 c1, .slice b n2 c2] w (RetBool r w) := by
  subst hr; exact sameTexts_any l m a b n1 c1 n2 c2 w h1 h2
theorem sameDigests_v {l m : List (List UInt8)} {b : Option Addr} {n1 c1 n2 c2 : Nat} {r : Bool} (h1 : Rd w a n1 c1 16 (digVals l)) (h2 : Rd w b n2 c2 16 (digVals m)) (hd1 : Hid (∀ d ∈ l, d.length = 16)) (hd2 : Hid (∀ d ∈ m, d.length = 16)) (hr : (l == m) = r) : Calls Try.prog 36 #[.slice a n1 c1, .slice b n2 c2] w (RetBool r w) := by
  subst hr; exact sameDigests_any l m a b n1 c1 n2 c2 w h1 h2 hd1 hd2
end
end Go.Proofs.Ytppmlhjpdmndoaa
