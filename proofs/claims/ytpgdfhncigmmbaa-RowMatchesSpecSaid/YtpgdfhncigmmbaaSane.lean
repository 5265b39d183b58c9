/-
  The walk of the law's sanity check. No condition.
-/
import Derived.Test.YtpgdfhncigmmbaaRSame
namespace Go.Proofs.Ytpgdfhncigmmbaa
open Go.RowKit

/-- As RetLE, RetDec, RetRE, RetL; the lengths by name. -/
def RetLEm (L : List Int) (m : Nat) (v : Int) (w : World) (e : Ending) (w' : World) : Prop := Below w.heap.size w w' ∧ ∃ a c, e = .returned (.tuple #[.slice a m c, .int .i64 v]) ∧ w'.ownsRow w.heap.size 3 1 (.slice a m c) m (intVals L)
def RetDm (V : List Val) (m N : Nat) (E : Int) (w : World) (e : Ending) (w' : World) : Prop := Below w.heap.size w w' ∧ ∃ a c, e = .returned (.tuple #[.slice a m c, .int .i64 N, .int .i64 E]) ∧ w'.ownsRow w.heap.size 59 3 (.slice a m c) m (recC Val.enc V)
def RetREm (L : List Val) (m : Nat) (v : Int) (w : World) (e : Ending) (w' : World) : Prop := Below w.heap.size w w' ∧ ∃ a c, e = .returned (.tuple #[.slice a m c, .int .i64 v]) ∧ w'.ownsRow w.heap.size 59 3 (.slice a m c) m (recC Val.enc L)
def RetLm (L : List Int) (m : Nat) (w : World) (e : Ending) (w' : World) : Prop := Below w.heap.size w w' ∧ ∃ a c, e = .returned (.slice a m c) ∧ w'.ownsRow w.heap.size 3 1 (.slice a m c) m (intVals L)
theorem encode_is {X : TabP} {r : List Val} {L : List Int} {m : Nat} {v : Int} (h1 : encR X.t r = L) (h2 : fitsT X.t r = v) (hm : L.length = m) {a : Option Addr} {n c : Nat} {w : World} (hX : TabRd w X) (hr : Rd w a n c 3 (recC Val.enc r)) : Calls Try.prog 12 #[.agg #[.string ⟨X.name.toArray⟩, .slice X.ca X.cols.length X.cc, .slice X.ia X.ixs.length X.ic, .slice X.ha X.chks.length X.hc], .slice a n c] w (RetLEm L m v w) := by
  subst h1; subst h2; subst hm; exact encode_any X r a n c w hX hr
theorem decode_is {X : TabP} {l : List Int} {o : Option (List Val × Nat)} {V : List Val} {m N : Nat} {E : Int} (h : decT X.t l = o) (h1 : decV o = V) (h2 : decN o = N) (h3 : decE o = E) (h4 : V.length = m) {a : Option Addr} {n c : Nat} {w : World} (hX : TabRd w X) (hr : Rd w a n c 1 (intVals l)) (hn : n ≤ 1000) (hc : X.cols.length ≤ 8) : Calls Try.prog 14 #[.agg #[.string ⟨X.name.toArray⟩, .slice X.ca X.cols.length X.cc, .slice X.ia X.ixs.length X.ic, .slice X.ha X.chks.length X.hc], .slice a n c] w (RetDm V m N E w) := by
  subst h; subst h1; subst h2; subst h3; subst h4; exact decode_any X l a n c w hX hr hn hc
theorem update_is {X : TabP} {r vals : List Val} {cols : List Int} {L : List Val} {k : Nat} {e : Int} (h1 : updR X.t r cols vals = L) (h2 : updE X.t r cols vals = e) (hk : L.length = k) {a b v : Option Addr} {n c m d p q : Nat} {w : World} (hX : TabRd w X) (hr : Rd w a n c 3 (recC Val.enc r)) (hc : Rd w b m d 1 (intVals cols)) (hv : Rd w v p q 3 (recC Val.enc vals)) (hn : n ≤ 1000) (hm : m ≤ 1000) :
    Calls Try.prog 26 #[.agg #[.string ⟨X.name.toArray⟩, .slice X.ca X.cols.length X.cc, .slice X.ia X.ixs.length X.ic, .slice X.ha X.chks.length X.hc], .slice a n c, .slice b m d, .slice v p q] w (RetREm L k e w) := by
  subst h1; subst h2; subst hk; exact update_any X hX hr hc hv hn hm
theorem diff_is {x y : List Val} {L : List Int} {m' : Nat} (h : diffR x y = L) (h2 : L.length = m') {a b : Option Addr} {n c m d : Nat} {w : World} (ha : Rd w a n c 3 (recC Val.enc x)) (hb : Rd w b m d 3 (recC Val.enc y)) (hn : n ≤ 1000) (hm : m ≤ 1000) : Calls Try.prog 28 #[.slice a n c, .slice b m d] w (RetLm L m' w) := by
  subst h; subst h2; exact diff_any ha hb hn hm
theorem size_is {r : List Val} {N : Nat} (h : (wordsR r).length = N) {a : Option Addr} {n c : Nat} {w : World} (hr : Rd w a n c 3 (recC Val.enc r)) (hn : n ≤ 20) (hok : OkR r) : Calls Try.prog 16 #[.slice a n c] w (RetV (.int .i64 (N : Nat)) w) := by
  subst h; exact size_any hr hn hok
theorem pack_is {s : List UInt8} {L : List Int} {m : Nat} (h : textW s = L) (h2 : L.length = m) (w : World) (hs : s.length ≤ 1000000) : Calls Try.prog 20 #[.string ⟨s.toArray⟩] w (RetLm L m w) := by
  subst h; subst h2; exact pack_any s w hs
theorem same_is {l m : List Int} {d : Bool} (h : decide (l = m) = d) {a b : Option Addr} {n n2 cap cap2 : Nat} {w : World} (h1 : Rd w a n cap 1 (intVals l)) (h2 : Rd w b n2 cap2 1 (intVals m)) : Calls Try.prog 18 #[.slice a n cap, .slice b n2 cap2] w (RetQ (.bool d) w) := by
  subst h; exact sameInts_any l m a b n n2 cap cap2 w h1 h2
theorem rsame_is {x y : List Val} {d : Bool} (h : decide (x = y) = d) {a b : Option Addr} {n c m e : Nat} {w : World} (ha : Rd w a n c 3 (recC Val.enc x)) (hb : Rd w b m e 3 (recC Val.enc y)) (hn : n ≤ 1000) (hm : m ≤ 1000) : Calls Try.prog 19 #[.slice a n c, .slice b m e] w (RetV (.bool d) w) := by
  subst h; exact rsame_any ha hb hn hm

def one : List Val := [⟨1, 3, []⟩, ⟨2, 0, [97, 98]⟩, ⟨0, 0, []⟩]
def two : List Val := [⟨1, -1, []⟩, ⟨0, 0, []⟩, ⟨3, 1, []⟩]
theorem k_e1 (g : Nat) : encR (XS g).t one = [772, 549755813891, 2, 418255994880] := by show encR (XS 0).t one = _; decide
theorem k_f1 (g : Nat) : fitsT (XS g).t one = 0 := by show fitsT (XS 0).t one = _; decide
theorem k_e2 (g : Nat) : encR (XS g).t two = [770, 549755813887, 1] := by show encR (XS 0).t two = _; decide
theorem k_f2 (g : Nat) : fitsT (XS g).t two = 0 := by show fitsT (XS 0).t two = _; decide
theorem k_d1 (g : Nat) : decT (XS g).t [256, 549755813893, 7] = some ([⟨1, 5, []⟩, ⟨0, 0, []⟩, ⟨0, 0, []⟩], 2) := by show decT (XS 0).t _ = _; decide
theorem k_d2 (g : Nat) : decT (XS g).t [512, 549755813888, 41] = none := by show decT (XS 0).t _ = _; decide
theorem k_d3 (g : Nat) : decT (XS g).t [257] = none := by show decT (XS 0).t _ = _; decide
theorem k_u1 (g : Nat) : updR (XS g).t one [2] [⟨3, 1, []⟩] = [⟨1, 3, []⟩, ⟨2, 0, [97, 98]⟩, ⟨3, 1, []⟩] := by show updR (XS 0).t _ _ _ = _; decide
theorem k_v1 (g : Nat) : updE (XS g).t one [2] [⟨3, 1, []⟩] = 0 := by show updE (XS 0).t _ _ _ = _; decide
theorem k_u2 (g : Nat) : updR (XS g).t one [2, 2] [⟨0, 0, []⟩, ⟨0, 0, []⟩] = [] := by show updR (XS 0).t _ _ _ = _; decide
theorem k_v2 (g : Nat) : updE (XS g).t one [2, 2] [⟨0, 0, []⟩, ⟨0, 0, []⟩] = 6 := by show updE (XS 0).t _ _ _ = _; decide
theorem k_p : textW [97, 98, 99, 100, 101, 102] = [418262508645, 438086664192] := by decide
theorem k_x : diffR one [⟨1, 3, []⟩, ⟨2, 0, [97, 98]⟩, ⟨3, 1, []⟩] = [2] := by decide
theorem k_s : (wordsR one).length = 4 := by decide
theorem k_o : OkR one := by
  intro v hv
  simp only [one, List.mem_cons, List.not_mem_nil, or_false] at hv
  rcases hv with rfl | rfl | rfl <;> (unfold OkV; decide)
theorem rd_cells {w : World} {g n : Nat} {ty : TypeId} {cs : List Value} (h : Blk w g ty cs) (hl : cs.length = n * 1) (hm : n ≤ maxLen) : Rd w (some ⟨g, 0, none⟩) n n 1 cs := Rd.ofOwn (own_new h (Nat.le_refl _) hl hm)
theorem rd_row {w : World} {g : Nat} {ty : TypeId} {n : Nat} (r : List Val) {cs : List Value} (h : Blk w g ty cs) (hc : cs = recC Val.enc r) (hl : r.length = n) (hm : n ≤ maxLen) : Rd w (some ⟨g, 0, none⟩) n n 3 (recC Val.enc r) := by
  subst hc; subst hl; exact rd_rec Val.enc_len h hm
/-- Below two places at once. -/
theorem Own.back {B : Nat} {w : World} {l : List HP} (O : Own B w l) : B ≤ w.heap.size := O.1

set_option maxRecDepth 100000 in
set_option maxHeartbeats 8000000 in
theorem sanity_any (w : World) : Calls Try.prog 11 #[] w (RetV (.bool true) w) := by
  go_enter Try.func11, Try.ntmps11
  go_wp2_with fail
  refine (some_any w).mono ?_
  rintro e w1 ⟨g0, rfl, hb0, hg0, hbl⟩
  have O1 : Box (Own w.heap.size w1 [BlkP g0 55 colsC]) := ⟨(Own.start w).more hbl (BlkP.stb _ _ _) ⟨hb0, rfl⟩ (by simp; exact hg0)⟩
  have B1 := Box.mk hbl
  clear hb0 hg0 hbl
  unfold XS TabP.v
  have O2 := O1.out.new [.string ⟨#[116]⟩, .slice (some ⟨g0, 0, none⟩) 3 3, .slice none 0 0, .slice none 0 0] 26
  simp only [List.cons_append, List.nil_append] at O2
  have B2 := B1.out.alloc B1.out.size (.cells #[.string ⟨#[116]⟩, .slice (some ⟨g0, 0, none⟩) 3 3, .slice none 0 0, .slice none 0 0] 26)
  clear O1 B1
  have O3 := O2.new [.int .i64 1, .int .i64 3, .string ⟨#[]⟩, .int .i64 2, .int .i64 0, .string ⟨#[97, 98]⟩, .int .i64 0, .int .i64 0, .string ⟨#[]⟩] 59
  simp only [List.cons_append, List.nil_append] at O3
  have B3 := B2.alloc B2.size (.cells #[.int .i64 1, .int .i64 3, .string ⟨#[]⟩, .int .i64 2, .int .i64 0, .string ⟨#[97, 98]⟩, .int .i64 0, .int .i64 0, .string ⟨#[]⟩] 59)
  rw [show (World.alloc w1 (.cells #[.string ⟨#[116]⟩, .slice (some ⟨g0, 0, none⟩) 3 3, .slice none 0 0, .slice none 0 0] 26)).heap.size = w1.heap.size + 1 from by simp] at O3
  clear O2 B2
  have O4 := Box.mk O3
  have B4 := Box.mk B3
  clear O3 B3
  go_wp2_with fail
  generalize (World.alloc (World.alloc w1 (.cells #[.string ⟨#[116]⟩, .slice (some ⟨g0, 0, none⟩) 3 3, .slice none 0 0, .slice none 0 0] 26)) (.cells #[.int .i64 1, .int .i64 3, .string ⟨#[]⟩, .int .i64 2, .int .i64 0, .string ⟨#[97, 98]⟩, .int .i64 0, .int .i64 0, .string ⟨#[]⟩] 59)) = w5 at *
  generalize w1.heap.size = t5 at *
  refine (encode_is (X := XS g0) (m := 4) (k_e1 g0) (k_f1 g0) rfl (tabS (O4.out.blk 0 rfl).1) (rd_row (n := 3) one (O4.out.blk 2 rfl).1 rfl rfl (by unfold maxLen; omega))).mono ?_
  rintro e w6 ⟨hb6, a6, c6, rfl, hown6⟩
  have O6 := Box.mk (O4.out.newRow hb6 hown6 (Nat.le_refl _))
  simp only [List.cons_append, List.nil_append] at O6
  have B6 := Box.mk (B4.out.trans (hb6.mono B4.out.size))
  clear hb6 hown6 O4 B4
  have x0 := (O6.out.blk 1 rfl).1.cellOf (i := 0) rfl
  have x1 := (O6.out.blk 1 rfl).1.cellOf (i := 1) rfl
  have x2 := (O6.out.blk 1 rfl).1.cellOf (i := 2) rfl
  have x3 := (O6.out.blk 1 rfl).1.cellOf (i := 3) rfl
  have O7 := O6.out.new [.int .i64 1, .int .i64 (-1), .string ⟨#[]⟩, .int .i64 0, .int .i64 0, .string ⟨#[]⟩, .int .i64 3, .int .i64 1, .string ⟨#[]⟩] 59
  simp only [List.cons_append, List.nil_append] at O7
  have B7 := B6.out.alloc B6.out.size (.cells #[.int .i64 1, .int .i64 (-1), .string ⟨#[]⟩, .int .i64 0, .int .i64 0, .string ⟨#[]⟩, .int .i64 3, .int .i64 1, .string ⟨#[]⟩] 59)
  clear O6 B6
  have O8 := Box.mk O7
  have B8 := Box.mk B7
  clear O7 B7
  go_wp2_with fail
  generalize (World.alloc w6 (.cells #[.int .i64 1, .int .i64 (-1), .string ⟨#[]⟩, .int .i64 0, .int .i64 0, .string ⟨#[]⟩, .int .i64 3, .int .i64 1, .string ⟨#[]⟩] 59)) = w9 at *
  generalize w6.heap.size = t9 at *
  clear x0 x1 x2 x3
  refine (encode_is (X := XS g0) (m := 3) (k_e2 g0) (k_f2 g0) rfl (tabS (O8.out.blk 0 rfl).1) (rd_row (n := 3) two (O8.out.blk 4 rfl).1 rfl rfl (by unfold maxLen; omega))).mono ?_
  rintro e w10 ⟨hb10, a10, c10, rfl, hown10⟩
  have O10 := Box.mk (O8.out.newRow hb10 hown10 (Nat.le_refl _))
  simp only [List.cons_append, List.nil_append] at O10
  have B10 := Box.mk (B8.out.trans (hb10.mono B8.out.size))
  clear hb10 hown10 O8 B8
  have x0 := (O10.out.blk 1 rfl).1.cellOf (i := 0) rfl
  have x1 := (O10.out.blk 1 rfl).1.cellOf (i := 1) rfl
  have x2 := (O10.out.blk 1 rfl).1.cellOf (i := 2) rfl
  have x3 := (O10.out.blk 1 rfl).1.cellOf (i := 3) rfl
  have O11 := O10.out.new [.int .i64 256, .int .i64 549755813893, .int .i64 7] 3
  simp only [List.cons_append, List.nil_append] at O11
  have B11 := B10.out.alloc B10.out.size (.cells #[.int .i64 256, .int .i64 549755813893, .int .i64 7] 3)
  clear O10 B10
  have O12 := Box.mk O11
  have B12 := Box.mk B11
  clear O11 B11
  go_wp2_with fail
  generalize (World.alloc w10 (.cells #[.int .i64 256, .int .i64 549755813893, .int .i64 7] 3)) = w13 at *
  generalize w10.heap.size = t13 at *
  clear x0 x1 x2 x3
  refine (decode_is (X := XS g0) (m := 3) (k_d1 g0) rfl rfl rfl rfl (tabS (O12.out.blk 0 rfl).1) (rd_cells (n := 3) (cs := intVals [256, 549755813893, 7]) (O12.out.blk 6 rfl).1 rfl (by unfold maxLen; omega)) (by decide) (by show 3 ≤ 8; omega)).mono ?_
  rintro e w14 ⟨hb14, a14, c14, rfl, hown14⟩
  have O14 := Box.mk (O12.out.newRow hb14 hown14 (Nat.le_refl _))
  simp only [List.cons_append, List.nil_append] at O14
  have B14 := Box.mk (B12.out.trans (hb14.mono B12.out.size))
  clear hb14 hown14 O12 B12
  have x0 := (O14.out.blk 1 rfl).1.cellOf (i := 0) rfl
  have x1 := (O14.out.blk 1 rfl).1.cellOf (i := 1) rfl
  have x2 := (O14.out.blk 1 rfl).1.cellOf (i := 2) rfl
  have x3 := (O14.out.blk 1 rfl).1.cellOf (i := 3) rfl
  have O15 := O14.out.new [.int .i64 512, .int .i64 549755813888, .int .i64 41] 3
  simp only [List.cons_append, List.nil_append] at O15
  have B15 := B14.out.alloc B14.out.size (.cells #[.int .i64 512, .int .i64 549755813888, .int .i64 41] 3)
  clear O14 B14
  have O16 := Box.mk O15
  have B16 := Box.mk B15
  clear O15 B15
  go_wp2_with fail
  generalize (World.alloc w14 (.cells #[.int .i64 512, .int .i64 549755813888, .int .i64 41] 3)) = w17 at *
  generalize w14.heap.size = t17 at *
  clear x0 x1 x2 x3
  refine (decode_is (X := XS g0) (m := 0) (k_d2 g0) rfl rfl rfl rfl (tabS (O16.out.blk 0 rfl).1) (rd_cells (n := 3) (cs := intVals [512, 549755813888, 41]) (O16.out.blk 8 rfl).1 rfl (by unfold maxLen; omega)) (by decide) (by show 3 ≤ 8; omega)).mono ?_
  rintro e w18 ⟨hb18, a18, c18, rfl, hown18⟩
  have O18 := Box.mk (O16.out.newRow hb18 hown18 (Nat.le_refl _))
  simp only [List.cons_append, List.nil_append] at O18
  have B18 := Box.mk (B16.out.trans (hb18.mono B16.out.size))
  clear hb18 hown18 O16 B16
  have x0 := (O18.out.blk 1 rfl).1.cellOf (i := 0) rfl
  have x1 := (O18.out.blk 1 rfl).1.cellOf (i := 1) rfl
  have x2 := (O18.out.blk 1 rfl).1.cellOf (i := 2) rfl
  have x3 := (O18.out.blk 1 rfl).1.cellOf (i := 3) rfl
  have O19 := O18.out.new [.int .i64 257] 3
  simp only [List.cons_append, List.nil_append] at O19
  have B19 := B18.out.alloc B18.out.size (.cells #[.int .i64 257] 3)
  clear O18 B18
  have O20 := Box.mk O19
  have B20 := Box.mk B19
  clear O19 B19
  go_wp2_with fail
  generalize (World.alloc w18 (.cells #[.int .i64 257] 3)) = w21 at *
  generalize w18.heap.size = t21 at *
  clear x0 x1 x2 x3
  refine (decode_is (X := XS g0) (m := 0) (k_d3 g0) rfl rfl rfl rfl (tabS (O20.out.blk 0 rfl).1) (rd_cells (n := 1) (cs := intVals [257]) (O20.out.blk 10 rfl).1 rfl (by unfold maxLen; omega)) (by decide) (by show 3 ≤ 8; omega)).mono ?_
  rintro e w22 ⟨hb22, a22, c22, rfl, hown22⟩
  have O22 := Box.mk (O20.out.newRow hb22 hown22 (Nat.le_refl _))
  simp only [List.cons_append, List.nil_append] at O22
  have B22 := Box.mk (B20.out.trans (hb22.mono B20.out.size))
  clear hb22 hown22 O20 B20
  have x0 := (O22.out.blk 1 rfl).1.cellOf (i := 0) rfl
  have x1 := (O22.out.blk 1 rfl).1.cellOf (i := 1) rfl
  have x2 := (O22.out.blk 1 rfl).1.cellOf (i := 2) rfl
  have x3 := (O22.out.blk 1 rfl).1.cellOf (i := 3) rfl
  have O23 := O22.out.new [.int .i64 2] 3
  simp only [List.cons_append, List.nil_append] at O23
  have B23 := B22.out.alloc B22.out.size (.cells #[.int .i64 2] 3)
  clear O22 B22
  have O24 := O23.new [.int .i64 3, .int .i64 1, .string ⟨#[]⟩] 59
  simp only [List.cons_append, List.nil_append] at O24
  have B24 := B23.alloc B23.size (.cells #[.int .i64 3, .int .i64 1, .string ⟨#[]⟩] 59)
  rw [show (World.alloc w22 (.cells #[.int .i64 2] 3)).heap.size = w22.heap.size + 1 from by simp] at O24
  clear O23 B23
  have O25 := Box.mk O24
  have B25 := Box.mk B24
  clear O24 B24
  go_wp2_with fail
  generalize (World.alloc (World.alloc w22 (.cells #[.int .i64 2] 3)) (.cells #[.int .i64 3, .int .i64 1, .string ⟨#[]⟩] 59)) = w26 at *
  generalize w22.heap.size = t26 at *
  clear x0 x1 x2 x3
  refine (update_is (X := XS g0) (k := 3) (k_u1 g0) (k_v1 g0) rfl (tabS (O25.out.blk 0 rfl).1) (rd_row (n := 3) one (O25.out.blk 2 rfl).1 rfl rfl (by unfold maxLen; omega)) (rd_cells (n := 1) (cs := intVals [2]) (O25.out.blk 12 rfl).1 rfl (by unfold maxLen; omega)) (rd_row (n := 1) [⟨3, 1, []⟩] (O25.out.blk 13 rfl).1 rfl rfl (by unfold maxLen; omega)) (by decide) (by decide)).mono ?_
  rintro e w27 ⟨hb27, a27, c27, rfl, hown27⟩
  have O27 := Box.mk (O25.out.newRow hb27 hown27 (Nat.le_refl _))
  simp only [List.cons_append, List.nil_append] at O27
  have B27 := Box.mk (B25.out.trans (hb27.mono B25.out.size))
  clear hb27 hown27 O25 B25
  have x0 := (O27.out.blk 1 rfl).1.cellOf (i := 0) rfl
  have x1 := (O27.out.blk 1 rfl).1.cellOf (i := 1) rfl
  have x2 := (O27.out.blk 1 rfl).1.cellOf (i := 2) rfl
  have x3 := (O27.out.blk 1 rfl).1.cellOf (i := 3) rfl
  have O28 := O27.out.new [.int .i64 2, .int .i64 2] 3
  simp only [List.cons_append, List.nil_append] at O28
  have B28 := B27.out.alloc B27.out.size (.cells #[.int .i64 2, .int .i64 2] 3)
  clear O27 B27
  have O29 := O28.new [.int .i64 0, .int .i64 0, .string ⟨#[]⟩, .int .i64 0, .int .i64 0, .string ⟨#[]⟩] 59
  simp only [List.cons_append, List.nil_append] at O29
  have B29 := B28.alloc B28.size (.cells #[.int .i64 0, .int .i64 0, .string ⟨#[]⟩, .int .i64 0, .int .i64 0, .string ⟨#[]⟩] 59)
  rw [show (World.alloc w27 (.cells #[.int .i64 2, .int .i64 2] 3)).heap.size = w27.heap.size + 1 from by simp] at O29
  clear O28 B28
  have O30 := Box.mk O29
  have B30 := Box.mk B29
  clear O29 B29
  go_wp2_with fail
  generalize (World.alloc (World.alloc w27 (.cells #[.int .i64 2, .int .i64 2] 3)) (.cells #[.int .i64 0, .int .i64 0, .string ⟨#[]⟩, .int .i64 0, .int .i64 0, .string ⟨#[]⟩] 59)) = w31 at *
  generalize w27.heap.size = t31 at *
  clear x0 x1 x2 x3
  refine (update_is (X := XS g0) (k := 0) (k_u2 g0) (k_v2 g0) rfl (tabS (O30.out.blk 0 rfl).1) (rd_row (n := 3) one (O30.out.blk 2 rfl).1 rfl rfl (by unfold maxLen; omega)) (rd_cells (n := 2) (cs := intVals [2, 2]) (O30.out.blk 15 rfl).1 rfl (by unfold maxLen; omega)) (rd_row (n := 2) [⟨0, 0, []⟩, ⟨0, 0, []⟩] (O30.out.blk 16 rfl).1 rfl rfl (by unfold maxLen; omega)) (by decide) (by decide)).mono ?_
  rintro e w32 ⟨hb32, a32, c32, rfl, hown32⟩
  have O32 := Box.mk (O30.out.newRow hb32 hown32 (Nat.le_refl _))
  simp only [List.cons_append, List.nil_append] at O32
  have B32 := Box.mk (B30.out.trans (hb32.mono B30.out.size))
  clear hb32 hown32 O30 B30
  go_wp2_with fail
  refine (pack_is (s := [97, 98, 99, 100, 101, 102]) (m := 2) k_p rfl _ (by decide)).mono ?_
  rintro e w33 ⟨hb33, a33, c33, rfl, hown33⟩
  have O33 := Box.mk (O32.out.newRow hb33 hown33 (Nat.le_refl _))
  simp only [List.cons_append, List.nil_append] at O33
  have B33 := Box.mk (B32.out.trans (hb33.mono B32.out.size))
  clear hb33 hown33 O32 B32
  have O34 := O33.out.new [.int .i64 418262508645, .int .i64 438086664192] 3
  simp only [List.cons_append, List.nil_append] at O34
  have B34 := B33.out.alloc B33.out.size (.cells #[.int .i64 418262508645, .int .i64 438086664192] 3)
  clear O33 B33
  have O35 := Box.mk O34
  have B35 := Box.mk B34
  clear O34 B34
  go_wp2_with fail
  generalize (World.alloc w33 (.cells #[.int .i64 418262508645, .int .i64 438086664192] 3)) = w36 at *
  generalize w33.heap.size = t36 at *
  refine (same_is (d := true) (l := [418262508645, 438086664192]) (m := [418262508645, 438086664192]) (by decide) (Rd.ofOwn (O35.out.row 18 rfl)) (rd_cells (n := 2) (cs := intVals [418262508645, 438086664192]) (O35.out.blk 19 rfl).1 rfl (by unfold maxLen; omega))).mono ?_
  rintro e w37 ⟨rfl, q37, rfl⟩
  have O37 := Box.mk (O35.out.drewN q37)
  have B37 := Box.mk (below_drewN B35.out q37)
  clear O35 B35
  generalize w36.drewN q37 = w37 at *
  have O38 := O37.out.new [.int .i64 772, .int .i64 549755813891, .int .i64 2, .int .i64 418255994880] 3
  simp only [List.cons_append, List.nil_append] at O38
  have B38 := B37.out.alloc B37.out.size (.cells #[.int .i64 772, .int .i64 549755813891, .int .i64 2, .int .i64 418255994880] 3)
  clear O37 B37
  have O39 := Box.mk O38
  have B39 := Box.mk B38
  clear O38 B38
  go_wp2_with fail
  generalize (World.alloc w37 (.cells #[.int .i64 772, .int .i64 549755813891, .int .i64 2, .int .i64 418255994880] 3)) = w40 at *
  generalize w37.heap.size = t40 at *
  refine (same_is (d := true) (l := [772, 549755813891, 2, 418255994880]) (m := [772, 549755813891, 2, 418255994880]) (by decide) (Rd.ofOwn (O39.out.row 3 rfl)) (rd_cells (n := 4) (cs := intVals [772, 549755813891, 2, 418255994880]) (O39.out.blk 20 rfl).1 rfl (by unfold maxLen; omega))).mono ?_
  rintro e w41 ⟨rfl, q41, rfl⟩
  have O41 := Box.mk (O39.out.drewN q41)
  have B41 := Box.mk (below_drewN B39.out q41)
  clear O39 B39
  generalize w40.drewN q41 = w41 at *
  have O42 := O41.out.new [.int .i64 770, .int .i64 549755813887, .int .i64 1] 3
  simp only [List.cons_append, List.nil_append] at O42
  have B42 := B41.out.alloc B41.out.size (.cells #[.int .i64 770, .int .i64 549755813887, .int .i64 1] 3)
  clear O41 B41
  have O43 := Box.mk O42
  have B43 := Box.mk B42
  clear O42 B42
  go_wp2_with fail
  generalize (World.alloc w41 (.cells #[.int .i64 770, .int .i64 549755813887, .int .i64 1] 3)) = w44 at *
  generalize w41.heap.size = t44 at *
  refine (same_is (d := true) (l := [770, 549755813887, 1]) (m := [770, 549755813887, 1]) (by decide) (Rd.ofOwn (O43.out.row 5 rfl)) (rd_cells (n := 3) (cs := intVals [770, 549755813887, 1]) (O43.out.blk 21 rfl).1 rfl (by unfold maxLen; omega))).mono ?_
  rintro e w45 ⟨rfl, q45, rfl⟩
  have O45 := Box.mk (O43.out.drewN q45)
  have B45 := Box.mk (below_drewN B43.out q45)
  clear O43 B43
  generalize w44.drewN q45 = w45 at *
  have O46 := O45.out.new [.int .i64 1, .int .i64 5, .string ⟨#[]⟩, .int .i64 0, .int .i64 0, .string ⟨#[]⟩, .int .i64 0, .int .i64 0, .string ⟨#[]⟩] 59
  simp only [List.cons_append, List.nil_append] at O46
  have B46 := B45.out.alloc B45.out.size (.cells #[.int .i64 1, .int .i64 5, .string ⟨#[]⟩, .int .i64 0, .int .i64 0, .string ⟨#[]⟩, .int .i64 0, .int .i64 0, .string ⟨#[]⟩] 59)
  clear O45 B45
  have O47 := Box.mk O46
  have B47 := Box.mk B46
  clear O46 B46
  go_wp2_with fail
  generalize (World.alloc w45 (.cells #[.int .i64 1, .int .i64 5, .string ⟨#[]⟩, .int .i64 0, .int .i64 0, .string ⟨#[]⟩, .int .i64 0, .int .i64 0, .string ⟨#[]⟩] 59)) = w48 at *
  generalize w45.heap.size = t48 at *
  refine (rsame_is (d := true) (x := [⟨1, 5, []⟩, ⟨0, 0, []⟩, ⟨0, 0, []⟩]) (y := [⟨1, 5, []⟩, ⟨0, 0, []⟩, ⟨0, 0, []⟩]) (by decide) (Rd.ofOwn (O47.out.row 7 rfl)) (rd_row (n := 3) [⟨1, 5, []⟩, ⟨0, 0, []⟩, ⟨0, 0, []⟩] (O47.out.blk 22 rfl).1 rfl rfl (by unfold maxLen; omega)) (by decide) (by decide)).mono ?_
  rintro e w49 ⟨rfl, hb49⟩
  have O49 := Box.mk (O47.out.below hb49)
  have B49 := Box.mk (B47.out.trans (hb49.mono B47.out.size))
  clear hb49 O47 B47
  go_wp2_with fail
  refine (diff_is (m' := 1) k_x rfl (rd_row (n := 3) one (O49.out.blk 2 rfl).1 rfl rfl (by unfold maxLen; omega)) (Rd.ofOwn (O49.out.row 14 rfl)) (by decide) (by decide)).mono ?_
  rintro e w50 ⟨hb50, a50, c50, rfl, hown50⟩
  have O50 := Box.mk (O49.out.newRow hb50 hown50 (Nat.le_refl _))
  simp only [List.cons_append, List.nil_append] at O50
  have B50 := Box.mk (B49.out.trans (hb50.mono B49.out.size))
  clear hb50 hown50 O49 B49
  have O51 := O50.out.new [.int .i64 2] 3
  simp only [List.cons_append, List.nil_append] at O51
  have B51 := B50.out.alloc B50.out.size (.cells #[.int .i64 2] 3)
  clear O50 B50
  have O52 := Box.mk O51
  have B52 := Box.mk B51
  clear O51 B51
  go_wp2_with fail
  generalize (World.alloc w50 (.cells #[.int .i64 2] 3)) = w53 at *
  generalize w50.heap.size = t53 at *
  refine (same_is (d := true) (l := [2]) (m := [2]) (by decide) (Rd.ofOwn (O52.out.row 23 rfl)) (rd_cells (n := 1) (cs := intVals [2]) (O52.out.blk 24 rfl).1 rfl (by unfold maxLen; omega))).mono ?_
  rintro e w54 ⟨rfl, q54, rfl⟩
  have O54 := Box.mk (O52.out.drewN q54)
  have B54 := Box.mk (below_drewN B52.out q54)
  clear O52 B52
  generalize w53.drewN q54 = w54 at *
  go_wp2_with fail
  refine (size_is k_s (rd_row (n := 3) one (O54.out.blk 2 rfl).1 rfl rfl (by unfold maxLen; omega)) (by decide) k_o).mono ?_
  rintro e w55 ⟨rfl, hb55⟩
  have O55 := Box.mk (O54.out.below hb55)
  have B55 := Box.mk (B54.out.trans (hb55.mono B54.out.size))
  clear hb55 O54 B54
  go_wp2_with fail
  go_ret
  exact ⟨rfl, B55.out⟩
end Go.Proofs.Ytpgdfhncigmmbaa
