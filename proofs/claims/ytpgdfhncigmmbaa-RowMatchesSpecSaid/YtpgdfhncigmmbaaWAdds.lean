/-
  The walks of checked and AddColumn. No condition.
-/
import Derived.Test.YtpgdfhncigmmbaaWCopied
import Derived.Test.YtpgdfhncigmmbaaE20
namespace Go.Proofs.Ytpgdfhncigmmbaa
open Go.RowKit

/-- The table without anything. -/
def XN : TabP := ⟨[], none, 0, [], none, 0, [], none, 0, []⟩
def TN : Tab := ⟨[], [], [], []⟩
theorem XN_rd (w : World) : TabRd w XN := ⟨rd_nil _ _, rd_nil _ _, by simp [XN], rd_nil _ _⟩
theorem chk_is {X : TabP} {v : Int} (h : checkT X.t = v) {w : World} (hr : TabRd w X) : Calls Try.prog 54 #[.agg #[.string ⟨X.name.toArray⟩, .slice X.ca X.cols.length X.cc, .slice X.ia X.ixs.length X.ic, .slice X.ha X.chks.length X.hc]] w (RetV (.int .i64 v) w) := by
  subst h; exact check_any X w hr

set_option maxRecDepth 20000 in
set_option maxHeartbeats 2000000 in
theorem checked_no (X : TabP) {v : Int} (hv : checkT X.t = v) (h0 : v ≠ 0) (w : World) (hr : TabRd w X) :
    Calls Try.prog 59 #[.agg #[.string ⟨X.name.toArray⟩, .slice X.ca X.cols.length X.cc, .slice X.ia X.ixs.length X.ic, .slice X.ha X.chks.length X.hc]] w (RetV (.tuple #[XN.v, .int .i64 v]) w) := by
  have C0 := Box.mk (CpI.start (w := w) X)
  have HR := Box.mk (hr.below C0.out.below)
  have hvv : (v != 0) = true := by simp [h0]
  clear hr
  have x0 := C0.out.blk.cellOf (i := 0) rfl
  have x1 := C0.out.blk.cellOf (i := 1) rfl
  have x2 := C0.out.blk.cellOf (i := 2) rfl
  have x3 := C0.out.blk.cellOf (i := 3) rfl
  go_enter Try.func59, Try.ntmps59
  go_wp2_with fail
  clear x0 x1 x2 x3
  refine (chk_is hv HR.out).mono ?_
  rintro e w2 ⟨rfl, hb⟩
  have C2 := Box.mk (C0.out.step hb)
  clear hb C0 HR hv h0
  go_wp2_with (with_reducible refine wpList_store_row rfl _ _ _ rfl rfl (by kernel_rfl) C2.out.blk2 rfl rfl (cs := [.string ⟨#[]⟩, .slice none 0 0, .slice none 0 0, .slice none 0 0]) rfl rfl (tab_one _ _ _ _ _ _ _ _ _ _) ?_)
  refine bodyPost_ret (results_cell2 rfl _ rfl (C2.out.blk2.row [.string ⟨#[]⟩, .slice none 0 0, .slice none 0 0, .slice none 0 0]) tabT) rfl ?_
  exact ⟨rfl, below_setRow C2.out.below (by omega) _⟩
set_option maxRecDepth 20000 in
set_option maxHeartbeats 2000000 in
theorem checked_ok (X : TabP) (hv : checkT X.t = 0) (w : World) (hr : TabRd w X) :
    Calls Try.prog 59 #[.agg #[.string ⟨X.name.toArray⟩, .slice X.ca X.cols.length X.cc, .slice X.ia X.ixs.length X.ic, .slice X.ha X.chks.length X.hc]] w (RetV (.tuple #[X.v, .int .i64 0]) w) := by
  have C0 := Box.mk (CpI.start (w := w) X)
  have HR := Box.mk (hr.below C0.out.below)
  clear hr
  have x0 := C0.out.blk.cellOf (i := 0) rfl
  have x1 := C0.out.blk.cellOf (i := 1) rfl
  have x2 := C0.out.blk.cellOf (i := 2) rfl
  have x3 := C0.out.blk.cellOf (i := 3) rfl
  go_enter Try.func59, Try.ntmps59
  go_wp2_with fail
  clear x0 x1 x2 x3
  refine (chk_is hv HR.out).mono ?_
  rintro e w2 ⟨rfl, hb⟩
  have C2 := Box.mk (C0.out.step hb)
  clear hb C0 HR hv
  have x0 := C2.out.blk.cellOf (i := 0) rfl
  have x1 := C2.out.blk.cellOf (i := 1) rfl
  have x2 := C2.out.blk.cellOf (i := 2) rfl
  have x3 := C2.out.blk.cellOf (i := 3) rfl
  go_wp2_with (with_reducible refine wpList_store_row rfl _ _ _ rfl rfl (by kernel_rfl) C2.out.blk2 rfl rfl (cs := [.string ⟨X.name.toArray⟩, .slice X.ca X.cols.length X.cc, .slice X.ia X.ixs.length X.ic, .slice X.ha X.chks.length X.hc]) rfl rfl (tab_one _ _ _ _ _ _ _ _ _ _) ?_)
  refine bodyPost_ret (results_cell2 rfl _ rfl (C2.out.blk2.row [.string ⟨X.name.toArray⟩, .slice X.ca X.cols.length X.cc, .slice X.ia X.ixs.length X.ic, .slice X.ha X.chks.length X.hc]) tabT) rfl ?_
  exact ⟨rfl, below_setRow C2.out.below (by omega) _⟩

theorem ok_copy {X : TabP} (h : checkT X.t = 0) : X.cols.length ≤ 8 ∧ X.ixs.length ≤ 4 ∧ X.chks.length ≤ 4 ∧ ∀ p ∈ X.ixs, 0 < p.x.cols.length ∧ p.x.cols.length ≤ 8 := by
  have OK := checkT_ok h
  have h1 := OK.cols8
  have h2 := OK.ixs4
  have h3 := OK.chks4
  have hl : X.t.ixs.length = X.ixs.length := by show (X.ixs.map fun (p : IxP) => p.x).length = _; rw [List.length_map]
  refine ⟨h1, by omega, h3, fun p hp => ?_⟩
  obtain ⟨i, hi, rfl⟩ := List.getElem_of_mem hp
  have h4 := OK.ix (i := i) (by omega)
  have h5 : X.t.ixs.getD i default = (X.ixs.getD i default).x := getD_map_x X.ixs i
  rw [h5, getD_eq hi] at h4
  exact ⟨h4.2.2.1, h4.2.2.2.1⟩
theorem copied_is {X : TabP} (h : checkT X.t = 0) {w : World} (hr : TabRd w X) : Calls Try.prog 58 #[.agg #[.string ⟨X.name.toArray⟩, .slice X.ca X.cols.length X.cc, .slice X.ia X.ixs.length X.ic, .slice X.ha X.chks.length X.hc]] w (RetCopy X.t w) := by
  obtain ⟨h1, h2, h3, h4⟩ := ok_copy h
  exact copied_any X w hr (by omega) (by omega) (by omega) (fun p hp => by have := h4 p hp; omega)

def Tab.addCol (T : Tab) (c : Col) : Tab := ⟨T.name, T.cols ++ [c], T.ixs, T.chks⟩
/-- What AddColumn returns. -/
def addColE (T : Tab) (c : Col) : Int := if checkT T ≠ 0 then checkT T else if c.null = false then 200 else checkT (T.addCol c)
def addColT (T : Tab) (c : Col) : Tab := if addColE T c = 0 then T.addCol c else TN
theorem addCol_bad {T : Tab} {c : Col} {v : Int} (h : checkT T = v) (h0 : v ≠ 0) : addColE T c = v ∧ addColT T c = TN := by
  have : addColE T c = v := by unfold addColE; rw [h, if_pos h0]
  exact ⟨this, by unfold addColT; rw [this, if_neg h0]⟩
theorem addCol_null {T : Tab} {c : Col} (h : checkT T = 0) (hc : c.null = false) : addColE T c = 200 ∧ addColT T c = TN := by
  have : addColE T c = 200 := by unfold addColE; rw [h, if_neg (by decide), if_pos hc]
  exact ⟨this, by unfold addColT; rw [this, if_neg (by decide)]⟩
theorem addCol_go {T : Tab} {c : Col} {v : Int} (h : checkT T = 0) (hc : c.null = true) (hv : checkT (T.addCol c) = v) : addColE T c = v ∧ (v = 0 → addColT T c = T.addCol c) ∧ (v ≠ 0 → addColT T c = TN) := by
  have : addColE T c = v := by unfold addColE; rw [h, if_neg (by decide), if_neg (by simp [hc]), hv]
  exact ⟨this, fun h0 => by unfold addColT; rw [this, if_pos h0], fun h0 => by unfold addColT; rw [this, if_neg h0]⟩
theorem RetTab.nil {w w' : World} {v : Int} (hb : Below w.heap.size w w') : RetTab TN v w (.returned (.tuple #[XN.v, .int .i64 v])) w' := ⟨hb, XN, rfl, XN_rd _, rfl⟩

theorem checked_no2 {X : TabP} {v : Int} (hv : checkT X.t = v) (h0 : v ≠ 0) {n1 n2 n3 : Nat} (e1 : X.cols.length = n1) (e2 : X.ixs.length = n2) (e3 : X.chks.length = n3) {w : World} (hr : TabRd w X) :
    Calls Try.prog 59 #[.agg #[.string ⟨X.name.toArray⟩, .slice X.ca n1 X.cc, .slice X.ia n2 X.ic, .slice X.ha n3 X.hc]] w (RetV (.tuple #[XN.v, .int .i64 v]) w) := by
  subst e1 e2 e3; exact checked_no X hv h0 w hr
theorem checked_ok2 {X : TabP} (hv : checkT X.t = 0) {n1 n2 n3 : Nat} (e1 : X.cols.length = n1) (e2 : X.ixs.length = n2) (e3 : X.chks.length = n3) {w : World} (hr : TabRd w X) :
    Calls Try.prog 59 #[.agg #[.string ⟨X.name.toArray⟩, .slice X.ca n1 X.cc, .slice X.ia n2 X.ic, .slice X.ha n3 X.hc]] w (RetV (.tuple #[.agg #[.string ⟨X.name.toArray⟩, .slice X.ca n1 X.cc, .slice X.ia n2 X.ic, .slice X.ha n3 X.hc], .int .i64 0]) w) := by
  subst e1 e2 e3; exact checked_ok X hv w hr
theorem Blk.grown {w w' : World} {g : Nat} {ty : TypeId} {cs : List Value} {row : Option Nat} (h : Blk w g ty cs) (hg : w.grownBy w' row) (hne : row ≠ some g) : Blk w' g ty cs := h.eq (hg.block g h.lt (fun e => hne e.symm))
/-- Three blocks of the call's own: a table, a box of cells, a table for the result. -/
theorem own3 (w : World) (X : TabP) (cs : List Value) (ty : TypeId) : Own w.heap.size (((w.alloc (.cells #[.string ⟨X.name.toArray⟩, .slice X.ca X.cols.length X.cc, .slice X.ia X.ixs.length X.ic, .slice X.ha X.chks.length X.hc] 26)).alloc (.cells cs.toArray ty)).alloc (.cells #[.string ⟨#[]⟩, .slice none 0 0, .slice none 0 0, .slice none 0 0] 26))
    [BlkP w.heap.size 26 X.cs, BlkP (w.heap.size + 1) ty cs, BlkP (w.heap.size + 2) 26 [.string ⟨#[]⟩, .slice none 0 0, .slice none 0 0, .slice none 0 0]] := by
  have O := (((Own.start w).new X.cs 26).new cs ty).new [.string ⟨#[]⟩, .slice none 0 0, .slice none 0 0, .slice none 0 0] 26
  simp only [List.nil_append, List.cons_append, World.size_alloc] at O
  exact O
end Go.Proofs.Ytpgdfhncigmmbaa
