/-
  The walks of row.place and row.Project. No condition.
-/
import Derived.Test.YtpgdfhncigmmbaaWCmp
namespace Go.Proofs.Ytpgdfhncigmmbaa
open Go.RowKit

def placeB (n : Nat) (k : Int) : Bool := decide (0 ≤ k) && decide (k < (n : Int))
theorem placeB_true {n : Nat} {k : Int} (h : placeB n k = true) : 0 ≤ k ∧ k < (n : Int) := by unfold placeB at h; simpa using h
theorem place_any (a : Option Addr) (n c : Nat) (k : Int) (w : World) : Calls Try.prog 48 #[.slice a n c, .int .i64 k] w fun e w' => e = .returned (.bool (placeB n k)) ∧ w' = w := by
  unfold placeB
  by_cases h : 0 ≤ k
  · have h1 : decide (0 ≤ k) = true := decide_eq_true h
    clear h
    go_enter Try.func48, Try.ntmps48
    go_wp2_with fail
    go_ret
    exact ⟨by rw [h1, Bool.true_and]; rfl, rfl⟩
  · have h1 : decide (0 ≤ k) = false := decide_eq_false h
    clear h
    go_enter Try.func48, Try.ntmps48
    go_wp2_with fail
    go_ret
    exact ⟨by rw [h1, Bool.false_and]; rfl, rfl⟩
theorem place_is {n : Nat} {k : Int} {b : Bool} (h : placeB n k = b) (a : Option Addr) (c : Nat) (w : World) : Calls Try.prog 48 #[.slice a n c, .int .i64 k] w fun e w' => e = .returned (.bool b) ∧ w' = w := by
  subst h; exact place_any a n c k w
/-- What Project returns. -/
def projE (r : List Val) (cols : List Int) : Int := if cols.all (placeB r.length) = true then 0 else 1
def projL (r : List Val) (cols : List Int) : List Val := cols.map fun k => r.getD k.toNat default
def projR (r : List Val) (cols : List Int) : List Val := if cols.all (placeB r.length) = true then projL r cols else []
/-- A row of the call's own, and an error. -/
def RetRE (L : List Val) (v : Int) (w : World) (e : Ending) (w' : World) : Prop := Below w.heap.size w w' ∧ ∃ a c, e = .returned (.tuple #[.slice a L.length c, .int .i64 v]) ∧ w'.ownsRow w.heap.size 59 3 (.slice a L.length c) L.length (recC Val.enc L)
theorem RetRE.nil {v : Int} {w w' : World} (hb : Below w.heap.size w w') : RetRE [] v w (.returned (.tuple #[.slice none 0 0, .int .i64 v])) w' := ⟨hb, none, 0, rfl, World.ownsRow_nil _ _ _ _⟩
theorem proj_bad {r : List Val} {cols : List Int} {k : Nat} {x : Int} (hk : k < cols.length) (hx : cols.getD k 0 = x) (h : placeB r.length x = false) : projE r cols = 1 ∧ projR r cols = [] := by
  have : cols.all (placeB r.length) = false := by
    rw [List.all_eq_false]
    refine ⟨cols[k], List.getElem_mem hk, ?_⟩
    rw [List.getD_eq_getElem?_getD, List.getElem?_eq_getElem hk] at hx
    rw [show cols[k] = x from hx, h]; simp
  unfold projE projR
  rw [this]; exact ⟨rfl, rfl⟩
theorem proj_good {r : List Val} {cols : List Int} (h : ∀ k, k < cols.length → placeB r.length (cols.getD k 0) = true) : projE r cols = 0 ∧ projR r cols = projL r cols := by
  have : cols.all (placeB r.length) = true := by
    rw [List.all_eq_true]
    intro x hx
    obtain ⟨k, hk, rfl⟩ := List.mem_iff_getElem.1 hx
    have := h k hk
    rwa [List.getD_eq_getElem?_getD, List.getElem?_eq_getElem hk] at this
  unfold projE projR
  rw [this]; exact ⟨rfl, rfl⟩
theorem projL_succ (r : List Val) (cols : List Int) (k : Nat) (hk : k < cols.length) : projL r (cols.take (k + 1)) = projL r (cols.take k) ++ [r.getD (cols.getD k 0).toNat default] := by
  unfold projL
  rw [List.take_add_one, List.map_append, List.getElem?_eq_getElem hk, List.getD_eq_getElem?_getD (l := cols), List.getElem?_eq_getElem hk]; rfl

set_option maxRecDepth 20000 in
set_option maxHeartbeats 4000000 in
theorem project_any {r : List Val} {cols : List Int} {a b : Option Addr} {n c m d : Nat} {w : World} (hr : Rd w a n c 3 (recC Val.enc r)) (hc : Rd w b m d 1 (intVals cols)) (hm : m ≤ 1000) : Calls Try.prog 24 #[.slice a n c, .slice b m d] w (RetRE (projR r cols) (projE r cols) w) := by
  have hln := hr.rlen Val.enc_len (by omega)
  have hlm := hc.ilen
  have hnm := hr.lenMax
  have HR := Box.mk hr
  have HC := Box.mk hc
  clear hr hc
  generalize hE : projE r cols = E
  generalize hL : projR r cols = L
  have HEL := Box.mk (And.intro hE hL)
  clear hE hL
  go_enter Try.func24, Try.ntmps24
  go_wp2_with fail
  go_loopw [6, 11] (fun v i wr => ∃ (k : Nat) (a2 : Option Addr) (c2 : Nat), k ≤ m ∧ i = .int .i64 k ∧ v = .slice a2 k c2 ∧ Box ((∀ j, j < k → placeB r.length (cols.getD j 0) = true) ∧ Own w.heap.size wr [RowP 59 3 a2 k c2 (recC Val.enc (projL r (cols.take k)))] ∧ Below w.heap.size w wr)) (fun _ i _ => m - (intOf i).toNat)
  case atStart => exact ⟨0, none, 0, Nat.zero_le _, rfl, rfl, ⟨fun j hj => by omega, (Own.start w).nilRow _ _, Below.refl _ _⟩⟩
  case round =>
    obtain ⟨k, a2, c2, hk, rfl, rfl, HB⟩ := hrel
    by_cases hlt : k < m
    · obtain ⟨g, off, rfl, hcc⟩ := (HC.out.below HB.out.2.2 (Nat.le_refl _)).intAtD k hlt
      generalize hx : cols.getD k 0 = x at *
      cases hp : placeB r.length x with
      | false =>
        obtain ⟨h1, h2⟩ := proj_bad (r := r) (by omega) hx hp
        obtain rfl := HEL.out.1.symm.trans h1
        obtain rfl := HEL.out.2.symm.trans h2
        rw [hln] at hp
        have HP := Box.mk hp
        clear hp h1 h2 hx
        go_wp2_with fail
        refine (place_is HP.out _ _ _).mono ?_
        rintro e w1 ⟨rfl, rfl⟩
        go_wp2_with fail
        go_ret2
        exact RetRE.nil HB.out.2.2
      | true =>
        have HA := Box.mk (show ∀ j, j < k + 1 → placeB r.length (cols.getD j 0) = true from fun j hj => by
          by_cases e : j = k
          · subst e; rw [hx]; exact hp
          · exact HB.out.1 j (by omega))
        have HS := Box.mk (show projL r (cols.take (k + 1)) = projL r (cols.take k) ++ [r.getD x.toNat default] from by rw [← hx]; exact projL_succ r cols k (by omega))
        obtain ⟨hx0, hx1⟩ := placeB_true hp
        obtain ⟨X, rfl⟩ := Int.eq_ofNat_of_zero_le hx0
        rw [hln] at hp hx1
        have hX : X < n := by omega
        have HP := Box.mk hp
        obtain ⟨g2, off2, hca, hgb, hvc⟩ := (HR.out.below HB.out.2.2 (Nat.le_refl _)).recAt Val.enc_len (by omega) X hX
        rw [show (X : Int).toNat = X from rfl] at HS
        generalize hy : r.getD X default = y at *
        obtain ⟨yk, yn, ys⟩ := y
        have c0 := hvc 0 _ rfl
        have c1 := hvc 1 _ rfl
        have c2' := hvc 2 _ rfl
        simp only [Nat.add_zero] at c0 c1 c2'
        subst hca
        have HOA := Box.mk (And.intro (HB.out.2.1.alloc (.cells #[.int .i64 yk, .int .i64 yn, .string ⟨ys.toArray⟩] 59)) (HB.out.2.2.alloc HB.out.2.2.size (.cells #[.int .i64 yk, .int .i64 yn, .string ⟨ys.toArray⟩] 59)))
        have SRC := Box.mk (Src.ofRd (P := Try.prog) (rd_newAt (w := wr) (arr := #[.int .i64 yk, .int .i64 yn, .string ⟨ys.toArray⟩]) (cs := recC Val.enc [⟨yk, yn, ys⟩]) (e := 59) (n := 1) (g := wr.heap.size) (size := 3) rfl rfl rfl (by simp [maxLen])) (recC_one Val.enc_one _))
        clear hp hx hy hvc hgb hx0 hx1
        go_wp2_with fail
        refine (place_is HP.out _ _ _).mono ?_
        rintro e w1 ⟨rfl, rfl⟩
        go_wp2_with (first | (with_reducible show wpList _ _ _ _ _ _; refine wpList_lit_one rfl 28 (.tmp 23) rfl sl_row (cs := [.int .i64 yk, .int .i64 yn, .string ⟨ys.toArray⟩]) rfl rfl (by omega) (by omega) ?_) | (at_builtin; refine wpList_append_src rfl _ _ 28 28 rfl sl_row (.inl sl_row.ht) rfl (HOA.out.1.row 0 rfl) rfl SRC.out (by omega) (by unfold maxLen; omega) (by simp) ?_; intro a3 c3 w3 hown3 hgr3 hnew3; have HG := Box.mk (HOA.out.1.grown 0 rfl hown3 hgr3 hnew3); clear hown3 hgr3 hnew3))
        refine ⟨⟨k + 1, a3, c3, hlt, by go_num, rfl, ⟨HA.out, ?_, HOA.out.2.trans HG.out.2⟩⟩, by simp [intOf]; omega⟩
        rw [HS.out, recC_append]; exact HG.out.1
    · obtain rfl : k = m := by omega
      obtain ⟨h1, h2⟩ := proj_good (r := r) (cols := cols) (fun j hj => HB.out.1 j (by omega))
      obtain rfl := HEL.out.1.symm.trans h1
      have h3 := HEL.out.2.symm.trans h2
      have h4 : cols.take k = cols := by rw [List.take_of_length_le (by omega)]
      have hO := HB.out.2
      rw [h4, ← h3] at hO
      have hLk : L.length = k := by rw [h3]; unfold projL; simp; omega
      have HO := Box.mk hO
      clear hO h1 h2
      go_wp2_with fail
      go_ret2
      refine ⟨HO.out.2, a2, c2, by rw [hLk]; rfl, ?_⟩
      rw [hLk]; exact HO.out.1.rowB 0 rfl
end Go.Proofs.Ytpgdfhncigmmbaa
