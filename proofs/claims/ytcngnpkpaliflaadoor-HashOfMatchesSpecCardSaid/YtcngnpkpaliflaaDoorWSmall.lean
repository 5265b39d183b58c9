/-
  The walks of the reference's functions on bytes and texts. No condition.
-/
import Derived.Test.YtcngnpkpaliflaaDoorWWords
namespace Go.Proofs.YtcngnpkpaliflaaDoor
open Go.RowKit

/-- What a function that makes a byte slice returns. -/
def RetB (l : List UInt8) (w : World) (e : Ending) (w' : World) : Prop :=
  ∃ a cap, e = .returned (.slice a l.length cap) ∧ w'.ownsRow w.heap.size 5 1 (.slice a l.length cap) l.length (byteVals l) ∧ Below w.heap.size w w'
theorem retB_mk {l l' : List UInt8} {w w' : World} {e : Ending} {a : Option Addr} {m cap base : Nat} {xs : List Value} (he : e = .returned (.slice a m cap)) (hown : w'.ownsRow base 5 1 (.slice a m cap) m xs) (hb : Below w.heap.size w w')
    (hbase : w.heap.size ≤ base) (hm : m = l.length) (hx : xs = byteVals l) (hl : l = l') : RetB l' w e w' := by
  subst hm; subst hx; subst hl; exact ⟨a, cap, he, own_base hown hbase, hb⟩
theorem RetB.got {l : List UInt8} {w w' : World} {e : Ending} (h : RetB l w e w') : GotB l w e w' := by
  obtain ⟨a, cap, he, ho, hb⟩ := h; exact ⟨a, cap, he, Rd.ofOwn ho, hb⟩

theorem five_length (m : Nat) : (five m).length = 5 := by simp [five]
theorem fives_length (l : List Int) : (fives l).length = 5 * l.length := by
  induction l with
  | nil => rfl
  | cons x l ih => rw [fives, List.flatMap_cons, List.length_append, five_length]; unfold fives at ih; rw [ih, List.length_cons]; omega

theorem five_byte (n : Int) (k : Nat) (hk : k < 5) : IntKind.u8.wrap (n / 2 ^ (32 - 8 * k)) = ((UInt8.ofNat (low40 n / 2 ^ (32 - 8 * k) % 256)).toNat : Int) := by
  have e : ∀ x : Int, IntKind.u8.wrap x = x % 256 := fun x => by simp [IntKind.wrap, IntKind.bits, IntKind.signed]
  have f : (UInt8.ofNat (low40 n / 2 ^ (32 - 8 * k) % 256)).toNat = low40 n / 2 ^ (32 - 8 * k) % 256 := by simp
  rw [e, f]
  unfold low40
  match k, hk with
  | 0, _ => simp only [Nat.mul_zero, Nat.sub_zero]; omega
  | 1, _ => simp only [Nat.mul_one, Nat.reduceSub]; omega
  | 2, _ => simp only [Nat.reduceMul, Nat.reduceSub]; omega
  | 3, _ => simp only [Nat.reduceMul, Nat.reduceSub]; omega
  | 4, _ => simp only [Nat.reduceMul, Nat.reduceSub]; omega

set_option maxRecDepth 20000 in
set_option maxHeartbeats 1000000 in
theorem five_any (n : Int) (_h1 : -9223372036854775808 ≤ n) (_h2 : n ≤ 9223372036854775807) (w : World) : Calls Tryd.prog 42 #[.int .i64 n] w (RetB (five (low40 n)) w) := by
  go_enter Tryd.func42, Tryd.ntmps42
  go_wp2_with fail
  go_loopw [3, 4] (fun v i wr => ∃ (k : Nat) (a : Option Addr) (cap : Nat), k ≤ 5 ∧ i = .int .i64 k ∧ v = .slice a k cap ∧ wr.ownsRow w.heap.size 5 1 (.slice a k cap) k (byteVals ((five (low40 n)).take k)) ∧ Below w.heap.size w wr)
    (fun _ i _ => 5 - (intOf i).toNat)
  case atStart => exact ⟨0, none, 0, Nat.zero_le _, rfl, rfl, World.ownsRow_nil _ _ _ _, Below.refl _ _⟩
  case round =>
    obtain ⟨k, a, cap, hk, rfl, rfl, hown, hbel⟩ := hrel
    have hsz := hbel.size
    by_cases hlt : k < 5
    · have hbyte := five_byte n k hlt
      have hS := Lib.hid (show (five (low40 n)).take (k + 1) = (five (low40 n)).take k ++ [UInt8.ofNat (low40 n / 2 ^ (32 - 8 * k) % 256)] from by
        rw [List.take_succ_eq_append_getElem (by rw [five_length]; exact hlt)]; simp [five])
      generalize UInt8.ofNat (low40 n / 2 ^ (32 - 8 * k) % 256) = c at *
      go_wp2_with (at_builtin; refine wpList_append_src rfl _ _ 22 22 rfl sl22 (.inl sl22.ht) rfl (hown.alloc _) rfl (Src.oneNew _ _ _ rfl) (by omega) (by unfold maxLen; omega) (by simp; omega) ?_; intro a1 cap1 w1 hown1 hgr1 _)
      have hb2 := below_grown (hbel.alloc hsz _) hgr1 (hown.alloc _) (Nat.le_refl _) (by simp; omega)
      go_roundw
      case rel => exact ⟨k + 1, a1, cap1, by omega, by go_num, rfl, by rw [hS.out, byteVals_snoc]; exact hown1, hb2⟩
      case measure => simp [intOf]; omega
    · have h5 : k = 5 := by omega
      subst h5
      go_wp2_with fail
      go_ret
      exact retB_mk (l := five (low40 n)) rfl hown hbel (Nat.le_refl _) (five_length _).symm rfl rfl

set_option maxRecDepth 20000 in
set_option maxHeartbeats 2000000 in
theorem bytesOf_any (l : List Int) (a : Option Addr) (n cap : Nat) (w : World) (hrd : Rd w a n cap 1 (intVals l)) (hx : Hid (∀ x ∈ l, -9223372036854775808 ≤ x ∧ x ≤ 9223372036854775807)) (hn : n ≤ 1099511627776) :
    Calls Tryd.prog 25 #[.slice a n cap] w (RetB (fives l) w) := by
  have Hl : Hid (l.length = n) := by have := hrd.hlen; rw [intVals_length] at this; show _ = _; omega
  go_enter Tryd.func25, Tryd.ntmps25
  go_wp2_with fail
  go_loopw [3, 4] (fun v i wr => ∃ (k m : Nat) (av : Option Addr) (cv : Nat), k ≤ n ∧ m = 5 * k ∧ i = .int .i64 k ∧ v = .slice av m cv ∧ wr.ownsRow w.heap.size 5 1 (.slice av m cv) m (byteVals (fives (l.take k))) ∧ Below w.heap.size w wr)
    (fun _ i _ => n - (intOf i).toNat)
  case atStart => exact ⟨0, 0, none, 0, Nat.zero_le _, rfl, rfl, rfl, World.ownsRow_nil _ _ _ _, Below.refl _ _⟩
  case round =>
    obtain ⟨k, m, av, cv, hk, hm, rfl, rfl, hown, hbel⟩ := hrel
    have Hm := Lib.hid hm; clear hm
    have hsz := hbel.size
    have hm2 : m ≤ 5 * n := by have := Hm.out; omega
    by_cases hlt : k < n
    · obtain ⟨b, off, rfl, hc⟩ := (hrd.below hbel (Nat.le_refl _)).intAt k (by rw [Hl.out]; exact hlt)
      have hS := Lib.hid (show fives (l.take (k + 1)) = fives (l.take k) ++ five (low40 (l[k]'(by rw [Hl.out]; exact hlt))) from by
        rw [List.take_succ_eq_append_getElem (by rw [Hl.out]; exact hlt), fives, List.flatMap_append]; simp [fives])
      have hxk := hx.out (l[k]'(by rw [Hl.out]; exact hlt)) (List.getElem_mem _)
      generalize (l[k]'(by rw [Hl.out]; exact hlt)) = x at *
      go_wp2_with fail
      refine (five_any x hxk.1 hxk.2 _).mono ?_
      rintro e w1 ⟨a2, c2, rfl, hown2, hb2⟩
      rw [five_length] at hown2 ⊢
      go_wp2_with (at_builtin; refine wpList_append_src rfl _ _ 22 22 rfl sl22 (.inl sl22.ht) rfl (own_below hown hb2 (Nat.le_refl _)) rfl (Src.ofRd (Rd.ofOwn hown2) (byteVals_one _)) (by omega) (by unfold maxLen; omega) (by have := hb2.size; omega) ?_; intro a3 cap3 w3 hown3 hgr3 _)
      have hb3 := below_grown (hbel.trans (hb2.mono hsz)) hgr3 (own_below hown hb2 (Nat.le_refl _)) (Nat.le_refl _) (by have := hb2.size; omega)
      go_roundw
      case rel => exact ⟨k + 1, m + 5, a3, cap3, by omega, by have := Hm.out; omega, by go_num, rfl, by rw [hS.out, byteVals_append]; exact hown3, hb3⟩
      case measure => simp [intOf]; omega
    · have hkn : k = n := by omega
      subst hkn
      have hA := Lib.hid (show l.take k = l from List.take_of_length_le (by rw [Hl.out]; exact Nat.le_refl _))
      rw [hA.out] at hown
      go_wp2_with fail
      go_ret
      exact retB_mk (l := fives l) rfl hown hbel (Nat.le_refl _) (by rw [fives_length, Hl.out]; exact Hm.out) rfl rfl

set_option maxRecDepth 20000 in
set_option maxHeartbeats 1000000 in
theorem refWords_any (l : List Int) (a : Option Addr) (n cap : Nat) (w : World) (hrd : Rd w a n cap 1 (intVals l)) (hx : Hid (∀ x ∈ l, -9223372036854775808 ≤ x ∧ x ≤ 9223372036854775807)) (hn : n ≤ 1099511627776) :
    Calls Tryd.prog 24 #[.slice a n cap] w (RetV (.int .i64 (crc (fives l) : Int)) w) := by
  go_enter Tryd.func24, Tryd.ntmps24
  go_wp2_with fail
  refine (bytesOf_any l a n cap _ hrd hx hn).mono ?_
  rintro e w1 ⟨a2, c2, rfl, hown2, hb2⟩
  go_wp2_with fail
  refine (refCrc_any (fives l) _ _ _ _ (Rd.ofOwn hown2)).mono ?_
  rintro e w2 ⟨rfl, rfl⟩
  go_wp2_with fail
  go_ret
  exact ⟨rfl, hb2⟩

/-- Few strings, each short. -/
def fewB (l : List (List UInt8)) : Bool := decide (l.length ≤ 12 ∧ ∀ s ∈ l, s.length ≤ 400)

set_option maxRecDepth 20000 in
set_option maxHeartbeats 1000000 in
theorem few_any (l : List (List UInt8)) (a : Option Addr) (n cap : Nat) (w : World) (hrd : Rd w a n cap 1 (bstrVals l)) (hs : Hid (∀ s ∈ l, s.length ≤ 9223372036854775807)) :
    Calls Tryd.prog 18 #[.slice a n cap] w fun e w' => e = .returned (.bool (fewB l)) ∧ w = w' := by
  have Hl : Hid (l.length = n) := by have := hrd.hlen; rw [bstrVals_length] at this; show _ = _; omega
  have hmax := hrd.lenMax
  by_cases h12 : n ≤ 12
  · go_enter Tryd.func18, Tryd.ntmps18
    go_wp2_with fail
    go_loop [3] (fun i => ∃ k : Nat, k ≤ n ∧ i = .int .i64 k ∧ Hid (∀ s ∈ l.take k, s.length ≤ 400)) (fun i => n - (intOf i).toNat)
    case atStart => exact ⟨0, Nat.zero_le _, rfl, by intro s hs; simp at hs⟩
    case round =>
      obtain ⟨k, hk, rfl, HK⟩ := hrel
      by_cases hlt : k < n
      · obtain ⟨b, off, rfl, hc⟩ := hrd.strAt k (by rw [Hl.out]; exact hlt)
        have hsk := hs.out (l[k]'(by rw [Hl.out]; exact hlt)) (List.getElem_mem _)
        have hT := Lib.hid (show l.take (k + 1) = l.take k ++ [(l[k]'(by rw [Hl.out]; exact hlt))] from List.take_succ_eq_append_getElem (by rw [Hl.out]; exact hlt))
        have hM := Lib.hid (show (l[k]'(by rw [Hl.out]; exact hlt)) ∈ l from List.getElem_mem _)
        generalize (l[k]'(by rw [Hl.out]; exact hlt)) = x at *
        have hxs : (⟨x.toArray⟩ : ByteArray).size = x.length := str_size x
        have Hxs := Lib.hid hxs; clear hxs
        by_cases hx4 : x.length ≤ 400
        · have hz : (⟨x.toArray⟩ : ByteArray).size ≤ 400 := by rw [Hxs.out]; exact hx4
          go_wp2_with fail
          go_round
          case rel => exact ⟨k + 1, by omega, by go_num, by
            show ∀ s ∈ _, _
            rw [hT.out]; intro s hs
            rcases List.mem_append.1 hs with h | h
            · exact HK.out s h
            · simp at h; subst h; exact hx4⟩
          case measure => simp [intOf]; omega
        · have hz : 400 < (⟨x.toArray⟩ : ByteArray).size := by rw [Hxs.out]; omega
          have hz2 : (⟨x.toArray⟩ : ByteArray).size ≤ 9223372036854775807 := by rw [Hxs.out]; omega
          have hF := Lib.hid (show fewB l = false from decide_eq_false (fun h => hx4 (h.2 x hM.out)))
          go_wp2_with fail
          go_ret
          exact ⟨by rw [hF.out]; rfl, rfl⟩
      · have hkn : k = n := by omega
        subst hkn
        have hF := Lib.hid (show fewB l = true from decide_eq_true ⟨by rw [Hl.out]; exact h12, fun s hs => HK.out s (by rw [List.take_of_length_le (by rw [Hl.out]; exact Nat.le_refl _)]; exact hs)⟩)
        go_wp2_with fail
        go_ret
        exact ⟨by rw [hF.out]; rfl, rfl⟩
  · have hF := Lib.hid (show fewB l = false from decide_eq_false (fun h => h12 (by have := h.1; rw [Hl.out] at this; exact this)))
    go_enter Tryd.func18, Tryd.ntmps18
    go_wp2_with fail
    go_ret
    exact ⟨by rw [hF.out]; rfl, rfl⟩

/-- The bytewise exclusive or, of the length of the first one. -/
def xorB (a b : List UInt8) : List UInt8 := (List.range a.length).map fun i => if i < b.length then a.getD i 0 ^^^ b.getD i 0 else a.getD i 0
theorem xorB_length (a b : List UInt8) : (xorB a b).length = a.length := by simp [xorB]

set_option maxRecDepth 20000 in
set_option maxHeartbeats 2000000 in
theorem xor_any (l m : List UInt8) (a : Option Addr) (n cap : Nat) (b : Option Addr) (n2 cap2 : Nat) (w : World) (hrd : Rd w a n cap 1 (byteVals l)) (hrd2 : Rd w b n2 cap2 1 (byteVals m)) (hn : n ≤ 1099511627776) :
    Calls Tryd.prog 28 #[.slice a n cap, .slice b n2 cap2] w (RetB (xorB l m) w) := by
  have Hl := Lib.hid hrd.blen
  have Hm := Lib.hid hrd2.blen
  have hmax2 := hrd2.lenMax
  go_enter Tryd.func28, Tryd.ntmps28
  go_wp2_with fail
  go_loopw [5, 6] (fun v i wr => ∃ (k : Nat) (av : Option Addr) (cv : Nat), k ≤ n ∧ i = .int .i64 k ∧ v = .slice av k cv ∧ wr.ownsRow w.heap.size 5 1 (.slice av k cv) k (byteVals ((xorB l m).take k)) ∧ Below w.heap.size w wr)
    (fun _ i _ => n - (intOf i).toNat)
  case atStart => exact ⟨0, none, 0, Nat.zero_le _, rfl, rfl, World.ownsRow_nil _ _ _ _, Below.refl _ _⟩
  case round =>
    obtain ⟨k, av, cv, hk, rfl, rfl, hown, hbel⟩ := hrel
    have hsz := hbel.size
    by_cases hlt : k < n
    · obtain ⟨g, off, rfl, hc⟩ := (hrd.below hbel (Nat.le_refl _)).byteN k hlt
      have hS := Lib.hid (show (xorB l m).take (k + 1) = (xorB l m).take k ++ [if k < m.length then l.getD k 0 ^^^ m.getD k 0 else l.getD k 0] from by
        rw [List.take_succ_eq_append_getElem (by rw [xorB_length, Hl.out]; exact hlt)]; simp [xorB])
      rw [Hm.out] at hS
      have h256 : (l.getD k 0).toNat < 256 := (l.getD k 0).toNat_lt
      by_cases h2 : k < n2
      · obtain ⟨g2, off2, rfl, hc2⟩ := (hrd2.below hbel (Nat.le_refl _)).byteN k h2
        rw [if_pos h2] at hS
        have h2562 : (m.getD k 0).toNat < 256 := (m.getD k 0).toNat_lt
        have hx : bits .xor .u8 ((l.getD k 0).toNat : Int) ((m.getD k 0).toNat : Int) = (((l.getD k 0 ^^^ m.getD k 0).toNat : Nat) : Int) := by rw [u8_xor_nat _ _ h256 h2562, UInt8.toNat_xor]
        generalize l.getD k 0 ^^^ m.getD k 0 = z at *
        generalize (l.getD k 0).toNat = x at *
        generalize (m.getD k 0).toNat = y at *
        go_wp2_with (at_builtin; refine wpList_append_src rfl _ _ 22 22 rfl sl22 (.inl sl22.ht) rfl (hown.alloc _) rfl (Src.oneNew _ _ _ rfl) (by omega) (by unfold maxLen; omega) (by simp; omega) ?_; intro a1 cap1 w1 hown1 hgr1 _)
        have hb2 := below_grown (hbel.alloc hsz _) hgr1 (hown.alloc _) (Nat.le_refl _) (by simp; omega)
        go_roundw
        case rel => exact ⟨k + 1, a1, cap1, by omega, by go_num, rfl, by rw [hS.out, byteVals_snoc]; exact hown1, hb2⟩
        case measure => simp [intOf]; omega
      · rw [if_neg h2] at hS
        generalize l.getD k 0 = z at *
        go_wp2_with (at_builtin; refine wpList_append_src rfl _ _ 22 22 rfl sl22 (.inl sl22.ht) rfl (hown.alloc _) rfl (Src.oneNew _ _ _ rfl) (by omega) (by unfold maxLen; omega) (by simp; omega) ?_; intro a1 cap1 w1 hown1 hgr1 _)
        have hb2 := below_grown (hbel.alloc hsz _) hgr1 (hown.alloc _) (Nat.le_refl _) (by simp; omega)
        go_roundw
        case rel => exact ⟨k + 1, a1, cap1, by omega, by go_num, rfl, by rw [hS.out, byteVals_snoc]; exact hown1, hb2⟩
        case measure => simp [intOf]; omega
    · have hkn : k = n := by omega
      subst hkn
      have hA := Lib.hid (show (xorB l m).take k = xorB l m from List.take_of_length_le (by rw [xorB_length, Hl.out]; exact Nat.le_refl _))
      rw [hA.out] at hown
      go_wp2_with fail
      go_ret
      exact retB_mk (l := xorB l m) rfl hown hbel (Nat.le_refl _) (by rw [xorB_length, Hl.out]) rfl rfl

theorem bytes_app (y x : List UInt8) : (⟨y.toArray⟩ : ByteArray) ++ ⟨x.toArray⟩ = ⟨(y ++ x).toArray⟩ := by
  apply ByteArray.ext
  rw [ByteArray.data_append]; simp

set_option maxRecDepth 20000 in
set_option maxHeartbeats 1000000 in
theorem joined_any (l : List (List UInt8)) (a : Option Addr) (n cap : Nat) (w : World) (hrd : Rd w a n cap 1 (bstrVals l)) (hs : l.flatten.length ≤ 1099511627776) :
    Calls Tryd.prog 21 #[.slice a n cap] w fun e w' => e = .returned (.string ⟨l.flatten.toArray⟩) ∧ w = w' := by
  have Hl : Hid (l.length = n) := by have := hrd.hlen; rw [bstrVals_length] at this; show _ = _; omega
  have hmax := hrd.lenMax
  go_enter Tryd.func21, Tryd.ntmps21
  go_wp2_with fail
  go_loop [3, 4] (fun v i => ∃ k : Nat, k ≤ n ∧ i = .int .i64 k ∧ v = .string ⟨(l.take k).flatten.toArray⟩) (fun _ i => n - (intOf i).toNat)
  case atStart => exact ⟨0, Nat.zero_le _, rfl, by simp⟩
  case round =>
    obtain ⟨k, hk, rfl, rfl⟩ := hrel
    by_cases hlt : k < n
    · obtain ⟨b, off, rfl, hc⟩ := hrd.strAt k (by rw [Hl.out]; exact hlt)
      have hT := Lib.hid (show (l.take (k + 1)).flatten = (l.take k).flatten ++ (l[k]'(by rw [Hl.out]; exact hlt)) from by rw [List.take_succ_eq_append_getElem (by rw [Hl.out]; exact hlt), List.flatten_append, List.flatten_cons, List.flatten_nil, List.append_nil])
      have hle : (l.take (k + 1)).flatten.length ≤ l.flatten.length := by
        conv => rhs; rw [← List.take_append_drop (k + 1) l]
        rw [List.flatten_append, List.length_append]; omega
      rw [hT.out, List.length_append] at hle
      generalize (l[k]'(by rw [Hl.out]; exact hlt)) = x at *
      generalize (l.take k).flatten = y at *
      have Ha := Lib.hid (bytes_app y x)
      go_wp2_with fail
      go_round
      case rel => exact ⟨k + 1, by omega, by go_num, by rw [Ha.out, hT.out]⟩
      case measure => simp [intOf]; omega
    · have hkn : k = n := by omega
      subst hkn
      have hA := Lib.hid (show l.take k = l from List.take_of_length_le (by rw [Hl.out]; exact Nat.le_refl _))
      rw [hA.out]
      go_wp2_with fail
      go_ret
      exact ⟨rfl, rfl⟩
end Go.Proofs.YtcngnpkpaliflaaDoor
