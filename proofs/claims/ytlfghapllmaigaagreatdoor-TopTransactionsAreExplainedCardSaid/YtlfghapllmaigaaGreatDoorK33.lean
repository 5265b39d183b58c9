/-
  The walks of memory's note, put, Store, Pending, at a memory of two lines of zeros; The laying of strconv.Itoa at this program, written by the kit's plain mode (lay-plain) out of one laying command; The walks of memory's Store, Pending, of value's Print at -3, of awake; How the desk lies; the walk of its rows. Conditions: each theorem's own hypotheses.
-/
import Derived.Test.YtlfghapllmaigaaGreatDoorK32
import Derived.Shelf.Strconv.Itoa3
import Derived.Ground.NamesProg
import Derived.Test.YtlfghapllmaigaaGreatDoorProg
import Derived.Lib.AppendIntMem
import Derived.Test.YtlfghapllmaigaaGreatDoorK23
set_option linter.unusedVariables false
set_option linter.unusedSimpArgs false
namespace Go.Proofs.YtlfghapllmaigaaGreatDoor
section
open Go.RowKit Go.Maps
attribute [local go_sem] Oper.semAt_some
theorem aggEv:AggT Tryz.prog 239 12:=⟨by kernel_rfl,by kernel_rfl⟩
theorem sl_ev:SlT Tryz.prog 174 239 (.agg #[.int .i64 0,.int .i64 0,.int .i64 0,.int .i64 0,.int .i64 0,.int .i64 0,.int .i64 0,.int .i64 0,.int .i64 0,.int .i64 0,.int .i64 0,.int .i64 0]) 12 96:=⟨by kernel_rfl,by kernel_rfl,rfl⟩
set_option maxRecDepth 20000 in
set_option maxHeartbeats 4000000 in
theorem note_m {B:Nat} {w:World} {g b bm:Nat} {l:List HP} (O:Own B w (BlkP g 176 (memC b bm none 0 0)::l)):Calls Tryz.prog 85 #[.pointer (some ⟨g,0,none⟩),.agg #[.int .i64 1,.int .i64 9,.int .i64 5,.int .i64 0,.int .i64 0,.int .i64 0,.int .i64 0,.int .i64 0,.int .i64 0,.int .i64 0,.int .i64 0,.int .i64 0]] w
  fun e w'=>e=.returned (.tuple #[])∧Below B w w'∧∃ea ec,Own B w' (BlkP g 176 (memC b bm ea 1 ec)::l):=by
 have O1:=(O.nilRow 239 12).new [.int .i64 1,.int .i64 9,.int .i64 5,.int .i64 0,.int .i64 0,.int .i64 0,.int .i64 0,.int .i64 0,.int .i64 0,.int .i64 0,.int .i64 0,.int .i64 0] 239
 have O2:Own B (w.alloc (.cells #[.int .i64 1,.int .i64 9,.int .i64 5,.int .i64 0,.int .i64 0,.int .i64 0,.int .i64 0,.int .i64 0,.int .i64 0,.int .i64 0,.int .i64 0,.int .i64 0] 239)) (BlkP g 176 (memC b bm none 0 0)::RowP 239 12 none 0 0 []::BlkP w.heap.size 239 [.int .i64 1,.int .i64 9,.int .i64 5,.int .i64 0,.int .i64 0,.int .i64 0,.int .i64 0,.int .i64 0,.int .i64 0,.int .i64 0,.int .i64 0,.int .i64 0]::l):=O1.perm (by
  simp only [List.cons_append,List.append_assoc,List.nil_append]
  exact List.Perm.cons _ (List.perm_append_comm (l₁:=l) (l₂:=[_,_])))
 have HO:=Box.mk O2
 have B1:=Box.mk ((Below.refl B w).alloc O.1 (.cells #[.int .i64 1,.int .i64 9,.int .i64 5,.int .i64 0,.int .i64 0,.int .i64 0,.int .i64 0,.int .i64 0,.int .i64 0,.int .i64 0,.int .i64 0,.int .i64 0] 239))
 clear O O1 O2
 go_enter Tryz.func85,Tryz.ntmps85
 go_upto_region 1 with fail
 generalize w.heap.size=gx at *
 generalize (w.alloc (.cells #[.int .i64 1,.int .i64 9,.int .i64 5,.int .i64 0,.int .i64 0,.int .i64 0,.int .i64 0,.int .i64 0,.int .i64 0,.int .i64 0,.int .i64 0,.int .i64 0] 239))=w1 at *
 have HF0:=Box.mk (And.intro (show Own B w1.drew (BlkP g 176 (memC b bm none 0 0)::RowP 239 12 none 0 0 []::BlkP gx 239 [.int .i64 1,.int .i64 9,.int .i64 5,.int .i64 0,.int .i64 0,.int .i64 0,.int .i64 0,.int .i64 0,.int .i64 0,.int .i64 0,.int .i64 0,.int .i64 0]::l) from HO.out.drew) B1.out.drew)
 have HS0:Own B w1.drew (BlkP gx 239 [.int .i64 1,.int .i64 9,.int .i64 5,.int .i64 0,.int .i64 0,.int .i64 0,.int .i64 0,.int .i64 0,.int .i64 0,.int .i64 0,.int .i64 0,.int .i64 0]::l)∧Below B w w1.drew:=⟨(HF0.out.1.drop 0).drop 0,HF0.out.2⟩
 clear HO B1
 refine wp_region_held_drew (S:=fun w'=>(Own B w' (BlkP gx 239 [.int .i64 1,.int .i64 9,.int .i64 5,.int .i64 0,.int .i64 0,.int .i64 0,.int .i64 0,.int .i64 0,.int .i64 0,.int .i64 0,.int .i64 0,.int .i64 0]::l)∧Below B w w')) (by kernel_rfl) HS0 (fun _=>?_)
 generalize w1.drew=wd at *
 refine tw 0 rfl HS0 ?_
 conv=>arg 8;simp [go_sem]
 refine tw 1 rfl HS0 ?_
 conv=>arg 8;simp [go_sem]
 refine tw 2 rfl HS0 ?_
 conv=>arg 8;simp [go_sem]
 refine tw 3 rfl HS0 ?_
 conv=>arg 8;simp [go_sem]
 refine tk 5 (v:=.agg #[.int .i64 1,.int .i64 9,.int .i64 5,.int .i64 0,.int .i64 0,.int .i64 0,.int .i64 0,.int .i64 0,.int .i64 0,.int .i64 0,.int .i64 0,.int .i64 0]) rfl (yieldsIf_load_agg (by rfl) 239 (.tmp 3) rfl aggEv rfl (cs:=[.int .i64 1,.int .i64 9,.int .i64 5,.int .i64 0,.int .i64 0,.int .i64 0,.int .i64 0,.int .i64 0,.int .i64 0,.int .i64 0,.int .i64 0,.int .i64 0]) rfl (fun w' hS j u h=>by rw [addN];simpa using (hS.1.blk 0 rfl).1.cellOf h)) (HS0) ?_
 conv=>arg 8;simp [go_sem]
 refine wpAnyH_ready (rs:=[4,6]) (by kernel_rfl) (by simp) ?_
 refine AllReadyH.cons rfl (fun K' hK'=>?_) (AllReadyH.cons rfl (fun K' hK'=>?_) AllReadyH.nil)
 ·refine oper_load1 (by rfl) 174 (.tmp 7) rfl (by kernel_rfl) rfl ((HF0.out.1.blk 0 rfl).1.cellOf (i:=3) rfl) ?_
  have HT21:=HS0
  refine hK'.out _ _ HT21 (fun _=>?_)
  clear hK' K'
  conv=>arg 8;simp [go_sem]
  refine ar 6 rfl fun K' hK'=>?_
  refine oper_litA (by rfl) 174 (.tmp 9) rfl sl_ev (cs:=[.int .i64 1,.int .i64 9,.int .i64 5,.int .i64 0,.int .i64 0,.int .i64 0,.int .i64 0,.int .i64 0,.int .i64 0,.int .i64 0,.int .i64 0,.int .i64 0]) rfl rfl (by omega) (by omega) ?_
  have HF22:=Box.mk (And.intro (HF0.out.1.alloc (.cells #[.int .i64 1,.int .i64 9,.int .i64 5,.int .i64 0,.int .i64 0,.int .i64 0,.int .i64 0,.int .i64 0,.int .i64 0,.int .i64 0,.int .i64 0,.int .i64 0] 239)) (HF0.out.2.alloc HF0.out.1.1 (.cells #[.int .i64 1,.int .i64 9,.int .i64 5,.int .i64 0,.int .i64 0,.int .i64 0,.int .i64 0,.int .i64 0,.int .i64 0,.int .i64 0,.int .i64 0,.int .i64 0] 239)))
  have HT23:=And.intro (HT21.1.alloc (.cells #[.int .i64 1,.int .i64 9,.int .i64 5,.int .i64 0,.int .i64 0,.int .i64 0,.int .i64 0,.int .i64 0,.int .i64 0,.int .i64 0,.int .i64 0,.int .i64 0] 239)) (HT21.2.alloc HT21.1.1 (.cells #[.int .i64 1,.int .i64 9,.int .i64 5,.int .i64 0,.int .i64 0,.int .i64 0,.int .i64 0,.int .i64 0,.int .i64 0,.int .i64 0,.int .i64 0,.int .i64 0] 239))
  refine hK'.out _ _ HT23 (fun _=>?_)
  clear hK' K'
  conv=>arg 8;simp [go_sem]
  refine ar 7 rfl fun K' hK'=>?_
  refine oper_append_O (by rfl) (.tmp 8) (.tmp 10) 174 174 rfl sl_ev (.inl sl_ev.ht) HF22.out.1 1 rfl rfl rfl (Src.lone _ [.int .i64 1,.int .i64 9,.int .i64 5,.int .i64 0,.int .i64 0,.int .i64 0,.int .i64 0,.int .i64 0,.int .i64 0,.int .i64 0,.int .i64 0,.int .i64 0] _ rfl (by simp [Value.oneCell'])) (by omega) (by unfold maxLen;omega) ?_
  intro a9 c9 w9 hO9 hb9
  have O9:=Box.mk (show Own B w9 (BlkP g 176 (memC b bm none 0 0)::RowP 239 12 a9 1 c9 [.int .i64 1,.int .i64 9,.int .i64 5,.int .i64 0,.int .i64 0,.int .i64 0,.int .i64 0,.int .i64 0,.int .i64 0,.int .i64 0,.int .i64 0,.int .i64 0]::BlkP gx 239 [.int .i64 1,.int .i64 9,.int .i64 5,.int .i64 0,.int .i64 0,.int .i64 0,.int .i64 0,.int .i64 0,.int .i64 0,.int .i64 0,.int .i64 0,.int .i64 0]::l) from hO9)
  have B9:=Box.mk (HF22.out.2.trans hb9)
  clear hO9 hb9
  have HT24:=(show (Own _ _ _∧Below _ _ _) from And.intro ((O9.out.drop 0).drop 0) B9.out)
  refine hK'.out _ _ HT24 (fun _=>?_)
  clear hK' K'
  conv=>arg 8;simp [go_sem]
  refine tw 8 rfl HT24 ?_
  conv=>arg 8;simp [go_sem]
  refine tw 9 rfl HT24 ?_
  conv=>arg 8;simp [go_sem]
  refine ar 10 rfl fun K' hK'=>?_
  have HF9:=Box.mk (O9.out.setRow 0 rfl (splice (memC b bm none 0 0) 3 [.slice a9 1 c9]))
  refine oper_store_part (by rfl) 174 (.tmp 13) (.tmp 11) rfl rfl (size:=1) (off:=3) (by kernel_rfl) (O9.out.blk 0 rfl).1 (by simp [memC,memL]) rfl (cs:=[.slice a9 1 c9]) rfl rfl (by simp [Value.oneCell']) ?_
  have HT25:=(show (Own _ _ _∧Below _ _ _) from And.intro ((HF9.out.1.drop 0).drop 0) (B9.out.trans HF9.out.2))
  refine hK'.out _ _ HT25 (fun _=>?_)
  clear hK' K'
  conv=>arg 8;simp [go_sem]
  refine ⟨by kernel_rfl,?_⟩
  go_end0
  exact ⟨rfl,B9.out.trans HF9.out.2,a9,c9,((HF9.out.1.drop 1).drop 1)⟩
 ·refine oper_litA (by rfl) 174 (.tmp 9) rfl sl_ev (cs:=[.int .i64 1,.int .i64 9,.int .i64 5,.int .i64 0,.int .i64 0,.int .i64 0,.int .i64 0,.int .i64 0,.int .i64 0,.int .i64 0,.int .i64 0,.int .i64 0]) rfl rfl (by omega) (by omega) ?_
  have HF26:=Box.mk (And.intro (HF0.out.1.alloc (.cells #[.int .i64 1,.int .i64 9,.int .i64 5,.int .i64 0,.int .i64 0,.int .i64 0,.int .i64 0,.int .i64 0,.int .i64 0,.int .i64 0,.int .i64 0,.int .i64 0] 239)) (HF0.out.2.alloc HF0.out.1.1 (.cells #[.int .i64 1,.int .i64 9,.int .i64 5,.int .i64 0,.int .i64 0,.int .i64 0,.int .i64 0,.int .i64 0,.int .i64 0,.int .i64 0,.int .i64 0,.int .i64 0] 239)))
  have HT27:=And.intro (HS0.1.alloc (.cells #[.int .i64 1,.int .i64 9,.int .i64 5,.int .i64 0,.int .i64 0,.int .i64 0,.int .i64 0,.int .i64 0,.int .i64 0,.int .i64 0,.int .i64 0,.int .i64 0] 239)) (HS0.2.alloc HS0.1.1 (.cells #[.int .i64 1,.int .i64 9,.int .i64 5,.int .i64 0,.int .i64 0,.int .i64 0,.int .i64 0,.int .i64 0,.int .i64 0,.int .i64 0,.int .i64 0,.int .i64 0] 239))
  refine hK'.out _ _ HT27 (fun _=>?_)
  clear hK' K'
  conv=>arg 8;simp [go_sem]
  refine ar 4 rfl fun K' hK'=>?_
  refine oper_load1 (by rfl) 174 (.tmp 7) rfl (by kernel_rfl) rfl ((HF26.out.1.blk 0 rfl).1.cellOf (i:=3) rfl) ?_
  have HT28:=HT27
  refine hK'.out _ _ HT28 (fun _=>?_)
  clear hK' K'
  conv=>arg 8;simp [go_sem]
  refine ar 7 rfl fun K' hK'=>?_
  refine oper_append_O (by rfl) (.tmp 8) (.tmp 10) 174 174 rfl sl_ev (.inl sl_ev.ht) HF26.out.1 1 rfl rfl rfl (Src.lone _ [.int .i64 1,.int .i64 9,.int .i64 5,.int .i64 0,.int .i64 0,.int .i64 0,.int .i64 0,.int .i64 0,.int .i64 0,.int .i64 0,.int .i64 0,.int .i64 0] _ rfl (by simp [Value.oneCell'])) (by omega) (by unfold maxLen;omega) ?_
  intro a9 c9 w9 hO9 hb9
  have O9:=Box.mk (show Own B w9 (BlkP g 176 (memC b bm none 0 0)::RowP 239 12 a9 1 c9 [.int .i64 1,.int .i64 9,.int .i64 5,.int .i64 0,.int .i64 0,.int .i64 0,.int .i64 0,.int .i64 0,.int .i64 0,.int .i64 0,.int .i64 0,.int .i64 0]::BlkP gx 239 [.int .i64 1,.int .i64 9,.int .i64 5,.int .i64 0,.int .i64 0,.int .i64 0,.int .i64 0,.int .i64 0,.int .i64 0,.int .i64 0,.int .i64 0,.int .i64 0]::l) from hO9)
  have B9:=Box.mk (HF26.out.2.trans hb9)
  clear hO9 hb9
  have HT29:=(show (Own _ _ _∧Below _ _ _) from And.intro ((O9.out.drop 0).drop 0) B9.out)
  refine hK'.out _ _ HT29 (fun _=>?_)
  clear hK' K'
  conv=>arg 8;simp [go_sem]
  refine tw 8 rfl HT29 ?_
  conv=>arg 8;simp [go_sem]
  refine tw 9 rfl HT29 ?_
  conv=>arg 8;simp [go_sem]
  refine ar 10 rfl fun K' hK'=>?_
  have HF9:=Box.mk (O9.out.setRow 0 rfl (splice (memC b bm none 0 0) 3 [.slice a9 1 c9]))
  refine oper_store_part (by rfl) 174 (.tmp 13) (.tmp 11) rfl rfl (size:=1) (off:=3) (by kernel_rfl) (O9.out.blk 0 rfl).1 (by simp [memC,memL]) rfl (cs:=[.slice a9 1 c9]) rfl rfl (by simp [Value.oneCell']) ?_
  have HT30:=(show (Own _ _ _∧Below _ _ _) from And.intro ((HF9.out.1.drop 0).drop 0) (B9.out.trans HF9.out.2))
  refine hK'.out _ _ HT30 (fun _=>?_)
  clear hK' K'
  conv=>arg 8;simp [go_sem]
  refine ⟨by kernel_rfl,?_⟩
  go_end0
  exact ⟨rfl,B9.out.trans HF9.out.2,a9,c9,((HF9.out.1.drop 1).drop 1)⟩
set_option maxRecDepth 20000 in
set_option maxHeartbeats 4000000 in
theorem put_m {B:Nat} {w:World} {g b bm:Nat} (O:Own B w (MemL g b bm none 0 0 [] none 0 0)):Calls Tryz.prog 84 #[.pointer (some ⟨g,0,none⟩),.int .i64 1,.int .i64 9,.int .i64 5,.func (.func 85) #[.pointer (some ⟨g,0,none⟩)] #[]] w
  fun e w'=>e=.returned (.int .i64 0)∧Below B w w'∧∃ (pa:Option Addr) (pc:Nat) (ea:Option Addr) (ec:Nat) (l:List (Int×Bool)),Own B w' (MemL g b bm pa 1 pc l ea 1 ec++[RowP 181 2 pa 1 pc [.int .i64 1,.int .i64 5]]):=by
 unfold MemL at O
 have HO:=Box.mk O
 have HH:=Box.mk (has_m (b:=b) (bm:=bm) (ea:=none) (en:=0) (ec:=0) (O.blk 0 rfl).1)
 clear O
 go_enter Tryz.func84,Tryz.ntmps84
 go_wp2_with fail
 refine HH.out.mono ?_
 rintro e w1 ⟨rfl,hb1⟩
 have O1:=Box.mk (HO.out.below hb1)
 have B1:=Box.mk (hb1.mono HO.out.1)
 clear hb1 HO HH
 have HW:=Box.mk (word_5 w1)
 go_wp2_with fail
 refine HW.out.mono ?_
 rintro e w2 ⟨rfl,hb2⟩
 have O2:=Box.mk (O1.out.below hb2)
 have B2:=Box.mk (B1.out.trans (hb2.mono O1.out.1))
 clear hb2 HW O1 B1
 have HT:=Box.mk (state_m (b:=b) (bm:=bm) (ea:=none) (en:=0) (ec:=0) (pa:=none) (pn:=0) (pc:=0) (O2.out.blk 0 rfl).1 (O2.out.blk 1 rfl).1)
 go_wp2_with fail
 refine HT.out.mono ?_
 rintro e w3 ⟨rfl,hb3⟩
 have O3:=Box.mk (O2.out.below hb3)
 have B3:=Box.mk (B2.out.trans (hb3.mono O2.out.1))
 clear hb3 HT O2 B2
 go_wp2_with fail
 have O4:Own B w3.drew (BlkP b 173 (memL none 0 0)::RowP 181 2 none 0 0 []::BlkP g 176 (memC b bm none 0 0)::MapO Tryz.prog 3 kI Value.bool bm ([]:List (Int×Bool))::[]):=(O3.out.drew.nilRow 181 2).perm ((List.Perm.swap _ _ _).trans (List.Perm.cons _ (List.perm_append_comm (l₁:=[_,_]) (l₂:=[_]))))
 have HF0:=Box.mk (And.intro O4 B3.out.drew)
 have HS0:Own B w3.drew (BlkP g 176 (memC b bm none 0 0)::MapO Tryz.prog 3 kI Value.bool bm ([]:List (Int×Bool))::[])∧Below B w w3.drew:=⟨(HF0.out.1.drop 0).drop 0,HF0.out.2⟩
 clear O3 B3 O4
 refine wp_region_held_drew (S:=fun w'=>(Own B w' (BlkP g 176 (memC b bm none 0 0)::MapO Tryz.prog 3 kI Value.bool bm ([]:List (Int×Bool))::[])∧Below B w w')) (by kernel_rfl) HS0 (fun _=>?_)
 generalize w3.drew=wd at *
 refine tw 0 rfl HS0 ?_
 conv=>arg 8;simp [go_sem]
 refine tw 1 rfl HS0 ?_
 conv=>arg 8;simp [go_sem]
 refine tw 2 rfl HS0 ?_
 conv=>arg 8;simp [go_sem]
 refine tv 3 rfl (fun w' hS=>by have e:w'.cell? ⟨g,0,none⟩=some (.slice (some ⟨b,0,none⟩) 2 2):=(hS.1.blk 0 rfl).1.cellOf (i:=0) rfl;go_simp;all_goals with_reducible rfl) HS0 ?_
 conv=>arg 8;simp [go_sem]
 refine tw 4 rfl HS0 ?_
 conv=>arg 8;simp [go_sem]
 refine tw 5 rfl HS0 ?_
 conv=>arg 8;simp [go_sem]
 refine tw 6 rfl HS0 ?_
 conv=>arg 8;simp [go_sem]
 refine tw 7 rfl HS0 ?_
 conv=>arg 8;simp [go_sem]
 refine tv 8 rfl (fun w' hS=>by have e:w'.cell? ⟨g,0,none⟩=some (.slice (some ⟨b,0,none⟩) 2 2):=(hS.1.blk 0 rfl).1.cellOf (i:=0) rfl;go_simp;all_goals with_reducible rfl) HS0 ?_
 conv=>arg 8;simp [go_sem]
 refine tw 9 rfl HS0 ?_
 conv=>arg 8;simp [go_sem]
 refine tw 10 rfl HS0 ?_
 conv=>arg 8;simp [go_sem]
 refine tw 11 rfl HS0 ?_
 conv=>arg 8;simp [go_sem]
 refine tw 13 rfl HS0 ?_
 conv=>arg 8;simp [go_sem]
 refine tw 14 rfl HS0 ?_
 conv=>arg 8;simp [go_sem]
 refine tw 15 rfl HS0 ?_
 conv=>arg 8;simp [go_sem]
 refine tw 16 rfl HS0 ?_
 conv=>arg 8;simp [go_sem]
 refine wpAnyH_ready (rs:=[12,17]) (by kernel_rfl) (by simp) ?_
 refine AllReadyH.cons rfl (fun K' hK'=>?_) (AllReadyH.cons rfl (fun K' hK'=>?_) AllReadyH.nil)
 ·refine oper_load1 (by rfl) 60 (.tmp 25) rfl (by kernel_rfl) rfl ((HF0.out.1.blk 0 rfl).1.cellOf (i:=20) rfl) ?_
  have HT31:=HS0
  refine hK'.out _ _ HT31 (fun _=>?_)
  clear hK' K'
  conv=>arg 8;simp [go_sem]
  refine ar 17 rfl fun K' hK'=>?_
  refine oper_litA (by rfl) 60 (.tmp 30) rfl sl_sto (cs:=[.int .i64 1,.int .i64 5]) rfl rfl (by omega) (by omega) ?_
  have HF32:=Box.mk (And.intro (HF0.out.1.alloc (.cells #[.int .i64 1,.int .i64 5] 181)) (HF0.out.2.alloc HF0.out.1.1 (.cells #[.int .i64 1,.int .i64 5] 181)))
  have HT33:=And.intro (HT31.1.alloc (.cells #[.int .i64 1,.int .i64 5] 181)) (HT31.2.alloc HT31.1.1 (.cells #[.int .i64 1,.int .i64 5] 181))
  refine hK'.out _ _ HT33 (fun _=>?_)
  clear hK' K'
  conv=>arg 8;simp [go_sem]
  refine ar 18 rfl fun K' hK'=>?_
  refine oper_append_O (by rfl) (.tmp 26) (.tmp 31) 60 60 rfl sl_sto (.inl sl_sto.ht) HF32.out.1 1 rfl rfl rfl (Src.lone _ [.int .i64 1,.int .i64 5] _ rfl (by simp [Value.oneCell'])) (by omega) (by unfold maxLen;omega) ?_
  intro a9 c9 w9 hO9 hb9
  have O9:=Box.mk (show Own B w9 (BlkP b 173 (memL none 0 0)::RowP 181 2 a9 1 c9 [.int .i64 1,.int .i64 5]::BlkP g 176 (memC b bm none 0 0)::MapO Tryz.prog 3 kI Value.bool bm ([]:List (Int×Bool))::[]) from hO9)
  have B9:=Box.mk (HF32.out.2.trans hb9)
  clear hO9 hb9
  have HT34:=(show (Own _ _ _∧Below _ _ _) from And.intro ((O9.out.drop 0).drop 0) B9.out)
  refine hK'.out _ _ HT34 (fun _=>?_)
  clear hK' K'
  conv=>arg 8;simp [go_sem]
  refine tw 19 rfl HT34 ?_
  conv=>arg 8;simp [go_sem]
  refine tw 20 rfl HT34 ?_
  conv=>arg 8;simp [go_sem]
  refine ar 21 rfl fun K' hK'=>?_
  have HF9:=Box.mk (O9.out.setRow 0 rfl (splice (memL none 0 0) 20 [.slice a9 1 c9]))
  refine oper_store_part (by rfl) 60 (.tmp 34) (.tmp 32) rfl rfl (size:=1) (off:=20) (by kernel_rfl) (O9.out.blk 0 rfl).1 (by simp [memC,memL]) rfl (cs:=[.slice a9 1 c9]) rfl rfl (by simp [Value.oneCell']) ?_
  have HT35:=(show (Own _ _ _∧Below _ _ _) from And.intro ((HF9.out.1.drop 0).drop 0) (B9.out.trans HF9.out.2))
  refine hK'.out _ _ HT35 (fun _=>?_)
  clear hK' K'
  conv=>arg 8;simp [go_sem]
  refine ⟨by kernel_rfl,?_⟩
  conv =>
   arg 5
   simp [go_sem]
  have O10:=Box.mk (show Own B _ [BlkP b 173 (memL a9 1 c9),RowP 181 2 a9 1 c9 [.int .i64 1,.int .i64 5],BlkP g 176 (memC b bm none 0 0),MapO Tryz.prog 3 kI Value.bool bm ([]:List (Int×Bool))]∧Below B w _ from And.intro HF9.out.1 (B9.out.trans HF9.out.2))
  generalize (w9.setRow b (splice (memL none 0 0) 20 [.slice a9 1 c9]).toArray)=w10 at *
  obtain ⟨w11,hrun,O11,hb11,_⟩:=O10.out.1.putMap K_int kI_inj und_mib 3 rfl (x:=1) (keyI (by unfold In64;omega)) true
  simp only [kI] at hrun
  have hrun':(Instr.mapUpdate 69 (.map (some bm)) (.int .i64 1) (.bool true)).run Tryz.prog w10=.ok () w11:=hrun
  have y1:w10.cell? ⟨g,1,none⟩=some (.map (some bm)):=(O10.out.1.blk 2 rfl).1.cellOf (i:=1) rfl
  have y2:w11.cell? ⟨g,2,none⟩=some (.int .i64 0):=(O11.blk 2 rfl).1.cellOf (i:=2) rfl
  have HN:=Box.mk (note_m (O11.front 2 rfl))
  have B11:=Box.mk (O10.out.2.trans hb11)
  clear hrun hb11 O11 O10 HF9 B9
  go_wp2_with fail
  refine HN.out.mono ?_
  rintro e w12 ⟨rfl,hb12,ea,ec,O12⟩
  have O12:=Box.mk (And.intro O12 (B11.out.trans hb12))
  clear hb12 HN B11
  go_wp2_with fail
  go_ret
  exact ⟨rfl,O12.out.2,a9,c9,ea,ec,_,O12.out.1.perm (List.Perm.cons _ (List.Perm.cons _ (List.Perm.swap _ _ _)))⟩
 ·refine oper_litA (by rfl) 60 (.tmp 30) rfl sl_sto (cs:=[.int .i64 1,.int .i64 5]) rfl rfl (by omega) (by omega) ?_
  have HF36:=Box.mk (And.intro (HF0.out.1.alloc (.cells #[.int .i64 1,.int .i64 5] 181)) (HF0.out.2.alloc HF0.out.1.1 (.cells #[.int .i64 1,.int .i64 5] 181)))
  have HT37:=And.intro (HS0.1.alloc (.cells #[.int .i64 1,.int .i64 5] 181)) (HS0.2.alloc HS0.1.1 (.cells #[.int .i64 1,.int .i64 5] 181))
  refine hK'.out _ _ HT37 (fun _=>?_)
  clear hK' K'
  conv=>arg 8;simp [go_sem]
  refine ar 12 rfl fun K' hK'=>?_
  refine oper_load1 (by rfl) 60 (.tmp 25) rfl (by kernel_rfl) rfl ((HF36.out.1.blk 0 rfl).1.cellOf (i:=20) rfl) ?_
  have HT38:=HT37
  refine hK'.out _ _ HT38 (fun _=>?_)
  clear hK' K'
  conv=>arg 8;simp [go_sem]
  refine ar 18 rfl fun K' hK'=>?_
  refine oper_append_O (by rfl) (.tmp 26) (.tmp 31) 60 60 rfl sl_sto (.inl sl_sto.ht) HF36.out.1 1 rfl rfl rfl (Src.lone _ [.int .i64 1,.int .i64 5] _ rfl (by simp [Value.oneCell'])) (by omega) (by unfold maxLen;omega) ?_
  intro a9 c9 w9 hO9 hb9
  have O9:=Box.mk (show Own B w9 (BlkP b 173 (memL none 0 0)::RowP 181 2 a9 1 c9 [.int .i64 1,.int .i64 5]::BlkP g 176 (memC b bm none 0 0)::MapO Tryz.prog 3 kI Value.bool bm ([]:List (Int×Bool))::[]) from hO9)
  have B9:=Box.mk (HF36.out.2.trans hb9)
  clear hO9 hb9
  have HT39:=(show (Own _ _ _∧Below _ _ _) from And.intro ((O9.out.drop 0).drop 0) B9.out)
  refine hK'.out _ _ HT39 (fun _=>?_)
  clear hK' K'
  conv=>arg 8;simp [go_sem]
  refine tw 19 rfl HT39 ?_
  conv=>arg 8;simp [go_sem]
  refine tw 20 rfl HT39 ?_
  conv=>arg 8;simp [go_sem]
  refine ar 21 rfl fun K' hK'=>?_
  have HF9:=Box.mk (O9.out.setRow 0 rfl (splice (memL none 0 0) 20 [.slice a9 1 c9]))
  refine oper_store_part (by rfl) 60 (.tmp 34) (.tmp 32) rfl rfl (size:=1) (off:=20) (by kernel_rfl) (O9.out.blk 0 rfl).1 (by simp [memC,memL]) rfl (cs:=[.slice a9 1 c9]) rfl rfl (by simp [Value.oneCell']) ?_
  have HT40:=(show (Own _ _ _∧Below _ _ _) from And.intro ((HF9.out.1.drop 0).drop 0) (B9.out.trans HF9.out.2))
  refine hK'.out _ _ HT40 (fun _=>?_)
  clear hK' K'
  conv=>arg 8;simp [go_sem]
  refine ⟨by kernel_rfl,?_⟩
  conv =>
   arg 5
   simp [go_sem]
  have O10:=Box.mk (show Own B _ [BlkP b 173 (memL a9 1 c9),RowP 181 2 a9 1 c9 [.int .i64 1,.int .i64 5],BlkP g 176 (memC b bm none 0 0),MapO Tryz.prog 3 kI Value.bool bm ([]:List (Int×Bool))]∧Below B w _ from And.intro HF9.out.1 (B9.out.trans HF9.out.2))
  generalize (w9.setRow b (splice (memL none 0 0) 20 [.slice a9 1 c9]).toArray)=w10 at *
  obtain ⟨w11,hrun,O11,hb11,_⟩:=O10.out.1.putMap K_int kI_inj und_mib 3 rfl (x:=1) (keyI (by unfold In64;omega)) true
  simp only [kI] at hrun
  have hrun':(Instr.mapUpdate 69 (.map (some bm)) (.int .i64 1) (.bool true)).run Tryz.prog w10=.ok () w11:=hrun
  have y1:w10.cell? ⟨g,1,none⟩=some (.map (some bm)):=(O10.out.1.blk 2 rfl).1.cellOf (i:=1) rfl
  have y2:w11.cell? ⟨g,2,none⟩=some (.int .i64 0):=(O11.blk 2 rfl).1.cellOf (i:=2) rfl
  have HN:=Box.mk (note_m (O11.front 2 rfl))
  have B11:=Box.mk (O10.out.2.trans hb11)
  clear hrun hb11 O11 O10 HF9 B9
  go_wp2_with fail
  refine HN.out.mono ?_
  rintro e w12 ⟨rfl,hb12,ea,ec,O12⟩
  have O12:=Box.mk (And.intro O12 (B11.out.trans hb12))
  clear hb12 HN B11
  go_wp2_with fail
  go_ret
  exact ⟨rfl,O12.out.2,a9,c9,ea,ec,_,O12.out.1.perm (List.Perm.cons _ (List.Perm.cons _ (List.Perm.swap _ _ _)))⟩
end
end Go.Proofs.YtlfghapllmaigaaGreatDoor
namespace Go.Proofs
open Go.Shelf
def Tryz.itoa_ren:Go.Shelf.Ren:=⟨fun | 171=>88 | 243=>139 | 246=>166 | 283=>196 | 284=>197 | 285=>198 | 286=>199 | 129=>181 | 317=>219 | 318=>220 | 319=>221 | 320=>162 | 337=>193 | 338=>194 | n=>n,fun | 3=>3 | 9=>9 | 2=>2 | 4=>4 | 171=>294 | 0=>0 | 53=>267 | 37=>184 | 5=>5 | 173=>296 | 212=>317 | 51=>265 | 20=>20 | 213=>318 | 46=>186 | 232=>313 | 233=>314 | n=>n,fun | 17=>3 | 18=>1 | 19=>2 | n=>n⟩
theorem Tryz.itoa:Go.Proofs.LaysM.n171 Tryz.prog Tryz.itoa_ren:={
 mixed:=by kernel_rfl
 f129:=Tryz.func181.trans (congrArg some (by kernel_rfl))
 f171:=Tryz.func88.trans (congrArg some (by kernel_rfl))
 f243:=Tryz.func139.trans (congrArg some (by kernel_rfl))
 f246:=Tryz.func166.trans (congrArg some (by kernel_rfl))
 f283:=Tryz.func196.trans (congrArg some (by kernel_rfl))
 f284:=Tryz.func197.trans (congrArg some (by kernel_rfl))
 f285:=Tryz.func198.trans (congrArg some (by kernel_rfl))
 f286:=Tryz.func199.trans (congrArg some (by kernel_rfl))
 f317:=Tryz.func219.trans (congrArg some (by kernel_rfl))
 f318:=Tryz.func220.trans (congrArg some (by kernel_rfl))
 f319:=Tryz.func221.trans (congrArg some (by kernel_rfl))
 f320:=Tryz.func162.trans (congrArg some (by kernel_rfl))
 f337:=Tryz.func193.trans (congrArg some (by kernel_rfl))
 f338:=Tryz.func194.trans (congrArg some (by kernel_rfl))
 t0:=Tryz.underlying0
 a0:=Tryz.isAgg0
 z0:=Tryz.sizeOf0
 v0:=Tryz.zeroValue0
 t2:=Tryz.underlying2
 a2:=Tryz.isAgg2
 z2:=Tryz.sizeOf2
 v2:=Tryz.zeroValue2
 t3:=Tryz.underlying3
 a3:=Tryz.isAgg3
 z3:=Tryz.sizeOf3
 v3:=Tryz.zeroValue3
 t4:=Tryz.underlying4
 a4:=Tryz.isAgg4
 z4:=Tryz.sizeOf4
 v4:=Tryz.zeroValue4
 t5:=Tryz.underlying5
 a5:=Tryz.isAgg5
 z5:=Tryz.sizeOf5
 v5:=Tryz.zeroValue5
 t9:=Tryz.underlying9
 a9:=Tryz.isAgg9
 z9:=Tryz.sizeOf9
 v9:=Tryz.zeroValue9
 t20:=Tryz.underlying20
 a20:=Tryz.isAgg20
 z20:=Tryz.sizeOf20
 v20:=Tryz.zeroValue20
 t37:=Tryz.underlying184
 a37:=Tryz.isAgg184
 z37:=Tryz.sizeOf184
 v37:=Tryz.zeroValue184
 t46:=Tryz.underlying186
 a46:=Tryz.isAgg186
 z46:=Tryz.sizeOf186
 v46:=Tryz.zeroValue186
 t51:=Tryz.underlying265
 a51:=Tryz.isAgg265
 z51:=Tryz.sizeOf265
 v51:=Tryz.zeroValue265
 t53:=Tryz.underlying267
 a53:=Tryz.isAgg267
 z53:=Tryz.sizeOf267
 v53:=Tryz.zeroValue267
 t171:=Tryz.underlying294
 a171:=Tryz.isAgg294
 z171:=Tryz.sizeOf294
 v171:=Tryz.zeroValue294
 t173:=Tryz.underlying296
 a173:=Tryz.isAgg296
 z173:=Tryz.sizeOf296
 v173:=Tryz.zeroValue296
 t212:=Tryz.underlying317
 a212:=Tryz.isAgg317
 z212:=Tryz.sizeOf317
 v212:=Tryz.zeroValue317
 t213:=Tryz.underlying318
 a213:=Tryz.isAgg318
 z213:=Tryz.sizeOf318
 t232:=Tryz.underlying313
 a232:=Tryz.isAgg313
 z232:=Tryz.sizeOf313
 v232:=Tryz.zeroValue313
 t233:=Tryz.underlying314
 a233:=Tryz.isAgg314
 z233:=Tryz.sizeOf314
 v233:=Tryz.zeroValue314
 g17:=by kernel_rfl
 g18:=by kernel_rfl
 g19:=by kernel_rfl
 i0:=by kernel_rfl
 i2:=by kernel_rfl
 i3:=by kernel_rfl
 i4:=by kernel_rfl
 i5:=by kernel_rfl
 i9:=by kernel_rfl
 i20:=by kernel_rfl
 i37:=by kernel_rfl
 i46:=by kernel_rfl
 i51:=by kernel_rfl
 i53:=by kernel_rfl
 i171:=by kernel_rfl
 i173:=by kernel_rfl
 i212:=by kernel_rfl
 i232:=by kernel_rfl
 i233:=by kernel_rfl
 m17:=by kernel_rfl
 m18:=by kernel_rfl
 m19:=by kernel_rfl }
end Go.Proofs
namespace Go.Proofs.YtlfghapllmaigaaGreatDoor
section
open Go.RowKit Go.Maps
attribute [local go_sem] Oper.semAt_some
abbrev PowOk (B:Nat) (w:World):Prop:=Lib.TabBelow Tryz.prog B w "internal/strconv.uint64pow10" .u64 Lib.pow10Tab
set_option maxRecDepth 20000 in
set_option maxHeartbeats 2000000 in
theorem print_3 {B:Nat} {w:World} (hT:PowOk B w) (hB:B≤w.heap.size):Calls Tryz.prog 24 #[.agg #[.int .i64 1,.int .i64 (-3),.string ⟨#[]⟩]] w fun e w'=>e=.returned (.string ⟨#[45,51]⟩)∧Below w.heap.size w w':=by
 have B1:=Box.mk ((Below.refl w.heap.size w).alloc (Nat.le_refl _) (.cells #[.int .i64 1,.int .i64 (-3),.string ⟨#[]⟩] 64))
 have y:=Blk.new (w:=w) (k:=w.heap.size) (ty:=64) (arr:=#[.int .i64 1,.int .i64 (-3),.string ⟨#[]⟩]) (cs:=[.int .i64 1,.int .i64 (-3),.string ⟨#[]⟩]) rfl rfl
 have y0:=y.cellOf (i:=0) rfl
 have y1:=y.cellOf (i:=1) rfl
 have H1:=Box.mk (show B≤(w.alloc (.cells #[.int .i64 1,.int .i64 (-3),.string ⟨#[]⟩] 64)).heap.size from by simp;omega)
 have T1:=Box.mk (hT.on ((Below.refl B w).alloc hB (.cells #[.int .i64 1,.int .i64 (-3),.string ⟨#[]⟩] 64)))
 have HSZ:=Box.mk B1.out.size
 clear y hT
 go_enter Tryz.func24,Tryz.ntmps24
 go_upto_region 1 with fail
 obtain ⟨gx,hgx⟩:∃gx,w.heap.size=gx:=⟨_,rfl⟩
 have HGX:=Box.mk hgx
 rw [hgx] at B1 HSZ y0 y1 ⊢
 generalize (w.alloc (.cells #[.int .i64 1,.int .i64 (-3),.string ⟨#[]⟩] 64))=w1 at *
 clear hgx
 have HI:=Box.mk (Any.strconv_Itoa Tryz.itoa (-3) (by omega) (by omega) w1 T1.out.here)
 have e:(⟨(Lib.itoa (-3)).toArray⟩:ByteArray)=⟨#[45,51]⟩:=by decide +kernel
 rw [e] at HI
 clear e
 go_wp2_with fail
 refine HI.out.mono ?_
 rintro e w2 ⟨rfl,k,os,rfl⟩
 have B2:=Box.mk (B1.out.trans (Lib.below_grow gx w1 HSZ.out k os))
 clear HI y0 y1
 go_wp2_with fail
 go_ret
 exact ⟨rfl,by rw [HGX.out];exact B2.out⟩
set_option maxRecDepth 20000 in
set_option maxHeartbeats 2000000 in
theorem store_m {B:Nat} {w:World} {g b bm:Nat} (O:Own B w (MemL g b bm none 0 0 [] none 0 0)):Calls Tryz.prog 22 #[.pointer (some ⟨g,0,none⟩),.int .i64 9,.int .i64 5] w
  fun e w'=>e=.returned (.int .i64 0)∧Below B w w'∧∃ (pa:Option Addr) (pc:Nat) (ea:Option Addr) (ec:Nat) (l:List (Int×Bool)),Own B w' (MemL g b bm pa 1 pc l ea 1 ec++[RowP 181 2 pa 1 pc [.int .i64 1,.int .i64 5]]):=by
 have HP:=Box.mk (put_m O)
 clear O
 go_enter Tryz.func22,Tryz.ntmps22
 go_wp2_with fail
 refine HP.out.mono ?_
 rintro e w1 ⟨rfl,h⟩
 have H:=Box.mk h
 clear h HP
 go_wp2_with fail
 go_ret
 exact ⟨rfl,H.out⟩
set_option maxRecDepth 20000 in
set_option maxHeartbeats 2000000 in
theorem pending_m {B:Nat} {w:World} {g b bm:Nat} {pa ea:Option Addr} {pc ec:Nat} {l:List (Int×Bool)} (O:Own B w (MemL g b bm pa 1 pc l ea 1 ec++[RowP 181 2 pa 1 pc [.int .i64 1,.int .i64 5]])):Calls Tryz.prog 23 #[.pointer (some ⟨g,0,none⟩),.int .i64 1] w
  fun e w'=>Below B w w'∧∃a c,e=.returned (.slice a 1 c):=by
 unfold MemL at O
 have HO:=Box.mk O
 have HH:=Box.mk (has_m (b:=b) (bm:=bm) (ea:=ea) (en:=1) (ec:=ec) (O.blk 0 rfl).1)
 clear O
 go_enter Tryz.func23,Tryz.ntmps23
 go_wp2_with fail
 refine HH.out.mono ?_
 rintro e w1 ⟨rfl,hb1⟩
 have O1:=Box.mk (HO.out.below hb1)
 have B1:=Box.mk (hb1.mono HO.out.1)
 clear hb1 HO HH
 have y0:w1.cell? ⟨g,0,none⟩=some (.slice (some ⟨b,0,none⟩) 2 2):=(O1.out.blk 0 rfl).1.cellOf (i:=0) rfl
 have y1:w1.cell? ⟨b,20,none⟩=some (.slice pa 1 pc):=(O1.out.blk 1 rfl).1.cellOf (i:=20) rfl
 have HC:=Box.mk (clone_sto (Rd.ofOwn (O1.out.row 3 rfl)) (by intro u hu;simp at hu;rcases hu with rfl | rfl<;>rfl) (by omega))
 go_wp2_with fail
 refine HC.out.mono ?_
 rintro e w2 ⟨hb2,a,c,rfl,_⟩
 have B2:=Box.mk (B1.out.trans (hb2.mono O1.out.1))
 clear hb2 HC y0 y1
 go_wp2_with fail
 go_ret
 exact ⟨B2.out,a,c,rfl⟩
set_option maxRecDepth 20000 in
set_option maxHeartbeats 4000000 in
theorem awake_any {B:Nat} {w:World} (hT:PowOk B w) (hB:B≤w.heap.size):Calls Tryz.prog 4 #[] w (RetV (.bool true) w):=by
 have HT:=Box.mk (And.intro hT hB)
 clear hT hB
 go_enter Tryz.func4,Tryz.ntmps4
 go_wp2_with fail
 refine (new_m w).mono ?_
 rintro e w1 ⟨hb1,g,b,bm,rfl,hO1⟩
 have B1:=Box.mk hb1
 have HS:=Box.mk (store_m hO1)
 clear hO1 hb1
 go_wp2_with fail
 refine HS.out.mono ?_
 rintro e w2 ⟨rfl,hb2,pa,pc,ea,ec,l,hO2⟩
 have B2:=Box.mk (B1.out.trans hb2)
 have HP:=Box.mk (pending_m hO2)
 clear hO2 hb2 HS B1
 go_wp2_with fail
 refine HP.out.mono ?_
 rintro e w3 ⟨hb3,a,c,rfl⟩
 have B3:=Box.mk (B2.out.trans hb3)
 clear hb3 HP B2
 have HR:=Box.mk (print_3 (HT.out.1.on (B3.out.mono HT.out.2)) (Nat.le_trans HT.out.2 B3.out.size))
 go_wp2_with fail
 refine HR.out.mono ?_
 rintro e w4 ⟨rfl,hb4⟩
 have B4:=Box.mk (B3.out.trans (hb4.mono B3.out.size))
 clear hb4 HR
 go_wp2_with fail
 go_ret
 exact ⟨rfl,B4.out⟩
end
section
open Go.RowKit Go.Maps
structure Sl where
 a:Option Addr
 n:Nat
 c:Nat
def dkC (gx gg:Nat) (t0 t1:Sl) (bw bi:Nat) (all tick:Int) (h:Sl) (bs:Nat):List Value :=
 [.pointer (some ⟨gx,0,none⟩),.pointer (some ⟨gg,0,none⟩),.slice t0.a t0.n t0.c,.slice t1.a t1.n t1.c,.map (some bw),.map (some bi),.int .i64 all,.int .i64 tick,.slice h.a h.n h.c,.map (some bs)]
theorem sl_held:SlT Tryz.prog 52 136 (.agg #[.int .i64 0,.int .i64 0,.int .i64 0,.slice none 0 0]) 4 48:=⟨by kernel_rfl,by kernel_rfl,rfl⟩
set_option maxRecDepth 20000 in
set_option maxHeartbeats 8000000 in
theorem rows_dk {com:List (List WrP)} {w:World} {gd gx gg bw bi bs:Nat} {t0 t1 sh:Sl} {all tick:Int} (hb:Blk w gd 36 (dkC gx gg t0 t1 bw bi all tick sh bs))
  (h0:Rd w t0.a t0.n t0.c 4 (recC VerP.enc (verT com 0))) (h1:Rd w t1.a t1.n t1.c 4 (recC VerP.enc (verT com 1))) (hc:com.length≤1000) (k:Nat) :
  Calls Tryz.prog 19 #[.pointer (some ⟨gd,0,none⟩),.int .i64 (k:Int)] w (RetOwn 136 4 (rowsH com k).length (recC HdP.enc (rowsH com k)) w):=by
 obtain ⟨A0,n0,c0⟩:=t0
 obtain ⟨A1,n1,c1⟩:=t1
 simp only at h0 h1
 have Y0:=Box.mk (fun w' (hw:Below w.heap.size w w')=>show w'.cell? ⟨gd,2,none⟩=some (.slice A0 n0 c0) from (hb.below hw (Nat.le_refl _)).cellOf (i:=2) rfl)
 have Y1:=Box.mk (fun w' (hw:Below w.heap.size w w')=>show w'.cell? ⟨gd,3,none⟩=some (.slice A1 n1 c1) from (hb.below hw (Nat.le_refl _)).cellOf (i:=3) rfl)
 have R0:=Box.mk (fun w' (hw:Below w.heap.size w w')=>rowsT_any (h0.below hw (Nat.le_refl _)) hc k)
 have R1:=Box.mk (fun w' (hw:Below w.heap.size w w')=>rowsT_any (h1.below hw (Nat.le_refl _)) hc k)
 have HIS:=Box.mk (rowsH_is com k)
 have L0:(rowsT com 0 k).length≤4:=List.length_filterMap_le _ _
 have L1:(rowsT com 1 k).length≤4:=List.length_filterMap_le _ _
 have HLH:=Box.mk (show (rowsH com k).length=(rowsT com 0 k).length+(rowsT com 1 k).length from by rw [rowsH_is,List.length_append,List.length_map,List.length_map])
 clear hb h0 h1
 generalize rowsT com 0 k=r0 at *
 generalize rowsT com 1 k=r1 at *
 obtain ⟨m0,hm0⟩:∃m,r0.length=m:=⟨_,rfl⟩
 obtain ⟨m1,hm1⟩:∃m,r1.length=m:=⟨_,rfl⟩
 rw [hm0] at L0 R0 HLH
 rw [hm1] at L1 R1 HLH
 have HM0:=Box.mk hm0
 have HM1:=Box.mk hm1
 clear hm0 hm1
 go_enter Tryz.func19,Tryz.ntmps19
 go_wp2_with fail
 go_loopg [5,9] 2 (fun gg s5 s9 wr=>∃ (t p:Nat) (acc:List HdP) (a5:Option Addr) (c5:Nat),t≤2∧2 - t≤gg∧s9=.int .i64 t∧s5=.slice a5 p c5∧p≤4 * t ∧
  Box (Own w.heap.size wr [RowP 136 4 a5 p c5 (recC HdP.enc acc)]∧Below w.heap.size w wr∧acc=(if t=0 then [] else if t=1 then r0.map (fun v=>v.held 0) else r0.map (fun v=>v.held 0)++r1.map (fun v=>v.held 1))∧p=(if t=0 then 0 else if t=1 then m0 else m0+m1)))
 case atStart=>exact ⟨0,0,[],none,0,by omega,by omega,rfl,rfl,by omega,⟨(Own.start w).nilRow 136 4,Below.refl _ _,rfl,rfl⟩⟩
 case round =>
  obtain ⟨t,p,acc,a5,c5,ht,hg,rfl,rfl,hp,HI⟩:=hrel
  by_cases hlt:t<2
  ·have ht2:t=0∨t=1:=by omega
   rcases ht2 with rfl | rfl
   ·have hy:=Y0.out wr HI.out.2.1
    have hcall:=R0.out wr HI.out.2.1
    have HACC:=Box.mk HI.out.2.2
    go_wp2_with fail
    refine hcall.mono ?_
    rintro e w1 ⟨hb1,ra,rc,rfl,hrow⟩
    have O1:=Box.mk (show Own w.heap.size w1 [RowP 136 4 a5 p c5 (recC HdP.enc acc),RowP 93 4 ra m0 rc (recC VerP.enc r0)] from HI.out.1.newRow hb1 hrow (Nat.le_refl _))
    have B1:=Box.mk (HI.out.2.1.trans (hb1.mono HI.out.1.1))
    clear hb1 hrow hcall hy HI
    go_wp2_with fail
    go_loopg [5,21] m0 (fun gg s5 s21 wq=>∃ (j:Nat) (a6:Option Addr) (c6:Nat),j≤m0∧m0 - j≤gg∧s21=.int .i64 j∧s5=.slice a6 (p+j) c6 ∧
     Box (Own w.heap.size wq [RowP 136 4 a6 (p+j) c6 (recC HdP.enc (acc++(r0.take j).map (fun v=>v.held 0))),RowP 93 4 ra m0 rc (recC VerP.enc r0)]∧Below w.heap.size w wq))
    case atStart=>exact ⟨0,a5,c5,Nat.zero_le _,by omega,rfl,rfl,⟨by simpa using O1.out,B1.out⟩⟩
    clear O1 B1
    case round =>
     obtain ⟨j,a6,c6,hj,hgj,rfl,rfl,HJ⟩:=hrel
     by_cases hjl:j<m0
     ·obtain ⟨b,off,rfl,_,hcl⟩:=(Rd.ofOwn (HJ.out.1.row 1 rfl)).recAt VerP.enc_len (by omega) j hjl
      have HTK:=Box.mk (show (r0.take (j+1)).map (fun v=>v.held 0)=(r0.take j).map (fun v=>v.held 0)++[(r0.getD j default).held 0] from by rw [take_snoc (by rw [HM0.out];exact hjl),List.map_append];rfl)
      obtain ⟨x,hx⟩:∃x,r0.getD j default=x:=⟨_,rfl⟩
      rw [hx] at hcl HTK
      obtain ⟨xa,xb,xd,va,vc,xl⟩:=x
      have d0:=hcl 0 _ rfl
      have d1:=hcl 1 _ rfl
      have d2:=hcl 2 _ rfl
      have d3:=hcl 3 _ rfl
      simp only [Nat.add_zero] at d0 d1 d2 d3
      obtain ⟨vn,hvn⟩:∃vn,xl.length=vn:=⟨_,rfl⟩
      rw [hvn] at d3
      have HVN:=Box.mk hvn
      have O4:=Box.mk (HJ.out.1.new [.int .i64 xa,.int .i64 xb,.bool xd,.slice va vn vc] 93)
      have B4:=Box.mk (HJ.out.2.alloc HJ.out.2.size (.cells #[.int .i64 xa,.int .i64 xb,.bool xd,.slice va vn vc] 93))
      clear hx hcl hvn HJ
      go_upto_region 8 with fail
      clear d0 d1 d2 d3
      generalize wr.heap.size=gx at *
      generalize (wr.alloc (.cells #[.int .i64 xa,.int .i64 xb,.bool xd,.slice va vn vc] 93))=w5 at *
      have y0:=(O4.out.blk 2 rfl).1.cellOf (i:=0) rfl
      have y1:=(O4.out.blk 2 rfl).1.cellOf (i:=1) rfl
      have y3:=(O4.out.blk 2 rfl).1.cellOf (i:=3) rfl
      go_wp2_with (first | (at_builtin;refine wpList_append_O rfl _ _ 52 52 rfl sl_held (.inl sl_held.ht) (O4.out.alloc _) 0 rfl rfl rfl (Src.lone w5 [.int .i64 0,.int .i64 xa,.int .i64 xb,.slice va vn vc] _ rfl (by simp [Value.oneCell'])) (by omega) (by unfold maxLen;omega) ?_;intro a9 c9 w9 O9 hb9) | ((with_reducible show wpList _ _ _ _ _ _);refine wpList_lit_one (o:=⟨some 34,_,_,_,_,_⟩) rfl 52 (.tmp 33) rfl sl_held (cs:=[.int .i64 0,.int .i64 xa,.int .i64 xb,.slice va vn vc]) rfl rfl (by omega) (by omega) ?_))
      go_roundg (m0 - (j+1))
      case measure=>omega
      case rel=>exact ⟨j+1,a9,c9,by omega,by omega,by go_num,rfl,⟨by rw [HTK.out,← List.append_assoc,recC_append,show p+(j+1)=p+j+1 from rfl];simpa [recC,HdP.enc,VerP.held,HVN.out] using O9.drop 2,(B4.out.alloc B4.out.size _).trans hb9⟩⟩
     ·obtain rfl:j=m0:=by omega
      have HF:=Box.mk (show Own w.heap.size wr [RowP 136 4 a6 (p+j) c6 (recC HdP.enc (acc++r0.map (fun v=>v.held 0)))] from by
       have h1:=HJ.out.1.drop 1
       rw [List.take_of_length_le (by rw [HM0.out];exact Nat.le_refl _)] at h1
       exact h1)
      have HA2:=Box.mk HACC.out.1
      have HP2:=Box.mk HACC.out.2
      go_wp2_with fail
      go_roundg (2 - (0+1))
      case measure=>omega
      case rel=>exact ⟨0+1,p+j,acc++r0.map (fun v=>v.held 0),a6,c6,by omega,by omega,by go_num,rfl,by omega,⟨HF.out,HJ.out.2,by rw [HA2.out];rfl,by rw [HP2.out];simp⟩⟩
   ·have hy:=Y1.out wr HI.out.2.1
    have hcall:=R1.out wr HI.out.2.1
    have HACC:=Box.mk HI.out.2.2
    go_wp2_with fail
    refine hcall.mono ?_
    rintro e w1 ⟨hb1,ra,rc,rfl,hrow⟩
    have O1:=Box.mk (show Own w.heap.size w1 [RowP 136 4 a5 p c5 (recC HdP.enc acc),RowP 93 4 ra m1 rc (recC VerP.enc r1)] from HI.out.1.newRow hb1 hrow (Nat.le_refl _))
    have B1:=Box.mk (HI.out.2.1.trans (hb1.mono HI.out.1.1))
    clear hb1 hrow hcall hy HI
    go_wp2_with fail
    go_loopg [5,21] m1 (fun gg s5 s21 wq=>∃ (j:Nat) (a6:Option Addr) (c6:Nat),j≤m1∧m1 - j≤gg∧s21=.int .i64 j∧s5=.slice a6 (p+j) c6 ∧
     Box (Own w.heap.size wq [RowP 136 4 a6 (p+j) c6 (recC HdP.enc (acc++(r1.take j).map (fun v=>v.held 1))),RowP 93 4 ra m1 rc (recC VerP.enc r1)]∧Below w.heap.size w wq))
    case atStart=>exact ⟨0,a5,c5,Nat.zero_le _,by omega,rfl,rfl,⟨by simpa using O1.out,B1.out⟩⟩
    clear O1 B1
    case round =>
     obtain ⟨j,a6,c6,hj,hgj,rfl,rfl,HJ⟩:=hrel
     by_cases hjl:j<m1
     ·obtain ⟨b,off,rfl,_,hcl⟩:=(Rd.ofOwn (HJ.out.1.row 1 rfl)).recAt VerP.enc_len (by omega) j hjl
      have HTK:=Box.mk (show (r1.take (j+1)).map (fun v=>v.held 1)=(r1.take j).map (fun v=>v.held 1)++[(r1.getD j default).held 1] from by rw [take_snoc (by rw [HM1.out];exact hjl),List.map_append];rfl)
      obtain ⟨x,hx⟩:∃x,r1.getD j default=x:=⟨_,rfl⟩
      rw [hx] at hcl HTK
      obtain ⟨xa,xb,xd,va,vc,xl⟩:=x
      have d0:=hcl 0 _ rfl
      have d1:=hcl 1 _ rfl
      have d2:=hcl 2 _ rfl
      have d3:=hcl 3 _ rfl
      simp only [Nat.add_zero] at d0 d1 d2 d3
      obtain ⟨vn,hvn⟩:∃vn,xl.length=vn:=⟨_,rfl⟩
      rw [hvn] at d3
      have HVN:=Box.mk hvn
      have O4:=Box.mk (HJ.out.1.new [.int .i64 xa,.int .i64 xb,.bool xd,.slice va vn vc] 93)
      have B4:=Box.mk (HJ.out.2.alloc HJ.out.2.size (.cells #[.int .i64 xa,.int .i64 xb,.bool xd,.slice va vn vc] 93))
      clear hx hcl hvn HJ
      go_upto_region 8 with fail
      clear d0 d1 d2 d3
      generalize wr.heap.size=gx at *
      generalize (wr.alloc (.cells #[.int .i64 xa,.int .i64 xb,.bool xd,.slice va vn vc] 93))=w5 at *
      have y0:=(O4.out.blk 2 rfl).1.cellOf (i:=0) rfl
      have y1:=(O4.out.blk 2 rfl).1.cellOf (i:=1) rfl
      have y3:=(O4.out.blk 2 rfl).1.cellOf (i:=3) rfl
      go_wp2_with (first | (at_builtin;refine wpList_append_O rfl _ _ 52 52 rfl sl_held (.inl sl_held.ht) (O4.out.alloc _) 0 rfl rfl rfl (Src.lone w5 [.int .i64 1,.int .i64 xa,.int .i64 xb,.slice va vn vc] _ rfl (by simp [Value.oneCell'])) (by omega) (by unfold maxLen;omega) ?_;intro a9 c9 w9 O9 hb9) | ((with_reducible show wpList _ _ _ _ _ _);refine wpList_lit_one (o:=⟨some 34,_,_,_,_,_⟩) rfl 52 (.tmp 33) rfl sl_held (cs:=[.int .i64 1,.int .i64 xa,.int .i64 xb,.slice va vn vc]) rfl rfl (by omega) (by omega) ?_))
      go_roundg (m1 - (j+1))
      case measure=>omega
      case rel=>exact ⟨j+1,a9,c9,by omega,by omega,by go_num,rfl,⟨by rw [HTK.out,← List.append_assoc,recC_append,show p+(j+1)=p+j+1 from rfl];simpa [recC,HdP.enc,VerP.held,HVN.out] using O9.drop 2,(B4.out.alloc B4.out.size _).trans hb9⟩⟩
     ·obtain rfl:j=m1:=by omega
      have HF:=Box.mk (show Own w.heap.size wr [RowP 136 4 a6 (p+j) c6 (recC HdP.enc (acc++r1.map (fun v=>v.held 1)))] from by
       have h1:=HJ.out.1.drop 1
       rw [List.take_of_length_le (by rw [HM1.out];exact Nat.le_refl _)] at h1
       exact h1)
      have HA2:=Box.mk HACC.out.1
      have HP2:=Box.mk HACC.out.2
      go_wp2_with fail
      go_roundg (2 - (1+1))
      case measure=>omega
      case rel=>exact ⟨1+1,p+j,acc++r1.map (fun v=>v.held 1),a6,c6,by omega,by omega,by go_num,rfl,by omega,⟨HF.out,HJ.out.2,by rw [HA2.out];rfl,by rw [HP2.out];simp⟩⟩
  ·obtain rfl:t=2:=by omega
   go_wp2_with fail
   go_ret
   obtain ⟨h1,h2,h3,h4⟩:=HI.out
   simp only [show ¬ ((2:Nat)=0) from by omega,show ¬ ((2:Nat)=1) from by omega,if_false] at h3 h4
   subst h4
   subst h3
   refine ⟨h2,a5,c5,by rw [HLH.out];rfl,?_⟩
   rw [HLH.out,HIS.out]
   exact h1.rowB 0 rfl
end
end Go.Proofs.YtlfghapllmaigaaGreatDoor
