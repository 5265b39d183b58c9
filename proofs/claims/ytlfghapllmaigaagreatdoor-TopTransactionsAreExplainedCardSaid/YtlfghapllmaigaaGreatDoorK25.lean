/-
  The walk of a group's Open; The walk of a group's Cut; The group's calls on objects that lie apart. Conditions: each theorem's own hypotheses.
-/
import Derived.Test.YtlfghapllmaigaaGreatDoorK24
import Derived.Deep.RegionLaw
import Derived.Deep.CutRange
import Derived.LaidEqlPtr
import Derived.Lib.Builder
import Derived.StillTailTactics
set_option linter.unusedVariables false
set_option linter.unusedSimpArgs false
namespace Go.Proofs.YtlfghapllmaigaaGreatDoor.Gr
open Go.RowKit
theorem nm35:(Tryz.f71.name == "runtime.NumGoroutine")=false:=by kernel_rfl
theorem bd35:Tryz.f71.body.isNone=false:=by kernel_rfl
def RetO (S:GS) (w:World) (e:Ending) (w':World):Prop :=
 ∃a cap,e=.returned (.tuple #[.agg #[.int .i64 S.first,.slice a S.txs.length cap],.bool S.opn])∧Rd w' a S.txs.length cap 1 (intVals S.txs)∧(∀ad,a=some ad→w.heap.size≤ad.block)∧Below w.heap.size w w'
set_option maxRecDepth 20000 in
set_option maxHeartbeats 1000000 in
theorem open_any {w:World} {g m:Nat} {bs:List Nat} {ta:Option Addr} {tc:Nat} {S:GS} (h:Grp w g m bs ta tc S) :
  Calls Tryz.prog 116 #[.pointer (some ⟨g,0,none⟩)] w (RetO S w):=by
 have HG:=Box.mk h
 have c6:=h.blk.cellOf (i:=6) rfl
 have c7:=h.blk.cellOf (i:=7) rfl
 have c8:=h.blk.cellOf (i:=8) rfl
 clear h
 go_enter Tryz.func116,Tryz.ntmps116
 go_wp2_with fail
 have b0:=(HG.out.blk.alloc (.cells #[.int .i64 0,.slice none 0 0] 72)).drew
 refine wp_region_held_drew (S:=fun w'=>Blk w' g 74 (grpVals S m bs ta tc)) (by kernel_rfl) b0 (fun _=>?_)
 refine tw 0 rfl b0 ?_
 refine tw 1 rfl b0 ?_
 refine tw 2 rfl b0 ?_
 refine tw 3 rfl b0 ?_
 refine tv 4 rfl (fun w' hS=>by have d6:=hS.cellOf (i:=6) rfl;have d7:=hS.cellOf (i:=7) rfl;have d8:=hS.cellOf (i:=8) rfl;go_simp;all_goals with_reducible rfl) b0 ?_
 refine tw 5 rfl b0 ?_
 refine tw 6 rfl b0 ?_
 refine tw 7 rfl b0 ?_
 refine tw 8 rfl b0 ?_
 refine tv 9 rfl (fun w' hS=>by have d6:=hS.cellOf (i:=6) rfl;have d7:=hS.cellOf (i:=7) rfl;have d8:=hS.cellOf (i:=8) rfl;go_simp;all_goals with_reducible rfl) b0 ?_
 refine tw 12 rfl b0 ?_
 refine tw 13 rfl b0 ?_
 refine tw 14 rfl b0 ?_
 refine tv 15 rfl (fun w' hS=>by have d6:=hS.cellOf (i:=6) rfl;have d7:=hS.cellOf (i:=7) rfl;have d8:=hS.cellOf (i:=8) rfl;go_simp;all_goals with_reducible rfl) b0 ?_
 conv=>arg 8;simp [go_sem]
 have R0:=((HG.out.txs).alloc (.cells #[.int .i64 0,.slice none 0 0] 72)).drew
 have o0:=(Blk.new (w:=w) (ty:=72) (cs:=[.int .i64 0,.slice none 0 0]) (k:=w.heap.size) rfl rfl).drew
 have B0:=((Below.refl w.heap.size w).alloc (Nat.le_refl _) (.cells #[.int .i64 0,.slice none 0 0] 72)).drew
 have htx:=HG.out.ok.txs.1
 refine wpAnyH_ready (rs:=[10]) (by kernel_rfl) (by simp) (AllReadyH.cons rfl (fun K' hK'=>oper_call (by rfl) 71 [.tmp 13] #[44] rfl (vs:=[.slice ta S.txs.length tc]) rfl Tryz.func71 nm35 bd35 (clone_any S.txs ta S.txs.length tc _ R0 (by omega)) ?_) AllReadyH.nil)
 rintro e w3 ⟨a3,c3,rfl,hown3,hb3⟩
 have b3:=b0.call0 hb3
 have o3:=o0.call0 hb3
 have B3:=B0.call0 (Nat.le_refl _) hb3
 refine ⟨_,rfl,hK'.out _ _ b3 (fun _=>?_)⟩
 clear hK' K'
 conv=>arg 8;simp [go_sem]
 refine tk 11 (v:=.agg #[.int .i64 S.first,.slice a3 S.txs.length c3]) rfl (yieldsIf_val (by rfl) (fun w' hS=>?_)) b3 ?_
 ·go_simp
  all_goals with_reducible rfl
 conv=>arg 8;simp [go_sem]
 refine wpAnyH_ready (rs:=[16]) (by kernel_rfl) (by simp) (AllReadyH.cons rfl (fun K' hK'=>oper_store_row (by rfl) 72 (.tmp 2) (.tmp 15) rfl rfl agg32.info o3 rfl rfl (cs:=[.int .i64 S.first,.slice a3 S.txs.length c3]) rfl rfl (by simp [Value.oneCell']) (hK'.out _ _ (b3.rowOther (by have:=HG.out.blk.lt;omega) _) (fun _=>?_))) AllReadyH.nil)
 refine tk 17 (v:=.bool S.opn) rfl (yieldsIf_val (by rfl) (fun w' hS=>?_)) (b3.rowOther (by have:=HG.out.blk.lt;omega) _) ?_
 ·go_simp
  all_goals with_reducible rfl
 refine ⟨by kernel_rfl,?_⟩
 conv =>
  arg 5
  simp [go_sem]
 go_wp2_with fail
 have hne:∀ad,a3=some ad→w.heap.size+1≤ad.block:=fun ad ha=>by have:=hown3.lt ad.block (by rw [ha];rfl);simp at this;omega
 exact bodyPost_ret (results_cell2 (g:=w.heap.size) (cs:=[.int .i64 S.first,.slice a3 S.txs.length c3]) rfl _ rfl (o3.row _) agg32) rfl ⟨a3,c3,rfl,(Rd.ofOwn hown3).eq (fun ad ha=>setRow_other _ _ _ _ (by have:=hne ad ha;omega)),(fun ad ha=>Nat.le_of_succ_le (hne ad ha)),below_setRow B3 (Nat.le_refl _) _⟩
end Go.Proofs.YtlfghapllmaigaaGreatDoor.Gr
namespace Go.Proofs.YtlfghapllmaigaaGreatDoor.Gr
open Go.RowKit
def GS.tryCut (S:GS) (tick:Int):GS:=if S.due tick then S.cut else S
def GS.cutFirst (S:GS) (tick:Int):Int:=if S.due tick then S.stamp else 0
def GS.cutTxs (S:GS) (tick:Int):List Int:=if S.due tick then (S.q.take S.front).map Nd.tx else []
def RetC (g m:Nat) (bs:List Nat) (ta:Option Addr) (S:GS) (tick:Int) (w:World) (e:Ending) (w':World):Prop :=
 ∃bs' ta' tc' a cap,e=.returned (.tuple #[.agg #[.int .i64 (S.cutFirst tick),.slice a (S.cutTxs tick).length cap],.bool (S.due tick)])∧Rd w' a (S.cutTxs tick).length cap 1 (intVals (S.cutTxs tick)) ∧
  (∀ad,a=some ad→w.heap.size≤ad.block∧ad.block∉fpOf g m bs' ta')∧Grp w' g m bs' ta' tc' (S.tryCut tick)∧But (fpOf g m bs ta) w w'∧∀x∈fpOf g m bs' ta',x∈fpOf g m bs ta∨w.heap.size≤x
set_option maxRecDepth 20000 in
set_option maxHeartbeats 1000000 in
theorem cut_no {w:World} {g m:Nat} {bs:List Nat} {ta:Option Addr} {tc:Nat} {S:GS} (h:Grp w g m bs ta tc S) (tick:Int) (hd:S.due tick=false) :
  Calls Tryz.prog 53 #[.pointer (some ⟨g,0,none⟩),.int .i64 tick] w (RetC g m bs ta S tick w):=by
 have HG:=Box.mk h;clear h
 have HD:=Box.mk hd;clear hd
 go_enter Tryz.func53,Tryz.ntmps53
 go_wp2_with fail
 refine (due_any (HG.out.below ((Below.refl _ _).alloc (Nat.le_refl _) _)) tick).mono ?_
 rintro e w1 ⟨rfl,n1,rfl⟩
 rw [HD.out]
 have o1:Blk ((w.alloc (.cells #[.int .i64 0,.slice none 0 0] 72)).drewN n1) w.heap.size 72 [.int .i64 0,.slice none 0 0]:=(Blk.new (w:=w) (k:=w.heap.size) rfl rfl).drewN _
 go_wp2_with ((with_reducible show wpList _ _ _ _ _ _);refine wpList_store_row (o:=⟨none,.store 72 (.tmp 4) (.tmp 14),_,_,_,_⟩) (cs:=[.int .i64 0,.slice none 0 0]) rfl 72 _ _ rfl rfl agg32.info o1 rfl rfl rfl rfl (by simp [Value.oneCell']) ?_)
 have e1:S.cutFirst tick=0:=by unfold GS.cutFirst;rw [HD.out];rfl
 have e2:S.cutTxs tick=[]:=by unfold GS.cutTxs;rw [HD.out];rfl
 have e3:S.tryCut tick=S:=by unfold GS.tryCut;rw [HD.out];rfl
 have B1:Below w.heap.size w (((w.alloc (.cells #[.int .i64 0,.slice none 0 0] 72)).drewN n1).setRow w.heap.size #[.int .i64 0,.slice none 0 0]):=below_setRow (below_drewN ((Below.refl _ _).alloc (Nat.le_refl _) _) _) (Nat.le_refl _) _
 exact bodyPost_ret (results_cell2 (g:=w.heap.size) (cs:=[.int .i64 0,.slice none 0 0]) rfl _ rfl (o1.row _) agg32) rfl ⟨bs,ta,tc,none,0,by rw [e1,e2,HD.out];rfl,by rw [e2];exact Rd.nilSlice _ _,(fun ad h=>by cases h),by rw [e3];exact HG.out.below B1,But.ofBelow B1,fun _ h=>.inl h⟩
theorem ty61:Tryz.prog.underlying 70=some (.pointer 198):=by kernel_rfl
theorem sz69:(Tryz.prog.info? 198).map (·.size)=some 4:=by kernel_rfl
theorem run_neq_other {w:World} {b:Nat} {cs:List Value} (hb:Blk w b 198 cs) (pr:Option Addr) (hpr:pr=none∨∃c cs',pr=some ⟨c,0,none⟩∧b≠c∧Blk w c 198 cs') :
  (binOp .neq 70 (.pointer (some ⟨b,0,none⟩)) (.pointer pr)).run Tryz.prog w=.ok (.bool true) w:=by
 rcases hpr with rfl | ⟨c,cs',rfl,hne,hc⟩
 ·exact run_neq_pointer_nil w 70 _ (by kernel_rfl)
 ·obtain ⟨j,hj,hs⟩:=Option.map_eq_some_iff.1 sz69
  have h:∀d:Nat,(Op.equalIn (d+1) 70 (.pointer (some ⟨b,0,none⟩)) (.pointer (some ⟨c,0,none⟩))).run Tryz.prog w=.ok false w:=fun d=>by
   simp [Op.equalIn,run_underlying ty61,sizeOf,typeInfo,hj,hs,run_sameAddr_other w (a:=⟨b,0,none⟩) (b:=⟨c,0,none⟩) (fun e=>hne (by cases e;rfl)) hb hc]
  simp only [binOp]
  simp [Op.equal,Op.maxDepth,h 9999]
theorem run_neq_self (w:World) (pr:Option Addr):(binOp .neq 70 (.pointer pr) (.pointer pr)).run Tryz.prog w=.ok (.bool false) w:=by
 cases pr with
 | none=>exact run_neq_pointer_nil w 70 _ (by kernel_rfl)
 | some a =>
  obtain ⟨j,hj,hs⟩:=Option.map_eq_some_iff.1 sz69
  exact Lib.run_neq_ptr_same w a ty61 hj
def nodePos (bs:List Nat):Value→Nat
 | .pointer (some ad)=>bs.idxOf ad.block
 | _=>bs.length
theorem nodePos_at {w:World} {g m:Nat} {bs:List Nat} {ta:Option Addr} {tc:Nat} {S:GS} (h:Grp w g m bs ta tc S) (k:Nat) (hk:k≤S.q.length):nodePos bs (ptrOf bs[k]?)=k:=by
 have hn:=(List.nodup_cons.1 (List.nodup_cons.1 h.nodup).2).2
 have hbl:=h.blen
 by_cases hl:k<bs.length
 ·rw [List.getElem?_eq_getElem hl]
  show bs.idxOf bs[k]=k
  exact hn.idxOf_getElem k hl
 ·rw [List.getElem?_eq_none (by omega)]
  show bs.length=k
  omega
set_option maxRecDepth 20000 in
set_option maxHeartbeats 4000000 in
theorem cut_yes {w:World} {g m:Nat} {bs:List Nat} {ta:Option Addr} {tc:Nat} {S:GS} (h:Grp w g m bs ta tc S) (tick:Int) (hd:S.due tick=true) :
  Calls Tryz.prog 53 #[.pointer (some ⟨g,0,none⟩),.int .i64 tick] w (RetC g m bs ta S tick w):=by
 have HG:=Box.mk h;clear h
 have HD:=Box.mk hd;clear hd
 go_enter Tryz.func53,Tryz.ntmps53
 go_wp2_with fail
 refine (due_any (HG.out.below ((Below.refl _ _).alloc (Nat.le_refl _) _)) tick).mono ?_
 rintro e w1 ⟨rfl,n1,rfl⟩
 rw [HD.out]
 have G1:=Box.mk ((HG.out.below ((Below.refl _ _).alloc (Nat.le_refl _) (.cells #[.int .i64 0,.slice none 0 0] 72))).drewN n1)
 go_wp2_with fail
 refine (front_any G1.out).mono ?_
 rintro e w2 ⟨rfl,n2,rfl⟩
 have G2:=Box.mk (G1.out.drewN n2)
 have R2:Blk (((w.alloc (.cells #[.int .i64 0,.slice none 0 0] 72)).drewN n1).drewN n2) w.heap.size 72 [.int .i64 0,.slice none 0 0]:=(((Blk.new (w:=w) (k:=w.heap.size) rfl rfl).drewN _).drewN _)
 have B2:Below w.heap.size w (((w.alloc (.cells #[.int .i64 0,.slice none 0 0] 72)).drewN n1).drewN n2):=below_drewN (below_drewN ((Below.refl _ _).alloc (Nat.le_refl _) _) _) _
 have z2:(((w.alloc (.cells #[.int .i64 0,.slice none 0 0] 72)).drewN n1).drewN n2).heap.size=w.heap.size+1:=by simp
 clear G1
 rw [World.drewN_drewN] at G2 R2 B2 z2 ⊢
 generalize ((w.alloc (.cells #[.int .i64 0,.slice none 0 0] 72)).drewN (n1+n2))=w2 at *
 have c3:=G2.out.blk.cellOf (i:=3) rfl
 have c4:=(G2.out.below ((Below.refl _ _).alloc (Nat.le_refl _) (.cells #[.int .i64 S.stamp,.slice none 0 0] 72))).blk.cellOf (i:=4) rfl
 go_wp2_with ((with_reducible show wpList _ _ _ _ _ _);refine wpList_store_fresh (o:=⟨none,.store 72 (.tmp 8) (.tmp 24),_,_,_,_⟩) (cs:=[.int .i64 S.stamp,.slice none 0 0]) rfl 72 _ _ rfl rfl agg32.info rfl rfl rfl rfl (by simp [Value.oneCell']) ?_)
 have W3:Grp (w2.alloc (.cells #[.int .i64 S.stamp,.slice none 0 0] 72)) g m bs ta tc S:=G2.out.below ((Below.refl _ _).alloc (Nat.le_refl _) _)
 have R3:=R2.alloc (.cells #[.int .i64 S.stamp,.slice none 0 0] 72)
 have b3:Blk (w2.alloc (.cells #[.int .i64 S.stamp,.slice none 0 0] 72)) w2.heap.size 72 [.int .i64 S.stamp,.slice none 0 0]:=Blk.new rfl rfl
 have B3:Below w.heap.size w (w2.alloc (.cells #[.int .i64 S.stamp,.slice none 0 0] 72)):=B2.alloc (by omega) _
 have G3:=Box.mk W3
 clear W3 c3 c4 G2 R2 B2
 rw [z2] at b3
 have z3:(w2.alloc (.cells #[.int .i64 S.stamp,.slice none 0 0] 72)).heap.size=w.heap.size+2:=by simp [z2]
 generalize (w2.alloc (.cells #[.int .i64 S.stamp,.slice none 0 0] 72))=w3 at *
 clear z2
 obtain ⟨pr,hpr⟩:∃pr,ptrOf bs[S.front]?=.pointer pr:=⟨_,rfl⟩
 rw [hpr]
 have HPR:=Box.mk hpr;clear hpr
 go_loopw [9] (fun r wr=>∃ (k:Nat) (a:Option Addr) (cap:Nat),k≤S.front∧r=ptrOf bs[k]?∧But [m] w wr∧Blk wr w.heap.size 72 [.int .i64 0,.slice none 0 0]∧Blk wr (w.heap.size+1) 72 [.int .i64 S.stamp,.slice a k cap]∧wr.ownsRow (w.heap.size+2) 3 1 (.slice a k cap) k (intVals ((S.q.take k).map Nd.tx))∧SetM Tryz.prog 3 4 wr m ((S.q.drop k).map Nd.tx))
  (fun r _=>bs.length - nodePos bs r)
 case atStart=>exact ⟨0,none,0,Nat.zero_le _,rfl,But.ofBelow B3,R3,b3,World.ownsRow_nil _ _ _ _,G3.out.map⟩
 case round =>
  obtain ⟨k,a,cap,hk,rfl,BU,R4,b4,hown,hset⟩:=hrel
  have hfl:=S.front_le
  by_cases hl:k<S.front
  ·obtain ⟨b,hb1,hb2⟩:=HG.out.node k (by omega)
   have hbg:=HG.out.node_g hb1
   have hb4:=hb2.but BU (by simp;exact hbg.2)
   have hcmp:=run_neq_other hb4 pr (by
    by_cases hf:S.front<S.q.length
    ·obtain ⟨c,hc1,hc2⟩:=HG.out.node S.front hf
     have e:=HPR.out
     rw [hc1] at e
     simp only [ptrOf,Option.map_some,Value.pointer.injEq] at e
     exact .inr ⟨c,_,e.symm,HG.out.node_ne hb1 hc1 (by omega),hc2.but BU (by simp;exact (HG.out.node_g hc1).2)⟩
    ·have e:=HPR.out
     rw [HG.out.last S.front (by omega)] at e
     simp only [ptrOf,Option.map_none,Value.pointer.injEq] at e
     exact .inl e.symm)
   have hpos:=Box.mk (nodePos_at HG.out k (by omega))
   have hpos2:=Box.mk (nodePos_at HG.out (k+1) (by omega))
   rw [show ptrOf bs[k]?=.pointer (some ⟨b,0,none⟩) from by rw [hb1];rfl]
   have d0:=hb4.cellOf (i:=0) rfl
   have e1:=b4.cellOf (i:=1) rfl
   have f1:=b4.free 1
   have hT:=Box.mk (show (S.q.take (k+1)).map Nd.tx=(S.q.take k).map Nd.tx++[(S.q.getD k default).tx] from by
    rw [show S.q.getD k default=S.q[k] from by rw [List.getD_eq_getElem?_getD,List.getElem?_eq_getElem (by omega)];rfl,List.take_succ_eq_append_getElem (by omega),List.map_append];rfl)
   have hT2:=Box.mk (show (S.q.drop k).map Nd.tx=(S.q.getD k default).tx::(S.q.drop (k+1)).map Nd.tx from by
    rw [show S.q.getD k default=S.q[k] from by rw [List.getD_eq_getElem?_getD,List.getElem?_eq_getElem (by omega)];rfl,List.drop_eq_getElem_cons (by omega),List.map_cons])
   have hin:=Box.mk (show In64 (S.q.getD k default).tx from (HG.out.ok.q (S.q.getD k default) (by rw [List.getD_eq_getElem?_getD,List.getElem?_eq_getElem (show k<S.q.length by omega)];exact List.getElem_mem (by omega))).2.2)
   generalize (S.q.getD k default)=nd at *
   go_wp2_with fail
   have e1x:=(b4.alloc (.cells #[.int .i64 nd.tx] 3)).cellOf (i:=1) rfl
   have SRC:Src Tryz.prog ((wr.alloc (.cells #[.int .i64 nd.tx] 3)).drew) (.slice (some ⟨wr.heap.size,0,none⟩) 1 1) 1 1 [.int .i64 nd.tx]:=Src.ofRd (Rd.drew (rd_newAt rfl rfl rfl (by unfold maxLen;omega))) (by simp [Value.oneCell'])
   have hown0:=(hown.alloc (.cells #[.int .i64 nd.tx] 3)).drew
   have BUs:=b4.lt
   have hk64:=GS.front_most HG.out.ok
   have hm64:=HG.out.ok.most.2
   have HK:=Box.mk (show ∀w1,((wr.alloc (.cells #[.int .i64 nd.tx] 3)).drew).grownBy w1 (Value.slice a k cap).ownBlock→∀j,j<w.heap.size+2→w1.heap[j]?=wr.heap[j]? from fun w1 hg j hj =>
    (hg.block j (by simp;omega) (fun e=>by have:=(hown.lt j e.symm).1;omega)).trans (Below.heap_alloc _ _ _ (by omega)))
   go_region_law (refine oper_append rfl _ _ 44 44 rfl sl22 (.inl sl22.ht) rfl hown0 rfl SRC (by omega) (by unfold maxLen;omega) (by simp;omega) ?_;intro a1 cap1 w1 hown1 hgr1;have b5:=b4.eq (HK.out w1 hgr1 _ (by omega));have x1:=b5.cellOf (i:=1) rfl;have x2:=b5.free 1)
   all_goals
    have b6:=b5.set 1 (.slice a1 (k+1) cap1)
    have hkp:∀j,j<w.heap.size+2→j≠w.heap.size+1→(w1.setCell ⟨w.heap.size+1,1,none⟩ (.slice a1 (k+1) cap1)).heap[j]?=wr.heap[j]?:=fun j hj hn=>(Below.heap_setCell _ _ _ _ hn).trans (HK.out w1 hgr1 j hj)
    have R6:=R4.eq (hkp w.heap.size (by omega) (by omega))
    have BU6:=(((BU.alloc (.cells #[.int .i64 nd.tx] 3)).drew).grown hgr1 (fun j hj=>.inr (by have:=(hown.lt j hj).1;omega))).setCell (p:=⟨w.heap.size+1,1,none⟩) (.inr (by simp)) (.slice a1 (k+1) cap1)
    have own6:=own_eq (w':=w1.setCell ⟨w.heap.size+1,1,none⟩ (.slice a1 (k+1) cap1)) hown1 (fun j hj=>Below.heap_setCell _ _ _ _ (by have:=(hown1.lt j hj).1;simp;omega))
    have hml:=HG.out.map.lt
    have set6:=hset.eq (hkp m (by omega) (by omega))
    have hb6:=hb2.but BU6 (by simp;exact hbg.2)
    clear hkp HK b5 x1 x2 hgr1 hown1 hown0 SRC e1x e1 f1 b4 hb4 hset BU R4 d0 hown
    generalize (w1.setCell ⟨w.heap.size+1,1,none⟩ (.slice a1 (k+1) cap1))=w5 at *
    have d0:=hb6.cellOf (i:=0) rfl
    have d5:=(HG.out.blk.but BU6 (by simp;exact HG.out.gm)).cellOf (i:=5) rfl
    have set7:SetM Tryz.prog 3 4 w5.drew m (nd.tx::(S.q.drop (k+1)).map Nd.tx):=by rw [← hT2.out];exact set6.eq rfl
    obtain ⟨w7,hrun,hm7,hturn⟩:=set7.drop ty3 ty60 hin.out 0
    rw [List.erase_cons_head] at hm7
    have BU7:=BU6.drew.turned hturn (.inl (by simp))
    have hkt:∀j,j<w5.heap.size→j≠m→w7.heap[j]?=w5.heap[j]?:=fun j hj hn=>hturn.grown.block j hj (fun e=>hn (Option.some.inj e))
    have hb7:=hb6.eq (hkt b hb6.lt hbg.2)
    have b7:=b6.eq (hkt _ b6.lt (by omega))
    have R7:=R6.eq (hkt _ R6.lt (by omega))
    have own7:=own_eq (w':=w7) own6 (fun j hj=>hkt j (own6.lt j hj).2 (by have:=(own6.lt j hj).1;omega))
    have d3:=hb7.cellOf (i:=3) rfl
    rw [show intVals ((S.q.take k).map Nd.tx)++[Value.int .i64 nd.tx]=intVals ((S.q.take (k+1)).map Nd.tx) from by rw [hT.out];simp only [intVals,List.map_append,List.map_cons,List.map_nil]] at own7
    clear hkt hturn b6 R6 own6 set6 set7 hb6 hb7 BU6 hcmp
    go_wp2_with fail
    go_still_tail 8,(by kernel_rfl)
    change wpList _ _ _ _ _ w5.drew
    clear d0 d5
    generalize w5.drew=w6 at *
    go_wp2_with fail
    go_roundw
    case rel=>exact ⟨k+1,a1,cap1,by omega,rfl,BU7,R7,b7,own7,hm7⟩
    case measure =>
     have h1:=hpos.out
     rw [hb1] at h1
     have h2:nodePos bs (.pointer (some ⟨b,0,none⟩))=k:=h1
     rw [hpos2.out,h2]
     have:=HG.out.blen
     omega
  ·have hkf:k=S.front:=by omega
   subst hkf
   rw [HPR.out]
   have hcmp:=run_neq_self wr pr
   have hgs:g<w.heap.size:=HG.out.blk.lt
   have hgm:=HG.out.gm
   have GB:=HG.out.blk.but BU (by simp;exact hgm)
   have gc3:=GB.cellOf (i:=3) rfl
   have gc4:=GB.cellOf (i:=4) rfl
   have gc6:=GB.cellOf (i:=6) rfl
   have gc7:=GB.cellOf (i:=7) rfl
   have gc8:=GB.cellOf (i:=8) rfl
   have gf3:=GB.free 3
   have gf4:=GB.free 4
   have gf6:=GB.free 6
   have gf7:=GB.free 7
   have gf8:=GB.free 8
   have bc0:=b4.cellOf (i:=0) rfl
   have bc1:=b4.cellOf (i:=1) rfl
   have hbg:¬ (w.heap.size+1=g):=by omega
   have hst:=HG.out.ok.stamp
   go_wp2_with fail
   go_region
   have hkp:∀j,j≠g→(((((wr.setCell ⟨g,4,none⟩ (.pointer pr)).setCell ⟨g,3,none⟩ (.int .i64 (S.stamp+(S.front:Int)))).setCell ⟨g,6,none⟩ (.bool true)).setCell ⟨g,7,none⟩ (.int .i64 S.stamp)).setCell ⟨g,8,none⟩ (.slice a S.front cap)).drew.heap[j]?=wr.heap[j]?:=fun j hj =>
    (Below.heap_setCell _ _ _ _ hj).trans ((Below.heap_setCell _ _ _ _ hj).trans ((Below.heap_setCell _ _ _ _ hj).trans ((Below.heap_setCell _ _ _ _ hj).trans (Below.heap_setCell _ _ _ _ hj))))
   have hlt:=Box.mk (show ((S.q.take S.front).map Nd.tx).length=S.front from by rw [List.length_map,List.length_take];omega)
   have hdr:∀i:Nat,(bs.drop S.front)[i]?=bs[S.front+i]?:=fun i=>List.getElem?_drop ..
   have GB8:Blk ((((((wr.setCell ⟨g,4,none⟩ (.pointer pr)).setCell ⟨g,3,none⟩ (.int .i64 (S.stamp+(S.front:Int)))).setCell ⟨g,6,none⟩ (.bool true)).setCell ⟨g,7,none⟩ (.int .i64 S.stamp)).setCell ⟨g,8,none⟩ (.slice a S.front cap)).drew) g 74 (grpVals S.cut m (bs.drop S.front) a cap):=by
    have:=(((((GB.set 4 (.pointer pr)).set 3 (.int .i64 (S.stamp+(S.front:Int)))).set 6 (.bool true)).set 7 (.int .i64 S.stamp)).set 8 (.slice a S.front cap)).drew
    unfold grpVals at this ⊢
    rw [hdr 0,Nat.add_zero,HPR.out,show S.cut.txs.length=S.front from hlt.out]
    exact this
   have BU8:But (fpOf g m bs ta) w ((((((wr.setCell ⟨g,4,none⟩ (.pointer pr)).setCell ⟨g,3,none⟩ (.int .i64 (S.stamp+(S.front:Int)))).setCell ⟨g,6,none⟩ (.bool true)).setCell ⟨g,7,none⟩ (.int .i64 S.stamp)).setCell ⟨g,8,none⟩ (.slice a S.front cap)).drew) :=
    ((((((BU.mono (F':=fpOf g m bs ta) (by simp [fpOf])).setCell (.inl (by simp [fpOf])) _).setCell (.inl (by simp [fpOf])) _).setCell (.inl (by simp [fpOf])) _).setCell (.inl (by simp [fpOf])) _).setCell (.inl (by simp [fpOf])) _).drew
   generalize (((((wr.setCell ⟨g,4,none⟩ (.pointer pr)).setCell ⟨g,3,none⟩ (.int .i64 (S.stamp+(S.front:Int)))).setCell ⟨g,6,none⟩ (.bool true)).setCell ⟨g,7,none⟩ (.int .i64 S.stamp)).setCell ⟨g,8,none⟩ (.slice a S.front cap)).drew=w8 at *
   have hold:∀x∈g::m::bs,x<w.heap.size:=fun x hx=>by
    simp only [List.mem_cons] at hx
    rcases hx with rfl | rfl | hx
    ·exact hgs
    ·exact HG.out.map.lt
    ·obtain ⟨i,hi,rfl⟩:=List.getElem_of_mem hx
     obtain ⟨b,hb1,hb2⟩:=HG.out.nodes i (by rw [← HG.out.blen];exact hi)
     rw [List.getElem?_eq_getElem hi,Option.some.injEq] at hb1
     rw [hb1];exact hb2.lt
   have own8:=own_eq (w':=w8) hown (fun j hj=>hkp j (by have:=(hown.lt j hj).1;omega))
   have G8:Grp w8 g m (bs.drop S.front) a cap S.cut:=by
    refine ⟨GB8,fun i hi=>?_,?_,?_,?_,?_,?_,GS.cut_ok HG.out.ok⟩
    ·have hi':i<S.q.length - S.front:=by
      have:=hi
      simp only [GS.cut,List.length_drop] at this
      exact this
     obtain ⟨b,hb1,hb2⟩:=HG.out.nodes (S.front+i) (by omega)
     have hg:=HG.out.node_g hb1
     refine ⟨b,by rw [hdr i];exact hb1,?_⟩
     have e0:S.cut.q[i]'hi=S.q[S.front+i]:=by simp only [GS.cut,List.getElem_drop]
     rw [e0,hdr (i+1)]
     exact (hb2.but BU (by simp;exact hg.2)).eq (hkp b hg.1)
    ·simp only [GS.cut,List.length_drop]
     rw [HG.out.blen]
    ·exact hset.eq (hkp m (Ne.symm hgm))
    ·have:=Rd.ofOwn own8
     rw [← hlt.out] at this
     rw [hlt.out] at this
     show Rd w8 a S.cut.txs.length cap 1 (intVals S.cut.txs)
     rw [show S.cut.txs.length=S.front from hlt.out]
     exact this
    ·exact HG.out.nodup.sublist (((List.drop_sublist _ _).cons_cons _).cons_cons _)
    ·intro ad ha
     have h1:=own8.lt ad.block (by rw [ha];rfl)
     refine ⟨fun hm=>?_,h1.2⟩
     have:=hold ad.block ((((List.drop_sublist S.front bs).cons_cons m).cons_cons g).subset hm)
     omega
   have R8:=R4.eq (hkp w.heap.size (by omega))
   have hsub:∀x∈fpOf g m (bs.drop S.front) a,x∈fpOf g m bs ta∨w.heap.size≤x:=fun x hx=>by
    simp only [fpOf,List.mem_cons,List.mem_append,Option.mem_toList] at hx ⊢
    rcases hx with h | h | h | h
    ·exact .inl (.inl h)
    ·exact .inl (.inr (.inl h))
    ·exact .inl (.inr (.inr (.inl (List.mem_of_mem_drop h))))
    ·obtain ⟨ad,ha,rfl⟩:=Option.map_eq_some_iff.1 h
     have h1:=own8.lt ad.block (by rw [ha];rfl)
     exact .inr (by omega)
   have hnew:∀x∈fpOf g m (bs.drop S.front) a,x<w8.heap.size∧x≠w.heap.size:=fun x hx=>by
    have hs8:=BU8.size
    simp only [fpOf,List.mem_cons,List.mem_append,Option.mem_toList] at hx
    rcases hx with h | h | h | h
    ·have:=hold x (by simp [h]);omega
    ·have:=hold x (by simp [h]);omega
    ·have:=hold x (by simp [List.mem_of_mem_drop h]);omega
    ·obtain ⟨ad,ha,rfl⟩:=Option.map_eq_some_iff.1 h
     have h1:=own8.lt ad.block (by rw [ha];rfl)
     exact ⟨h1.2,by omega⟩
   have HG8:=Box.mk G8;have HSUB:=Box.mk hsub;have HNEW:=Box.mk hnew;have HBU8:=Box.mk BU8
   have hs8:=BU8.size
   clear hkp hlt hdr GB8 BU8 hold own8 G8 hsub hnew gc3 gc4 gc6 gc7 gc8 gf3 gf4 gf6 gf7 gf8 bc0 bc1 GB hown hset b4 R4 BU hcmp
   go_wp2_with fail
   refine (open_any HG8.out).mono ?_
   rintro e w9 ⟨a9,c9,rfl,hrd9,hge9,hb9⟩
   have R9:=R8.call0 hb9
   have e1:S.cutFirst tick=S.cut.first:=by unfold GS.cutFirst;rw [HD.out];rfl
   have e2:S.cutTxs tick=S.cut.txs:=by unfold GS.cutTxs;rw [HD.out];rfl
   have e3:S.tryCut tick=S.cut:=by unfold GS.tryCut;rw [HD.out];rfl
   have e4:S.cut.opn=true:=rfl
   have E1:=Box.mk e1;have E2:=Box.mk e2;have E3:=Box.mk e3
   clear e1 e2 e3
   rw [e4]
   clear e4
   generalize S.cut.first=cf at *
   generalize S.cut.txs=ct at *
   generalize S.cut=C at *
   go_wp2_with ((with_reducible show wpList _ _ _ _ _ _);refine wpList_store_row (o:=⟨none,.store 72 (.tmp 4) (.tmp 75),_,_,_,_⟩) (cs:=[.int .i64 cf,.slice a9 ct.length c9]) rfl 72 _ _ rfl rfl agg32.info R9 rfl rfl rfl rfl (by simp [Value.oneCell']) ?_)
   exact bodyPost_ret (results_cell2 (g:=w.heap.size) (cs:=[.int .i64 cf,.slice a9 ct.length c9]) rfl _ rfl (R9.row _) agg32) rfl ⟨bs.drop S.front,a,cap,a9,c9,by rw [E1.out,E2.out,HD.out];rfl,by rw [E2.out];exact hrd9.eq (fun ad ha=>setRow_other _ _ _ _ (by have:=hge9 ad ha;have:=R8.lt;omega)),(fun ad ha=>⟨by have:=hge9 ad ha;omega,fun hm=>by have h1:=(HNEW.out _ hm).1;have h2:=hge9 ad ha;omega⟩),
    by rw [E3.out];exact (HG8.out.below hb9).but ((But.refl [w.heap.size] w9).setRow (.inl (by simp)) _) (fun x hx hm=>by simp at hm;exact (HNEW.out _ hx).2 hm),
    (HBU8.out.below hb9).setRow (.inr (Nat.le_refl _)) _,HSUB.out⟩
theorem cut_any {w:World} {g m:Nat} {bs:List Nat} {ta:Option Addr} {tc:Nat} {S:GS} (h:Grp w g m bs ta tc S) (tick:Int) :
  Calls Tryz.prog 53 #[.pointer (some ⟨g,0,none⟩),.int .i64 tick] w (RetC g m bs ta S tick w):=by
 cases hd:S.due tick
 ·exact cut_no h tick hd
 ·exact cut_yes h tick hd
end Go.Proofs.YtlfghapllmaigaaGreatDoor.Gr
namespace Go.Proofs.YtlfghapllmaigaaGreatDoor.Gr
open Go.RowKit
def GrpP (g:Nat) (S:GS):HP:=fun w F=>∃m bs ta tc,Grp w g m bs ta tc S∧F=fpOf g m bs ta
theorem Grp.fplt {w:World} {g m:Nat} {bs:List Nat} {ta:Option Addr} {tc:Nat} {S:GS} (h:Grp w g m bs ta tc S):∀x∈fpOf g m bs ta,x<w.heap.size:=by
 intro x hx
 simp only [fpOf,List.mem_cons,List.mem_append,Option.mem_toList] at hx
 rcases hx with rfl | rfl | hx | hx
 ·exact h.blk.lt
 ·exact h.map.lt
 ·obtain ⟨i,hi,rfl⟩:=List.getElem_of_mem hx
  obtain ⟨b,hb1,hb2⟩:=h.nodes i (by rw [← h.blen];exact hi)
  rw [List.getElem?_eq_getElem hi,Option.some.injEq] at hb1
  rw [hb1];exact hb2.lt
 ·obtain ⟨ad,ha,rfl⟩:=Option.map_eq_some_iff.1 hx
  exact (h.tsep ad ha).2
theorem Grp.eq {w w':World} {g m:Nat} {bs:List Nat} {ta:Option Addr} {tc:Nat} {S:GS} (h:Grp w g m bs ta tc S) (he:∀x∈fpOf g m bs ta,w'.heap[x]?=w.heap[x]?):Grp w' g m bs ta tc S:=by
 refine ⟨h.blk.eq (he g (by simp [fpOf])),fun i hi=>?_,h.blen,h.map.eq (he m (by simp [fpOf])),h.txs.eq (fun ad ha=>he _ (by rw [ha];simp [fpOf])),h.nodup,fun ad ha=>⟨(h.tsep ad ha).1,?_⟩,h.ok⟩
 ·obtain ⟨b,hb1,hb2⟩:=h.nodes i hi
  exact ⟨b,hb1,hb2.eq (he b (by simp [fpOf,List.mem_of_getElem? hb1]))⟩
 ·have h1:=(h.tsep ad ha).2
  have h2:=he ad.block (by rw [ha];simp [fpOf])
  rw [Array.getElem?_eq_getElem h1] at h2
  exact (Array.getElem?_eq_some_iff.1 h2).1
theorem GrpP.stb (g:Nat) (S:GS):Stb (GrpP g S) :=
 ⟨fun w F ⟨m,bs,ta,tc,h,hF⟩=>by subst hF;exact h.fplt,fun w w' F ⟨m,bs,ta,tc,h,hF⟩ he=>by subst hF;exact ⟨m,bs,ta,tc,h.eq he,rfl⟩⟩
section
variable {B:Nat} {w:World} {l:List HP} (O:Own B w l) (i:Nat) {g:Nat} {S:GS} (hi:l[i]?=some (GrpP g S))
include O
def RetNewO (S:GS) (B:Nat) (l:List HP) (w:World) (e:Ending) (w':World):Prop:=∃g,e=.returned (.pointer (some ⟨g,0,none⟩))∧Own B w' (l++[GrpP g S])∧Below B w w'
theorem new_own (most room delay next:Int) (hr:right most room delay next=true):Calls Tryz.prog 6 #[.int .i64 most,.int .i64 room,.int .i64 delay,.int .i64 next] w (RetNewO (GS.new most room delay next) B l w):=by
 refine (new_right most room delay next w hr).mono ?_
 rintro e w' ⟨g,m,rfl,hG,h1,h2,hb⟩
 refine ⟨g,rfl,O.more hb (GrpP.stb _ _) ⟨m,[],none,0,hG,rfl⟩ (fun x hx=>?_),(Below.mono hb O.base)⟩
 simp [fpOf] at hx
 rcases hx with rfl | rfl<;>omega
include hi
theorem own_ok:S.OK:=by
 obtain ⟨F,⟨m,bs,ta,tc,h,_⟩,_⟩:=O.get i hi;exact h.ok
theorem own_retG {v:Value} {S':GS} {f:FuncId} {args:Array Value} (h:∀m bs ta tc,Grp w g m bs ta tc S→Calls Tryz.prog f args w (RetG v g m bs ta S' w)):Calls Tryz.prog f args w (RetW v B (l.set i (GrpP g S')) w):=by
 obtain ⟨F,⟨m,bs,ta,tc,hG,hF⟩,hB,ht⟩:=O.turn i hi
 subst hF
 refine (h m bs ta tc hG).mono ?_
 rintro e w' ⟨bs',ta',tc',rfl,hG',hbut,hsub⟩
 exact ⟨rfl,ht _ w' _ (GrpP.stb _ _) hbut ⟨m,bs',ta',tc',hG',rfl⟩ hsub⟩
theorem ask_own (tx words tick:Int) (hx:In64 tx):Calls Tryz.prog 31 #[.pointer (some ⟨g,0,none⟩),.int .i64 tx,.int .i64 words,.int .i64 tick] w (RetW (.int .i64 (S.ask tx words tick).2) B (l.set i (GrpP g (S.ask tx words tick).1)) w) :=
 own_retG O i hi (fun _ _ _ _ hG=>ask_any hG tx words tick hx)
theorem due_own (tick:Int):Calls Tryz.prog 52 #[.pointer (some ⟨g,0,none⟩),.int .i64 tick] w (RetQ (.bool (S.due tick)) w):=by
 obtain ⟨F,⟨m,bs,ta,tc,hG,hF⟩,_⟩:=O.get i hi
 exact due_any hG tick
theorem next_own:Calls Tryz.prog 32 #[.pointer (some ⟨g,0,none⟩)] w fun e w'=>e=.returned (.int .i64 S.stamp)∧w'=w:=by
 obtain ⟨F,⟨m,bs,ta,tc,hG,hF⟩,_⟩:=O.get i hi
 exact next_any hG
def RetWait (xs:List Int) (B:Nat) (l:List HP) (w:World) (e:Ending) (w':World):Prop :=
 ∃a cap,e=.returned (.slice a xs.length cap)∧Own B w' (l++[RowP 3 1 a xs.length cap (intVals xs)])∧Below B w w'
theorem waiting_own:Calls Tryz.prog 33 #[.pointer (some ⟨g,0,none⟩)] w (RetWait (S.q.map Nd.tx) B l w):=by
 obtain ⟨F,⟨m,bs,ta,tc,hG,hF⟩,_⟩:=O.get i hi
 refine (waiting_any hG).mono ?_
 rintro e w' ⟨a,cap,rfl,hown,hb⟩
 exact ⟨a,cap,rfl,O.newRow hb hown (Nat.le_refl _),hb.mono O.base⟩
def RetCutO (S:GS) (tick:Int) (B:Nat) (l:List HP) (i g:Nat) (w:World) (e:Ending) (w':World):Prop :=
 ∃a cap,e=.returned (.tuple #[.agg #[.int .i64 (S.cutFirst tick),.slice a (S.cutTxs tick).length cap],.bool (S.due tick)])∧Own B w' (l.set i (GrpP g (S.tryCut tick))++[RdP 1 a (S.cutTxs tick).length cap (intVals (S.cutTxs tick))])∧Below B w w'
theorem cut_own (tick:Int):Calls Tryz.prog 53 #[.pointer (some ⟨g,0,none⟩),.int .i64 tick] w (RetCutO S tick B l i g w):=by
 obtain ⟨F,⟨m,bs,ta,tc,hG,hF⟩,hB,ht⟩:=O.turn i hi
 subst hF
 have hil:i<l.length:=(List.getElem?_eq_some_iff.1 hi).1
 refine (cut_any hG tick).mono ?_
 rintro e w' ⟨bs',ta',tc',a,cap,rfl,hrd,hge,hG',hbut,hsub⟩
 have hR:∃G,RdP 1 a (S.cutTxs tick).length cap (intVals (S.cutTxs tick)) w' G∧(∀x∈G,w.heap.size≤x∧x∉fpOf g m bs' ta'):=by
  cases a with
  | none=>exact ⟨[],⟨hrd,by simp,fun _ h=>by cases h⟩,by simp⟩
  | some ad =>
   cases hx:intVals (S.cutTxs tick) with
   | nil=>rw [hx] at hrd;exact ⟨[],⟨hrd,by simp,fun _ _ h=>absurd rfl h⟩,by simp⟩
   | cons y ys =>
    rw [hx] at hrd
    have hc:=hrd.hcell ad rfl 0 y rfl
    have hl:=cell_block_lt hc
    rw [add_block] at hl
    exact ⟨[ad.block],⟨hrd,by simp [hl],fun ad' h _=>by cases h;simp⟩,by simp;exact hge ad rfl⟩
 obtain ⟨G,hR,hGn⟩:=hR
 have hT:=ht (Both (GrpP g (S.tryCut tick)) (RdP 1 a (S.cutTxs tick).length cap (intVals (S.cutTxs tick)))) w' (fpOf g m bs' ta'++G) (Both.stb (GrpP.stb _ _) (RdP.stb _ _ _ _ _)) hbut ⟨_,_,⟨m,bs',ta',tc',hG',rfl⟩,hR,fun x hx hm=>(hGn x hm).2 hx,rfl⟩ (fun x hx=>by
  rcases List.mem_append.1 hx with h | h
  ·exact hsub x h
  ·exact .inr (hGn x h).1)
 have:=hT.1.part i (List.getElem?_set_self hil) (GrpP.stb _ _) (RdP.stb _ _ _ _ _)
 rw [List.set_set] at this
 exact ⟨a,cap,rfl,this,hT.2⟩
def RetDoneO (S:GS) (B:Nat) (l:List HP) (i g:Nat) (w:World) (e:Ending) (w':World):Prop :=
 ∃a cap,e=.returned (.slice a S.txs.length cap)∧Own B w' (l.set i (GrpP g S.done)++[RowP 129 2 a S.txs.length cap (repVals S.first S.txs S.txs.length)])∧Below B w w'
theorem done_own:Calls Tryz.prog 55 #[.pointer (some ⟨g,0,none⟩)] w (RetDoneO S B l i g w):=by
 obtain ⟨F,⟨m,bs,ta,tc,hG,hF⟩,hB,ht⟩:=O.turn i hi
 subst hF
 have hil:i<l.length:=(List.getElem?_eq_some_iff.1 hi).1
 refine (done_any hG).mono ?_
 rintro e w' ⟨a,cap,rfl,hown,hG',hbut⟩
 have hfp:∀x∈fpOf g m bs none,x∈fpOf g m bs ta:=fun x hx=>by
  simp only [fpOf,List.mem_cons,List.mem_append,Option.map_none,Option.toList_none,List.not_mem_nil,or_false] at hx ⊢
  rcases hx with h | h | h
  ·exact .inl h
  ·exact .inr (.inl h)
  ·exact .inr (.inr (.inl h))
 have hlt:=hG.fplt
 have hT:=ht (Both (GrpP g S.done) (RowP 129 2 a S.txs.length cap (repVals S.first S.txs S.txs.length))) w' (fpOf g m bs none++(Value.slice a S.txs.length cap).ownBlock.toList) (Both.stb (GrpP.stb _ _) (RowP.stb _ _ _ _ _ _)) hbut
  ⟨_,_,⟨m,bs,none,0,hG',rfl⟩,⟨own_base hown (Nat.zero_le _),rfl⟩,fun x hx hm=>by have h1:=hlt x (hfp x hx);have h2:=(hown.lt x (by simpa using hm)).1;omega,rfl⟩ (fun x hx=>by
  rcases List.mem_append.1 hx with h | h
  ·exact .inl (hfp x h)
  ·exact .inr (hown.lt x (by simpa using h)).1)
 have:=hT.1.part i (List.getElem?_set_self hil) (GrpP.stb _ _) (RowP.stb _ _ _ _ _ _)
 rw [List.set_set] at this
 exact ⟨a,cap,rfl,this,hT.2⟩
end
end Go.Proofs.YtlfghapllmaigaaGreatDoor.Gr
