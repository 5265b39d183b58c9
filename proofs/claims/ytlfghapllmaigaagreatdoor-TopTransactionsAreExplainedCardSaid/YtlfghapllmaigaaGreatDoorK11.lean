/-
  slices.AppendSeq and slices.Collect at the element types of the transactions' texts; The iterators of maps.Keys and maps.Values. Conditions: each theorem's own hypotheses.
-/
import Derived.Test.YtlfghapllmaigaaGreatDoorK10
import Derived.Sort.LoopGhostIn
namespace Go.Proofs.YtlfghapllmaigaaGreatDoor
section
open Go.RowKit Go.Maps
attribute [local go_sem] Oper.semAt_some
def encI (x:Int):List Value:=[.int .i64 x]
theorem encI_one (x:Int):∀u∈encI x,u.oneCell'=true:=by intro u hu;simp [encI] at hu;subst hu;rfl
theorem blk_own {β:Type} (B:Nat) (T:TypeId) (f:β→List Value):_root_.Go.Own (fun s W=>Blk W B T (f s)):=fun s X Y row hs hg hrow =>
 (hg.block B hs.lt (fun e'=>by obtain ⟨o,ho,hc⟩:=hrow B e'.symm;rw [show X.heap[B]?=_ from hs] at ho;cases ho;cases hc)).trans hs
theorem recC_encI (l:List Int):recC encI l=intVals l:=by induction l with | nil=>rfl | cons x l ih=>rw [recC_cons,ih];rfl
set_option maxRecDepth 100000 in
set_option maxHeartbeats 2000000 in
theorem apps_int {gf:Nat} {lb:Array Value} (eg:∀args w,(callFunc gf args).run Tryz.prog w=.ok (.enter gf args) w) {S:List Int→Prop} {N:Nat} {w:World} (hseq:IterK gf lb (fun x:Int=>#[.int .i64 x]) S N w) (hN:N≤1000000) :
  Calls Tryz.prog 154 #[.slice none 0 0,.func (.func gf) #[] lb] w (RetCol S encI 3 1 w):=by
 refine (callsIn_wide (n:=8)).1 ?_
 have h1:1≤8:=by omega
 have hfg:Fence.wide.fn gf:=trivial
 refine callsIn_of_wp_marks Tryz.func154 rfl trivial ?_ rfl
 simp only [Tryz.ntmps154,List.size_toArray,List.length_cons,List.length_nil,Nat.reduceAdd,Nat.reduceSub,Array.replicate_succ,Array.replicate_zero,List.push_toArray,List.append_toArray,List.nil_append,List.cons_append]
 gi_wp2
 have bO:=Boxed.new w 44 (.slice none 0 0)
 have hB0:Below w.heap.size w (w.alloc (.cells #[.slice none 0 0] 44)):=(Below.refl _ w).alloc (Nat.le_refl _) _
 refine wpIn_rangeFunc_ownG rfl h1 (gf:=gf) (lb:=lb) rfl hfg eg
  (hseq w.heap.size rfl) KpB.t (fun W l o o' h=>KpB.b (w:=w) (Nat.le_refl _) W l o o' (by simp at h;omega)) hB0 (fun _=>rfl)
  (fun pre W=>(∃v,Boxed W w.heap.size 44 v∧W.ownsRow w.heap.size 3 1 v pre.length (recC encI pre)∧True)∧Below w.heap.size w W)
  (fun _ _ _=>False)
  (OwnFrom.and (_root_.Go.Own.from (holdsRow_own w.heap.size w.heap.size 44 3 1 (fun pre=>pre.length) (fun pre=>recC encI pre) (fun _ _=>True)) _) (ownFrom_below (Nat.le_refl _) (by simp)))
  (fun _ _ _ _ _ hs _ _=>hs)
  ⟨⟨_,bO,World.ownsRow_nil _ _ _ _,trivial⟩,hB0⟩
  (fun x=>{ tmps:=#[.slice none 0 0,.func (.func gf) #[] lb,.pointer (some ⟨w.heap.size,0,none⟩),undef,.slice none 0 0,.int .i64 x,.func (.func gf) #[] lb,.int .i64 x,undef,undef,undef,undef,undef],defers:=[] }) ?assign ?body ?done ?stop
 case assign =>
  intro l x W K hK
  gi_wp2
  exact hK
 case body =>
  rintro l pre x W ⟨⟨v,hv,hrow,-⟩,hB⟩ hlt
  obtain ⟨a,cap,rfl⟩:=own_shape hrow
  have hc:=hv.cell
  gi_wp2_with (first | (gi_at_builtin;refine wpListIn_append_src rfl _ _ 44 44 rfl sl_int (.inl sl_int.ht) rfl (hrow.alloc _) rfl (Src.lone W ([.int .i64 x]) 3 rfl (encI_one x)) (by omega) (by unfold maxLen;omega) (by have:=hB.size;simp;omega) ?_;intro a' cap' w1 hown' hgrow;obtain ⟨hv1,hv2,hr2,hk2,hb2⟩:=hv.appended (by decide) hrow hB.size (Nat.le_refl _) hown' hgrow;have hc1:=hv1.cell;have hf1:=hv1.frozen))
  exact ⟨hk2.from _,⟨hb2,hk2.walks⟩,⟨_,hv2,by rw [recC_append,List.length_append];exact hr2,trivial⟩,hB.trans hb2⟩
 case done =>
  rintro D ys W hD hS ⟨⟨v,hv,hrow,-⟩,hB⟩ hK
  obtain ⟨a,cap,rfl⟩:=own_shape hrow
  have hc:=hv.cell
  gi_wp2
  refine ⟨by simp,.inl ⟨_,_,rfl,run_takeDeferred hK,?_⟩⟩
  exact ⟨_,results_tmp rfl _ _ _,hB.trans (belowK_b (w:=w) (Nat.le_refl _) W D _ _ (by simp at hD;omega) hK rfl rfl),ys,a,cap,hS,rfl,ownsRow_putObj hrow _ hK rfl⟩
 case stop =>
  rintro D c pre W _ _ h _
  exact h.elim
set_option maxRecDepth 20000 in
set_option maxHeartbeats 2000000 in
theorem coll_int {gf:Nat} {lb:Array Value} (eg:∀args w,(callFunc gf args).run Tryz.prog w=.ok (.enter gf args) w) {S:List Int→Prop} {N:Nat} {w:World} (hseq:IterK gf lb (fun x:Int=>#[.int .i64 x]) S N w) (hN:N≤1000000) :
  Calls Tryz.prog 110 #[.func (.func gf) #[] lb] w (RetCol S encI 3 1 w):=by
 have HC:=Box.mk (apps_int eg hseq hN)
 clear hseq eg
 go_enter Tryz.func110,Tryz.ntmps110
 go_wp2_with fail
 refine HC.out.mono ?_
 rintro e w1 ⟨hb,xs,a,c,hS,rfl,hrow⟩
 go_wp2_with fail
 go_ret
 exact ⟨hb,xs,a,c,hS,rfl,hrow⟩
theorem sl_hd:SlT Tryz.prog 52 136 (.agg #[.int .i64 0,.int .i64 0,.int .i64 0,.slice none 0 0]) 4 48:=⟨by kernel_rfl,by kernel_rfl,rfl⟩
set_option maxRecDepth 100000 in
set_option maxHeartbeats 2000000 in
theorem apps_hd {gf:Nat} {lb:Array Value} (eg:∀args w,(callFunc gf args).run Tryz.prog w=.ok (.enter gf args) w) {S:List HdP→Prop} {N:Nat} {w:World} (hseq:IterK gf lb (fun x:HdP=>#[HdP.v x]) S N w) (hN:N≤1000000) :
  Calls Tryz.prog 160 #[.slice none 0 0,.func (.func gf) #[] lb] w (RetCol S HdP.enc 136 4 w):=by
 refine (callsIn_wide (n:=8)).1 ?_
 have h1:1≤8:=by omega
 have hfg:Fence.wide.fn gf:=trivial
 refine callsIn_of_wp_marks Tryz.func160 rfl trivial ?_ rfl
 simp only [Tryz.ntmps160,List.size_toArray,List.length_cons,List.length_nil,Nat.reduceAdd,Nat.reduceSub,Array.replicate_succ,Array.replicate_zero,List.push_toArray,List.append_toArray,List.nil_append,List.cons_append]
 gi_wp2
 have bO:=Boxed.new w 52 (.slice none 0 0)
 have hB0:Below w.heap.size w (w.alloc (.cells #[.slice none 0 0] 52)):=(Below.refl _ w).alloc (Nat.le_refl _) _
 refine wpIn_rangeFunc_ownH rfl h1 (gf:=gf) (lb:=lb) rfl hfg eg
  (hseq w.heap.size rfl) KpB.t (fun W l o o' h=>KpB.b (w:=w) (Nat.le_refl _) W l o o' (by simp at h;omega)) hB0 (fun _=>rfl)
  (fun pre W=>(∃v,Boxed W w.heap.size 52 v∧W.ownsRow w.heap.size 136 4 v pre.length (recC HdP.enc pre)∧True)∧Below w.heap.size w W)
  (fun _ _ _=>False)
  (OwnFrom.and (_root_.Go.Own.from (holdsRow_own w.heap.size w.heap.size 52 136 4 (fun pre=>pre.length) (fun pre=>recC HdP.enc pre) (fun _ _=>True)) _) (ownFrom_below (Nat.le_refl _) (by simp)))
  (fun _ _ _ _ _ hs _ _=>hs)
  ⟨⟨_,bO,World.ownsRow_nil _ _ _ _,trivial⟩,hB0⟩
  (fun x a' W=>∃Bx,w.heap.size<Bx∧Blk W Bx 136 (HdP.enc x)∧a'={ tmps:=#[.slice none 0 0,.func (.func gf) #[] lb,.pointer (some ⟨w.heap.size,0,none⟩),undef,.slice none 0 0,.pointer (some ⟨Bx,0,none⟩),.func (.func gf) #[] lb,HdP.v x,undef,undef,undef,undef,undef],defers:=[] })
  (fun x a' _ X Y row hs hg hr=>by obtain ⟨Bx,h1,h2,h3⟩:=hs;exact ⟨Bx,h1,blk_own Bx 136 (fun (_:Unit)=>HdP.enc x) () X Y row h2 hg (fun r e=>(hr r e).2),h3⟩)
  ?assign ?body ?done ?stop
 case assign =>
  rintro l pre x W K ⟨⟨v,hv,hrow,-⟩,hB⟩ hK
  have hnew:Blk (W.alloc (.cells (HdP.enc x).toArray 136)) W.heap.size 136 (HdP.enc x):=Blk.new rfl rfl
  have hK2:=hK _ _ ((KeepsOthers.alloc W (.cells (HdP.enc x).toArray 136)).from _) ⟨(Below.refl _ W).alloc hB.size _,(KeepsOthers.alloc _ _).walks⟩ ⟨⟨v,hv.alloc _,hrow.alloc _,trivial⟩,hB.alloc hB.size _⟩ ⟨W.heap.size,hv.lt,hnew,rfl⟩
  obtain ⟨yt,yr,ys,ya,yc,yl⟩:=x
  simp only [HdP.v] at hK2 ⊢
  gi_wp2
  exact hK2
 case body =>
  rintro l pre x a1 W - - ⟨⟨v,hv,hrow,-⟩,hB⟩ ⟨Bx,hBx,hX,rfl⟩ hlt
  obtain ⟨a,cap,rfl⟩:=own_shape hrow
  have hc:=hv.cell
  have hrec:recC HdP.enc (pre++[x])=recC HdP.enc pre++HdP.enc x:=by rw [recC_append];simp [recC]
  obtain ⟨yt,yr,ys,ya,yc,yl⟩:=x
  simp only [HdP.v]
  have c0:=hX.cellOf (i:=0) rfl
  have c1:=hX.cellOf (i:=1) rfl
  have c2:=hX.cellOf (i:=2) rfl
  have c3:=hX.cellOf (i:=3) rfl
  gi_wp2_with (first | (gi_at_builtin;refine wpListIn_append_src rfl _ _ 52 52 rfl sl_hd (.inl sl_hd.ht) rfl (hrow.alloc _) rfl (Src.lone W (HdP.enc ⟨yt,yr,ys,ya,yc,yl⟩) 136 rfl (HdP.enc_one _)) (by omega) (by unfold maxLen;omega) (by have:=hB.size;simp;omega) ?_;intro a' cap' w1 hown' hgrow;obtain ⟨hv1,hv2,hr2,hk2,hb2⟩:=hv.appended (by decide) hrow hB.size (Nat.le_refl _) hown' hgrow;have hc1:=hv1.cell;have hf1:=hv1.frozen))
  exact ⟨hk2.from _,⟨hb2,hk2.walks⟩,⟨_,hv2,by rw [hrec,List.length_append];exact hr2⟩,hB.trans hb2⟩
 case done =>
  rintro D ys W hD hS ⟨⟨v,hv,hrow,-⟩,hB⟩ hK
  obtain ⟨a,cap,rfl⟩:=own_shape hrow
  have hc:=hv.cell
  gi_wp2
  refine ⟨by simp,.inl ⟨_,_,rfl,run_takeDeferred hK,?_⟩⟩
  exact ⟨_,results_tmp rfl _ _ _,hB.trans (belowK_b (w:=w) (Nat.le_refl _) W D _ _ (by simp at hD;omega) hK rfl rfl),ys,a,cap,hS,rfl,ownsRow_putObj hrow _ hK rfl⟩
 case stop =>
  rintro D c pre W _ _ h _
  exact h.elim
set_option maxRecDepth 20000 in
set_option maxHeartbeats 2000000 in
theorem coll_hd {gf:Nat} {lb:Array Value} (eg:∀args w,(callFunc gf args).run Tryz.prog w=.ok (.enter gf args) w) {S:List HdP→Prop} {N:Nat} {w:World} (hseq:IterK gf lb (fun x:HdP=>#[HdP.v x]) S N w) (hN:N≤1000000) :
  Calls Tryz.prog 131 #[.func (.func gf) #[] lb] w (RetCol S HdP.enc 136 4 w):=by
 have HC:=Box.mk (apps_hd eg hseq hN)
 clear hseq eg
 go_enter Tryz.func131,Tryz.ntmps131
 go_wp2_with fail
 refine HC.out.mono ?_
 rintro e w1 ⟨hb,xs,a,c,hS,rfl,hrow⟩
 go_wp2_with fail
 go_ret
 exact ⟨hb,xs,a,c,hS,rfl,hrow⟩
theorem sl_wr:SlT Tryz.prog 80 90 (.agg #[.int .i64 0,.int .i64 0,.bool false,.slice none 0 0]) 4 48:=⟨by kernel_rfl,by kernel_rfl,rfl⟩
set_option maxRecDepth 100000 in
set_option maxHeartbeats 2000000 in
theorem apps_wr {gf:Nat} {lb:Array Value} (eg:∀args w,(callFunc gf args).run Tryz.prog w=.ok (.enter gf args) w) {S:List WrP→Prop} {N:Nat} {w:World} (hseq:IterK gf lb (fun x:WrP=>#[WrP.v x]) S N w) (hN:N≤1000000) :
  Calls Tryz.prog 169 #[.slice none 0 0,.func (.func gf) #[] lb] w (RetCol S WrP.enc 90 4 w):=by
 refine (callsIn_wide (n:=8)).1 ?_
 have h1:1≤8:=by omega
 have hfg:Fence.wide.fn gf:=trivial
 refine callsIn_of_wp_marks Tryz.func169 rfl trivial ?_ rfl
 simp only [Tryz.ntmps169,List.size_toArray,List.length_cons,List.length_nil,Nat.reduceAdd,Nat.reduceSub,Array.replicate_succ,Array.replicate_zero,List.push_toArray,List.append_toArray,List.nil_append,List.cons_append]
 gi_wp2
 have bO:=Boxed.new w 80 (.slice none 0 0)
 have hB0:Below w.heap.size w (w.alloc (.cells #[.slice none 0 0] 80)):=(Below.refl _ w).alloc (Nat.le_refl _) _
 refine wpIn_rangeFunc_ownH rfl h1 (gf:=gf) (lb:=lb) rfl hfg eg
  (hseq w.heap.size rfl) KpB.t (fun W l o o' h=>KpB.b (w:=w) (Nat.le_refl _) W l o o' (by simp at h;omega)) hB0 (fun _=>rfl)
  (fun pre W=>(∃v,Boxed W w.heap.size 80 v∧W.ownsRow w.heap.size 90 4 v pre.length (recC WrP.enc pre)∧True)∧Below w.heap.size w W)
  (fun _ _ _=>False)
  (OwnFrom.and (_root_.Go.Own.from (holdsRow_own w.heap.size w.heap.size 80 90 4 (fun pre=>pre.length) (fun pre=>recC WrP.enc pre) (fun _ _=>True)) _) (ownFrom_below (Nat.le_refl _) (by simp)))
  (fun _ _ _ _ _ hs _ _=>hs)
  ⟨⟨_,bO,World.ownsRow_nil _ _ _ _,trivial⟩,hB0⟩
  (fun x a' W=>∃Bx,w.heap.size<Bx∧Blk W Bx 90 (WrP.enc x)∧a'={ tmps:=#[.slice none 0 0,.func (.func gf) #[] lb,.pointer (some ⟨w.heap.size,0,none⟩),undef,.slice none 0 0,.pointer (some ⟨Bx,0,none⟩),.func (.func gf) #[] lb,WrP.v x,undef,undef,undef,undef,undef],defers:=[] })
  (fun x a' _ X Y row hs hg hr=>by obtain ⟨Bx,h1,h2,h3⟩:=hs;exact ⟨Bx,h1,blk_own Bx 90 (fun (_:Unit)=>WrP.enc x) () X Y row h2 hg (fun r e=>(hr r e).2),h3⟩)
  ?assign ?body ?done ?stop
 case assign =>
  rintro l pre x W K ⟨⟨v,hv,hrow,-⟩,hB⟩ hK
  have hnew:Blk (W.alloc (.cells (WrP.enc x).toArray 90)) W.heap.size 90 (WrP.enc x):=Blk.new rfl rfl
  have hK2:=hK _ _ ((KeepsOthers.alloc W (.cells (WrP.enc x).toArray 90)).from _) ⟨(Below.refl _ W).alloc hB.size _,(KeepsOthers.alloc _ _).walks⟩ ⟨⟨v,hv.alloc _,hrow.alloc _,trivial⟩,hB.alloc hB.size _⟩ ⟨W.heap.size,hv.lt,hnew,rfl⟩
  obtain ⟨yt,yr,yd,ya,yc,yl⟩:=x
  simp only [WrP.v] at hK2 ⊢
  gi_wp2
  exact hK2
 case body =>
  rintro l pre x a1 W - - ⟨⟨v,hv,hrow,-⟩,hB⟩ ⟨Bx,hBx,hX,rfl⟩ hlt
  obtain ⟨a,cap,rfl⟩:=own_shape hrow
  have hc:=hv.cell
  have hrec:recC WrP.enc (pre++[x])=recC WrP.enc pre++WrP.enc x:=by rw [recC_append];simp [recC]
  obtain ⟨yt,yr,yd,ya,yc,yl⟩:=x
  simp only [WrP.v]
  have c0:=hX.cellOf (i:=0) rfl
  have c1:=hX.cellOf (i:=1) rfl
  have c2:=hX.cellOf (i:=2) rfl
  have c3:=hX.cellOf (i:=3) rfl
  gi_wp2_with (first | (gi_at_builtin;refine wpListIn_append_src rfl _ _ 80 80 rfl sl_wr (.inl sl_wr.ht) rfl (hrow.alloc _) rfl (Src.lone W (WrP.enc ⟨yt,yr,yd,ya,yc,yl⟩) 90 rfl (WrP.enc_one _)) (by omega) (by unfold maxLen;omega) (by have:=hB.size;simp;omega) ?_;intro a' cap' w1 hown' hgrow;obtain ⟨hv1,hv2,hr2,hk2,hb2⟩:=hv.appended (by decide) hrow hB.size (Nat.le_refl _) hown' hgrow;have hc1:=hv1.cell;have hf1:=hv1.frozen))
  exact ⟨hk2.from _,⟨hb2,hk2.walks⟩,⟨_,hv2,by rw [hrec,List.length_append];exact hr2⟩,hB.trans hb2⟩
 case done =>
  rintro D ys W hD hS ⟨⟨v,hv,hrow,-⟩,hB⟩ hK
  obtain ⟨a,cap,rfl⟩:=own_shape hrow
  have hc:=hv.cell
  gi_wp2
  refine ⟨by simp,.inl ⟨_,_,rfl,run_takeDeferred hK,?_⟩⟩
  exact ⟨_,results_tmp rfl _ _ _,hB.trans (belowK_b (w:=w) (Nat.le_refl _) W D _ _ (by simp at hD;omega) hK rfl rfl),ys,a,cap,hS,rfl,ownsRow_putObj hrow _ hK rfl⟩
 case stop =>
  rintro D c pre W _ _ h _
  exact h.elim
set_option maxRecDepth 20000 in
set_option maxHeartbeats 2000000 in
theorem coll_wr {gf:Nat} {lb:Array Value} (eg:∀args w,(callFunc gf args).run Tryz.prog w=.ok (.enter gf args) w) {S:List WrP→Prop} {N:Nat} {w:World} (hseq:IterK gf lb (fun x:WrP=>#[WrP.v x]) S N w) (hN:N≤1000000) :
  Calls Tryz.prog 150 #[.func (.func gf) #[] lb] w (RetCol S WrP.enc 90 4 w):=by
 have HC:=Box.mk (apps_wr eg hseq hN)
 clear hseq eg
 go_enter Tryz.func150,Tryz.ntmps150
 go_wp2_with fail
 refine HC.out.mono ?_
 rintro e w1 ⟨hb,xs,a,c,hS,rfl,hrow⟩
 go_wp2_with fail
 go_ret
 exact ⟨hb,xs,a,c,hS,rfl,hrow⟩
set_option maxRecDepth 100000 in
set_option maxHeartbeats 2000000 in
theorem apps_ver {gf:Nat} {lb:Array Value} (eg:∀args w,(callFunc gf args).run Tryz.prog w=.ok (.enter gf args) w) {S:List VerP→Prop} {N:Nat} {w:World} (hseq:IterK gf lb (fun x:VerP=>#[VerP.v x]) S N w) (hN:N≤1000000) :
  Calls Tryz.prog 213 #[.slice none 0 0,.func (.func gf) #[] lb] w (RetCol S VerP.enc 93 4 w):=by
 refine (callsIn_wide (n:=8)).1 ?_
 have h1:1≤8:=by omega
 have hfg:Fence.wide.fn gf:=trivial
 refine callsIn_of_wp_marks Tryz.func213 rfl trivial ?_ rfl
 simp only [Tryz.ntmps213,List.size_toArray,List.length_cons,List.length_nil,Nat.reduceAdd,Nat.reduceSub,Array.replicate_succ,Array.replicate_zero,List.push_toArray,List.append_toArray,List.nil_append,List.cons_append]
 gi_wp2
 have bO:=Boxed.new w 32 (.slice none 0 0)
 have hB0:Below w.heap.size w (w.alloc (.cells #[.slice none 0 0] 32)):=(Below.refl _ w).alloc (Nat.le_refl _) _
 refine wpIn_rangeFunc_ownH rfl h1 (gf:=gf) (lb:=lb) rfl hfg eg
  (hseq w.heap.size rfl) KpB.t (fun W l o o' h=>KpB.b (w:=w) (Nat.le_refl _) W l o o' (by simp at h;omega)) hB0 (fun _=>rfl)
  (fun pre W=>(∃v,Boxed W w.heap.size 32 v∧W.ownsRow w.heap.size 93 4 v pre.length (recC VerP.enc pre)∧True)∧Below w.heap.size w W)
  (fun _ _ _=>False)
  (OwnFrom.and (_root_.Go.Own.from (holdsRow_own w.heap.size w.heap.size 32 93 4 (fun pre=>pre.length) (fun pre=>recC VerP.enc pre) (fun _ _=>True)) _) (ownFrom_below (Nat.le_refl _) (by simp)))
  (fun _ _ _ _ _ hs _ _=>hs)
  ⟨⟨_,bO,World.ownsRow_nil _ _ _ _,trivial⟩,hB0⟩
  (fun x a' W=>∃Bx,w.heap.size<Bx∧Blk W Bx 93 (VerP.enc x)∧a'={ tmps:=#[.slice none 0 0,.func (.func gf) #[] lb,.pointer (some ⟨w.heap.size,0,none⟩),undef,.slice none 0 0,.pointer (some ⟨Bx,0,none⟩),.func (.func gf) #[] lb,VerP.v x,undef,undef,undef,undef,undef],defers:=[] })
  (fun x a' _ X Y row hs hg hr=>by obtain ⟨Bx,h1,h2,h3⟩:=hs;exact ⟨Bx,h1,blk_own Bx 93 (fun (_:Unit)=>VerP.enc x) () X Y row h2 hg (fun r e=>(hr r e).2),h3⟩)
  ?assign ?body ?done ?stop
 case assign =>
  rintro l pre x W K ⟨⟨v,hv,hrow,-⟩,hB⟩ hK
  have hnew:Blk (W.alloc (.cells (VerP.enc x).toArray 93)) W.heap.size 93 (VerP.enc x):=Blk.new rfl rfl
  have hK2:=hK _ _ ((KeepsOthers.alloc W (.cells (VerP.enc x).toArray 93)).from _) ⟨(Below.refl _ W).alloc hB.size _,(KeepsOthers.alloc _ _).walks⟩ ⟨⟨v,hv.alloc _,hrow.alloc _,trivial⟩,hB.alloc hB.size _⟩ ⟨W.heap.size,hv.lt,hnew,rfl⟩
  obtain ⟨yt,yr,yd,ya,yc,yl⟩:=x
  simp only [VerP.v] at hK2 ⊢
  gi_wp2
  exact hK2
 case body =>
  rintro l pre x a1 W - - ⟨⟨v,hv,hrow,-⟩,hB⟩ ⟨Bx,hBx,hX,rfl⟩ hlt
  obtain ⟨a,cap,rfl⟩:=own_shape hrow
  have hc:=hv.cell
  have hrec:recC VerP.enc (pre++[x])=recC VerP.enc pre++VerP.enc x:=by rw [recC_append];simp [recC]
  obtain ⟨yt,yr,yd,ya,yc,yl⟩:=x
  simp only [VerP.v]
  have c0:=hX.cellOf (i:=0) rfl
  have c1:=hX.cellOf (i:=1) rfl
  have c2:=hX.cellOf (i:=2) rfl
  have c3:=hX.cellOf (i:=3) rfl
  gi_wp2_with (first | (gi_at_builtin;refine wpListIn_append_src rfl _ _ 32 32 rfl sl_ver (.inl sl_ver.ht) rfl (hrow.alloc _) rfl (Src.lone W (VerP.enc ⟨yt,yr,yd,ya,yc,yl⟩) 93 rfl (VerP.enc_one _)) (by omega) (by unfold maxLen;omega) (by have:=hB.size;simp;omega) ?_;intro a' cap' w1 hown' hgrow;obtain ⟨hv1,hv2,hr2,hk2,hb2⟩:=hv.appended (by decide) hrow hB.size (Nat.le_refl _) hown' hgrow;have hc1:=hv1.cell;have hf1:=hv1.frozen))
  exact ⟨hk2.from _,⟨hb2,hk2.walks⟩,⟨_,hv2,by rw [hrec,List.length_append];exact hr2⟩,hB.trans hb2⟩
 case done =>
  rintro D ys W hD hS ⟨⟨v,hv,hrow,-⟩,hB⟩ hK
  obtain ⟨a,cap,rfl⟩:=own_shape hrow
  have hc:=hv.cell
  gi_wp2
  refine ⟨by simp,.inl ⟨_,_,rfl,run_takeDeferred hK,?_⟩⟩
  exact ⟨_,results_tmp rfl _ _ _,hB.trans (belowK_b (w:=w) (Nat.le_refl _) W D _ _ (by simp at hD;omega) hK rfl rfl),ys,a,cap,hS,rfl,ownsRow_putObj hrow _ hK rfl⟩
 case stop =>
  rintro D c pre W _ _ h _
  exact h.elim
set_option maxRecDepth 20000 in
set_option maxHeartbeats 2000000 in
theorem coll_ver {gf:Nat} {lb:Array Value} (eg:∀args w,(callFunc gf args).run Tryz.prog w=.ok (.enter gf args) w) {S:List VerP→Prop} {N:Nat} {w:World} (hseq:IterK gf lb (fun x:VerP=>#[VerP.v x]) S N w) (hN:N≤1000000) :
  Calls Tryz.prog 182 #[.func (.func gf) #[] lb] w (RetCol S VerP.enc 93 4 w):=by
 have HC:=Box.mk (apps_ver eg hseq hN)
 clear hseq eg
 go_enter Tryz.func182,Tryz.ntmps182
 go_wp2_with fail
 refine HC.out.mono ?_
 rintro e w1 ⟨hb,xs,a,c,hS,rfl,hrow⟩
 go_wp2_with fail
 go_ret
 exact ⟨hb,xs,a,c,hS,rfl,hrow⟩
end
section
open Go.RowKit Go.Maps
attribute [local go_sem] Oper.semAt_some
def kI (x:Int):Value:=.int .i64 x
theorem kI_inj:∀a a',kI a=kI a'→a=a':=fun a a' h=>by unfold kI at h;simp only [Value.int.injEq,true_and] at h;exact h
theorem perm_of_mem {α:Type} [DecidableEq α]:∀ {E l:List α},E.Nodup→l.Nodup→(∀x∈E,x∈l)→(∀x∈l,x∈E)→E.Perm l
 | [],l,_,_,_,h=>by
  cases l with
  | nil=>exact List.Perm.refl _
  | cons y l=>exact absurd (h y (by simp)) (by simp)
 | x::E,l,h1,h2,h3,h4=>by
  obtain ⟨hx,h1'⟩:=List.nodup_cons.1 h1
  have hxl:=h3 x (by simp)
  refine ((perm_of_mem (l:=l.erase x) h1' (h2.erase _) (fun y hy=>?_) (fun y hy=>?_)).cons x).trans (List.perm_cons_erase hxl).symm
  ·exact (h2.mem_erase_iff).2 ⟨fun e=>hx (e▸hy),h3 y (by simp [hy])⟩
  ·obtain ⟨hne,hyl⟩:=(h2.mem_erase_iff).1 hy
   rcases List.mem_cons.1 (h4 y hyl) with e | h
   ·exact absurd e hne
   ·exact h
structure Seen {α β:Type} [DecidableEq α] (l E:List (α×β)):Prop where
 nd:(E.map (·.1)).Nodup
 mem:∀p∈E,p∈l
 left:leftA l (E.map (·.1))+E.length≤l.length
theorem Seen.start {α β:Type} [DecidableEq α] (l:List (α×β)):Seen l []:=⟨by simp,by simp,by simp [leftA_le]⟩
theorem Seen.step {α β:Type} [DecidableEq α] {l E:List (α×β)} (h:Seen l E) {x:α} {v:β} (hm:(x,v)∈l) (hx:x∉E.map (·.1)):Seen l ((x,v)::E)∧E.length<l.length:=by
 have h1:leftA l (x::E.map (·.1))<leftA l (E.map (·.1)):=leftA_lt (mem_keysA_of hm) hx
 have h2:=h.left
 refine ⟨⟨by simp only [List.map_cons];exact List.nodup_cons.2 ⟨hx,h.nd⟩,fun p hp=>?_,by simp only [List.map_cons,List.length_cons];omega⟩,by omega⟩
 rcases List.mem_cons.1 hp with rfl | hp
 ·exact hm
 ·exact h.mem p hp
theorem Seen.all {α β:Type} [DecidableEq α] {l E:List (α×β)} (h:Seen l E) (hn:(keysA l).Nodup) (hall:∀p∈l,p.1∈E.map (·.1)):E.Perm l:=by
 classical
 refine perm_of_mem (nodup_of_map h.nd) (nodup_of_map hn) h.mem (fun p hp=>?_)
 obtain ⟨q,hq,e⟩:=List.mem_map.1 (hall p hp)
 have h1:=getA_of_mem hn (show (p.1,p.2)∈l from hp)
 have h2:=getA_of_mem hn (show (q.1,q.2)∈l from h.mem q hq)
 rw [e,h1] at h2
 have e2:p=q:=Prod.ext e.symm (by simpa using h2)
 rw [e2];exact hq
theorem MapR.walks {α β:Type} {P:Program} {k:TypeId} {ek:α→Value} {ev:β→Value} {w w':World} {b r:Nat} {l:List (α×β)} {S:List α} (h:MapR P k ek ev w b r l S) (hk:KeepsWalks w w'):MapR P k ek ev w' b r l S:=by
 obtain ⟨es,clock,since,seen,c0,hb,h2,h3,h4,hr,h5⟩:=h
 exact ⟨es,clock,since,seen,c0,hk.same b _ hb rfl,h2,h3,h4,hk.same r _ hr rfl,h5⟩
theorem MapR.iter_walk {α β:Type} {P:Program} {k:TypeId} {ek:α→Value} {ev:β→Value} {w:World} {b r:Nat} {l:List (α×β)} {S:List α} (h:MapR P k ek ev w b r l S):∃o:Obj,w.heap[r]?=some o∧o.isWalk=true:=by
 obtain ⟨es,clock,since,seen,c0,hb,h2,h3,h4,hr,h5⟩:=h
 exact ⟨_,hr,rfl⟩
theorem But.grownOne {w w':World} {r:Nat} (h:But [r] w w'):w.grownBy w' (some r):=⟨h.os,h.tape,h.output,h.size,fun k hk hne=>h.block k hk (by simp;intro e;exact hne (by rw [e]))⟩
set_option maxRecDepth 100000 in
set_option maxHeartbeats 2000000 in
theorem it_ptx {β:Type} {ev:β→Value} (ht:Tryz.prog.underlying 65=some (.map 3 95)) {w:World} {b g:Nat} {l:List (Int×β)} (hm:MapT Tryz.prog 3 kI ev w b l) (hc:w.cell? ⟨g,0,none⟩=some (.map (some b))) :
  IterK 141 #[.pointer (some ⟨g,0,none⟩)] (fun x:Int=>#[.int .i64 x]) (fun xs=>xs.Perm (l.map (·.1))) l.length w:=by
 intro n₀ hn₀ ll J Jx W hW hJ hJx hY h0
 have hmW:=hm.below hW (Nat.le_refl _)
 have hcW:=(hW.cell (p:=⟨g,0,none⟩) (cell_block_lt hc)).trans hc
 have hnd:=hm.nodup
 obtain ⟨o,hrg,hR0⟩:=hmW.range ht
 have hJ0:J [] (W.alloc o):=hJ [] W _ none h0 (World.grownBy_alloc W o none) (fun r e=>by cases e)
 clear hm hc hmW
 refine callsIn_of_wp Tryz.func141 rfl trivial ?_ rfl
 simp only [Tryz.ntmps141,List.size_toArray,List.length_cons,List.length_nil,Nat.reduceAdd,Nat.reduceSub,Array.replicate_succ,Array.replicate_zero,List.push_toArray,List.append_toArray,List.nil_append,List.cons_append]
 gi_wp2
 clear hrg
 gi_loopg [3] l.length (fun gg _ wr=>∃E:List (Int×β),leftA l (E.map (·.1))≤gg∧Box (MapR Tryz.prog 3 kI ev wr b W.heap.size l (E.map (·.1))∧Seen l E∧J (E.map (·.1)).reverse wr))
 case atStart=>exact ⟨[],leftA_le _ _,⟨hR0,Seen.start l,hJ0⟩⟩
 case round =>
  obtain ⟨E,hg,HI⟩:=hrel
  rcases HI.out.1.next kI_inj 0 with ⟨hall,hnx⟩ | ⟨x,v,w2,hxm,hxS,hnx,hR2,hbt,hsz,hen⟩
  ·have hP:=HI.out.2.1.all hnd hall
   have hJE:=HI.out.2.2
   gi_wp2
   go_end0
   exact ⟨⟨_,rfl⟩,.inl ⟨_,((List.reverse_perm _).trans (hP.map _)),hJE⟩⟩
  ·obtain ⟨hS2,hlt⟩:=HI.out.2.1.step hxm hxS
   have hJ2:J (E.map (·.1)).reverse w2:=hJ _ wr w2 (some W.heap.size) HI.out.2.2 hbt.grownOne (fun r e=>by cases e;exact ⟨Nat.le_refl _,HI.out.1.iter_walk⟩)
   have hl2:leftA l (x::E.map (·.1))<leftA l (E.map (·.1)):=leftA_lt (l:=l) (S:=E.map (·.1)) (mem_keysA_of hxm) hxS
   have hJ3:=hJ2
   have hR3:=hR2
   obtain ⟨fn,tmps,assign,body,hy,hR⟩:=hY _ x w2 hJ3 (by simpa using hlt)
   have HS:=Box.mk (And.intro hS2 hR3)
   clear hS2 hR2 hR3 HI hxm hxS hbt hJ2 hJ3 hsz
   simp only [kI] at hnx hen
   gi_wp2
   refine hR.mono ?_
   rintro e W3 (⟨rfl,hJ4,hk3⟩ | ⟨rfl,hJx3⟩)
   ·have hR4:=HS.out.2.walks hk3.2
    gi_wp2
    gi_roundg (leftA l (x::E.map (·.1)))
    case measure=>omega
    case rel=>exact ⟨(x,v)::E,Nat.le_refl _,⟨hR4,HS.out.1,by simpa using hJ4⟩⟩
   ·gi_wp2
    refine bodyPost_ret (results_none rfl _ _ _) rfl ?_
    exact ⟨⟨_,rfl⟩,.inr ⟨_,trivial,hJx3⟩⟩
set_option maxRecDepth 20000 in
theorem mk_ptx (b:Nat) (w:World):Calls Tryz.prog 91 #[.map (some b)] w fun e w'=>e=.returned (.func (.func 141) #[] #[.pointer (some ⟨w.heap.size,0,none⟩)])∧w'=w.alloc (.cells #[.map (some b)] 65):=by
 go_enter Tryz.func91,Tryz.ntmps91
 go_wp2_with fail
 go_ret
 exact ⟨rfl,rfl⟩
theorem en_ptx (args:Array Value) (w:World):(callFunc 141 args).run Tryz.prog w=.ok (.enter 141 args) w:=enters_fn Tryz.func141 (by kernel_rfl) (by kernel_rfl) args w
set_option maxRecDepth 100000 in
set_option maxHeartbeats 2000000 in
theorem it_set {β:Type} {ev:β→Value} (ht:Tryz.prog.underlying 98=some (.map 3 4)) {w:World} {b g:Nat} {l:List (Int×β)} (hm:MapT Tryz.prog 3 kI ev w b l) (hc:w.cell? ⟨g,0,none⟩=some (.map (some b))) :
  IterK 112 #[.pointer (some ⟨g,0,none⟩)] (fun x:Int=>#[.int .i64 x]) (fun xs=>xs.Perm (l.map (·.1))) l.length w:=by
 intro n₀ hn₀ ll J Jx W hW hJ hJx hY h0
 have hmW:=hm.below hW (Nat.le_refl _)
 have hcW:=(hW.cell (p:=⟨g,0,none⟩) (cell_block_lt hc)).trans hc
 have hnd:=hm.nodup
 obtain ⟨o,hrg,hR0⟩:=hmW.range ht
 have hJ0:J [] (W.alloc o):=hJ [] W _ none h0 (World.grownBy_alloc W o none) (fun r e=>by cases e)
 clear hm hc hmW
 refine callsIn_of_wp Tryz.func112 rfl trivial ?_ rfl
 simp only [Tryz.ntmps112,List.size_toArray,List.length_cons,List.length_nil,Nat.reduceAdd,Nat.reduceSub,Array.replicate_succ,Array.replicate_zero,List.push_toArray,List.append_toArray,List.nil_append,List.cons_append]
 gi_wp2
 clear hrg
 gi_loopg [3] l.length (fun gg _ wr=>∃E:List (Int×β),leftA l (E.map (·.1))≤gg∧Box (MapR Tryz.prog 3 kI ev wr b W.heap.size l (E.map (·.1))∧Seen l E∧J (E.map (·.1)).reverse wr))
 case atStart=>exact ⟨[],leftA_le _ _,⟨hR0,Seen.start l,hJ0⟩⟩
 case round =>
  obtain ⟨E,hg,HI⟩:=hrel
  rcases HI.out.1.next kI_inj 0 with ⟨hall,hnx⟩ | ⟨x,v,w2,hxm,hxS,hnx,hR2,hbt,hsz,hen⟩
  ·have hP:=HI.out.2.1.all hnd hall
   have hJE:=HI.out.2.2
   gi_wp2
   go_end0
   exact ⟨⟨_,rfl⟩,.inl ⟨_,((List.reverse_perm _).trans (hP.map _)),hJE⟩⟩
  ·obtain ⟨hS2,hlt⟩:=HI.out.2.1.step hxm hxS
   have hJ2:J (E.map (·.1)).reverse w2:=hJ _ wr w2 (some W.heap.size) HI.out.2.2 hbt.grownOne (fun r e=>by cases e;exact ⟨Nat.le_refl _,HI.out.1.iter_walk⟩)
   have hl2:leftA l (x::E.map (·.1))<leftA l (E.map (·.1)):=leftA_lt (l:=l) (S:=E.map (·.1)) (mem_keysA_of hxm) hxS
   have hJ3:=hJ2
   have hR3:=hR2
   obtain ⟨fn,tmps,assign,body,hy,hR⟩:=hY _ x w2 hJ3 (by simpa using hlt)
   have HS:=Box.mk (And.intro hS2 hR3)
   clear hS2 hR2 hR3 HI hxm hxS hbt hJ2 hJ3 hsz
   simp only [kI] at hnx hen
   gi_wp2
   refine hR.mono ?_
   rintro e W3 (⟨rfl,hJ4,hk3⟩ | ⟨rfl,hJx3⟩)
   ·have hR4:=HS.out.2.walks hk3.2
    gi_wp2
    gi_roundg (leftA l (x::E.map (·.1)))
    case measure=>omega
    case rel=>exact ⟨(x,v)::E,Nat.le_refl _,⟨hR4,HS.out.1,by simpa using hJ4⟩⟩
   ·gi_wp2
    refine bodyPost_ret (results_none rfl _ _ _) rfl ?_
    exact ⟨⟨_,rfl⟩,.inr ⟨_,trivial,hJx3⟩⟩
set_option maxRecDepth 20000 in
theorem mk_set (b:Nat) (w:World):Calls Tryz.prog 44 #[.map (some b)] w fun e w'=>e=.returned (.func (.func 112) #[] #[.pointer (some ⟨w.heap.size,0,none⟩)])∧w'=w.alloc (.cells #[.map (some b)] 98):=by
 go_enter Tryz.func44,Tryz.ntmps44
 go_wp2_with fail
 go_ret
 exact ⟨rfl,rfl⟩
theorem en_set (args:Array Value) (w:World):(callFunc 112 args).run Tryz.prog w=.ok (.enter 112 args) w:=enters_fn Tryz.func112 (by kernel_rfl) (by kernel_rfl) args w
set_option maxRecDepth 100000 in
set_option maxHeartbeats 2000000 in
theorem it_span {β:Type} {ev:β→Value} (ht:Tryz.prog.underlying 140=some (.map 3 146)) {w:World} {b g:Nat} {l:List (Int×β)} (hm:MapT Tryz.prog 3 kI ev w b l) (hc:w.cell? ⟨g,0,none⟩=some (.map (some b))) :
  IterK 121 #[.pointer (some ⟨g,0,none⟩)] (fun x:Int=>#[.int .i64 x]) (fun xs=>xs.Perm (l.map (·.1))) l.length w:=by
 intro n₀ hn₀ ll J Jx W hW hJ hJx hY h0
 have hmW:=hm.below hW (Nat.le_refl _)
 have hcW:=(hW.cell (p:=⟨g,0,none⟩) (cell_block_lt hc)).trans hc
 have hnd:=hm.nodup
 obtain ⟨o,hrg,hR0⟩:=hmW.range ht
 have hJ0:J [] (W.alloc o):=hJ [] W _ none h0 (World.grownBy_alloc W o none) (fun r e=>by cases e)
 clear hm hc hmW
 refine callsIn_of_wp Tryz.func121 rfl trivial ?_ rfl
 simp only [Tryz.ntmps121,List.size_toArray,List.length_cons,List.length_nil,Nat.reduceAdd,Nat.reduceSub,Array.replicate_succ,Array.replicate_zero,List.push_toArray,List.append_toArray,List.nil_append,List.cons_append]
 gi_wp2
 clear hrg
 gi_loopg [3] l.length (fun gg _ wr=>∃E:List (Int×β),leftA l (E.map (·.1))≤gg∧Box (MapR Tryz.prog 3 kI ev wr b W.heap.size l (E.map (·.1))∧Seen l E∧J (E.map (·.1)).reverse wr))
 case atStart=>exact ⟨[],leftA_le _ _,⟨hR0,Seen.start l,hJ0⟩⟩
 case round =>
  obtain ⟨E,hg,HI⟩:=hrel
  rcases HI.out.1.next kI_inj 0 with ⟨hall,hnx⟩ | ⟨x,v,w2,hxm,hxS,hnx,hR2,hbt,hsz,hen⟩
  ·have hP:=HI.out.2.1.all hnd hall
   have hJE:=HI.out.2.2
   gi_wp2
   go_end0
   exact ⟨⟨_,rfl⟩,.inl ⟨_,((List.reverse_perm _).trans (hP.map _)),hJE⟩⟩
  ·obtain ⟨hS2,hlt⟩:=HI.out.2.1.step hxm hxS
   have hJ2:J (E.map (·.1)).reverse w2:=hJ _ wr w2 (some W.heap.size) HI.out.2.2 hbt.grownOne (fun r e=>by cases e;exact ⟨Nat.le_refl _,HI.out.1.iter_walk⟩)
   have hl2:leftA l (x::E.map (·.1))<leftA l (E.map (·.1)):=leftA_lt (l:=l) (S:=E.map (·.1)) (mem_keysA_of hxm) hxS
   have hJ3:=hJ2
   have hR3:=hR2
   obtain ⟨fn,tmps,assign,body,hy,hR⟩:=hY _ x w2 hJ3 (by simpa using hlt)
   have HS:=Box.mk (And.intro hS2 hR3)
   clear hS2 hR2 hR3 HI hxm hxS hbt hJ2 hJ3 hsz
   simp only [kI] at hnx hen
   gi_wp2
   refine hR.mono ?_
   rintro e W3 (⟨rfl,hJ4,hk3⟩ | ⟨rfl,hJx3⟩)
   ·have hR4:=HS.out.2.walks hk3.2
    gi_wp2
    gi_roundg (leftA l (x::E.map (·.1)))
    case measure=>omega
    case rel=>exact ⟨(x,v)::E,Nat.le_refl _,⟨hR4,HS.out.1,by simpa using hJ4⟩⟩
   ·gi_wp2
    refine bodyPost_ret (results_none rfl _ _ _) rfl ?_
    exact ⟨⟨_,rfl⟩,.inr ⟨_,trivial,hJx3⟩⟩
set_option maxRecDepth 20000 in
theorem mk_span (b:Nat) (w:World):Calls Tryz.prog 66 #[.map (some b)] w fun e w'=>e=.returned (.func (.func 121) #[] #[.pointer (some ⟨w.heap.size,0,none⟩)])∧w'=w.alloc (.cells #[.map (some b)] 140):=by
 go_enter Tryz.func66,Tryz.ntmps66
 go_wp2_with fail
 go_ret
 exact ⟨rfl,rfl⟩
theorem en_span (args:Array Value) (w:World):(callFunc 121 args).run Tryz.prog w=.ok (.enter 121 args) w:=enters_fn Tryz.func121 (by kernel_rfl) (by kernel_rfl) args w
set_option maxRecDepth 100000 in
set_option maxHeartbeats 2000000 in
theorem it_wr {α:Type} [DecidableEq α] {ek:α→Value} (hi:∀a a',ek a=ek a'→a=a') (ht:Tryz.prog.underlying 205=some (.map 104 90)) {w:World} {b g:Nat} {l:List (α×WrP)} (hm:MapT Tryz.prog 104 ek WrP.v w b l) (hc:w.cell? ⟨g,0,none⟩=some (.map (some b))) :
  IterK 152 #[.pointer (some ⟨g,0,none⟩)] (fun x:WrP=>#[WrP.v x]) (fun xs=>xs.Perm (l.map (·.2))) l.length w:=by
 intro n₀ hn₀ ll J Jx W hW hJ hJx hY h0
 have hmW:=hm.below hW (Nat.le_refl _)
 have hcW:=(hW.cell (p:=⟨g,0,none⟩) (cell_block_lt hc)).trans hc
 have hnd:=hm.nodup
 obtain ⟨o,hrg,hR0⟩:=hmW.range ht
 have hJ0:J [] (W.alloc o):=hJ [] W _ none h0 (World.grownBy_alloc W o none) (fun r e=>by cases e)
 clear hm hc hmW
 refine callsIn_of_wp Tryz.func152 rfl trivial ?_ rfl
 simp only [Tryz.ntmps152,List.size_toArray,List.length_cons,List.length_nil,Nat.reduceAdd,Nat.reduceSub,Array.replicate_succ,Array.replicate_zero,List.push_toArray,List.append_toArray,List.nil_append,List.cons_append]
 gi_wp2
 clear hrg
 gi_loopg [4] l.length (fun gg _ wr=>∃E:List (α×WrP),leftA l (E.map (·.1))≤gg∧Box (MapR Tryz.prog 104 ek WrP.v wr b W.heap.size l (E.map (·.1))∧Seen l E∧J (E.map (·.2)).reverse wr))
 case atStart=>exact ⟨[],leftA_le _ _,⟨hR0,Seen.start l,hJ0⟩⟩
 case round =>
  obtain ⟨E,hg,HI⟩:=hrel
  rcases HI.out.1.next hi 0 with ⟨hall,hnx⟩ | ⟨x,v,w2,hxm,hxS,hnx,hR2,hbt,hsz,hen⟩
  ·have hP:=HI.out.2.1.all hnd hall
   have hJE:=HI.out.2.2
   gi_wp2
   go_end0
   exact ⟨⟨_,rfl⟩,.inl ⟨_,((List.reverse_perm _).trans (hP.map _)),hJE⟩⟩
  ·obtain ⟨hS2,hlt⟩:=HI.out.2.1.step hxm hxS
   have hJ2:J (E.map (·.2)).reverse w2:=hJ _ wr w2 (some W.heap.size) HI.out.2.2 hbt.grownOne (fun r e=>by cases e;exact ⟨Nat.le_refl _,HI.out.1.iter_walk⟩)
   have hl2:leftA l (x::E.map (·.1))<leftA l (E.map (·.1)):=leftA_lt (l:=l) (S:=E.map (·.1)) (mem_keysA_of hxm) hxS
   have hJ3:J (E.map (·.2)).reverse (w2.alloc (.cells (WrP.enc v).toArray 90)):=hJ _ w2 _ none hJ2 (World.grownBy_alloc w2 _ none) (fun r e=>by cases e)
   have hR3:=hR2.below ((Below.refl w2.heap.size w2).alloc (Nat.le_refl _) (.cells (WrP.enc v).toArray 90)) (Nat.le_refl _)
   obtain ⟨fn,tmps,assign,body,hy,hR⟩:=hY _ v (w2.alloc (.cells (WrP.enc v).toArray 90)) hJ3 (by simpa using hlt)
   have HS:=Box.mk (And.intro hS2 hR3)
   clear hS2 hR2 hR3 HI hxm hxS hbt hJ2 hJ3 hsz
   obtain ⟨yt,yr,yd,ya,yc,yl⟩:=v
   simp only [WrP.v] at hnx hen hy
   simp only [WrP.enc] at hy hR
   gi_wp2
   refine hR.mono ?_
   rintro e W3 (⟨rfl,hJ4,hk3⟩ | ⟨rfl,hJx3⟩)
   ·have hR4:=HS.out.2.walks hk3.2
    gi_wp2
    gi_roundg (leftA l (x::E.map (·.1)))
    case measure=>omega
    case rel=>exact ⟨(x,_)::E,Nat.le_refl _,⟨hR4,HS.out.1,by simpa using hJ4⟩⟩
   ·gi_wp2
    refine bodyPost_ret (results_none rfl _ _ _) rfl ?_
    exact ⟨⟨_,rfl⟩,.inr ⟨_,trivial,hJx3⟩⟩
set_option maxRecDepth 20000 in
theorem mk_wr (b:Nat) (w:World):Calls Tryz.prog 106 #[.map (some b)] w fun e w'=>e=.returned (.func (.func 152) #[] #[.pointer (some ⟨w.heap.size,0,none⟩)])∧w'=w.alloc (.cells #[.map (some b)] 205):=by
 go_enter Tryz.func106,Tryz.ntmps106
 go_wp2_with fail
 go_ret
 exact ⟨rfl,rfl⟩
theorem en_wr (args:Array Value) (w:World):(callFunc 152 args).run Tryz.prog w=.ok (.enter 152 args) w:=enters_fn Tryz.func152 (by kernel_rfl) (by kernel_rfl) args w
set_option maxRecDepth 100000 in
set_option maxHeartbeats 2000000 in
theorem it_hd {α:Type} [DecidableEq α] {ek:α→Value} (hi:∀a a',ek a=ek a'→a=a') (ht:Tryz.prog.underlying 161=some (.map 162 136)) {w:World} {b g:Nat} {l:List (α×HdP)} (hm:MapT Tryz.prog 162 ek HdP.v w b l) (hc:w.cell? ⟨g,0,none⟩=some (.map (some b))) :
  IterK 133 #[.pointer (some ⟨g,0,none⟩)] (fun x:HdP=>#[HdP.v x]) (fun xs=>xs.Perm (l.map (·.2))) l.length w:=by
 intro n₀ hn₀ ll J Jx W hW hJ hJx hY h0
 have hmW:=hm.below hW (Nat.le_refl _)
 have hcW:=(hW.cell (p:=⟨g,0,none⟩) (cell_block_lt hc)).trans hc
 have hnd:=hm.nodup
 obtain ⟨o,hrg,hR0⟩:=hmW.range ht
 have hJ0:J [] (W.alloc o):=hJ [] W _ none h0 (World.grownBy_alloc W o none) (fun r e=>by cases e)
 clear hm hc hmW
 refine callsIn_of_wp Tryz.func133 rfl trivial ?_ rfl
 simp only [Tryz.ntmps133,List.size_toArray,List.length_cons,List.length_nil,Nat.reduceAdd,Nat.reduceSub,Array.replicate_succ,Array.replicate_zero,List.push_toArray,List.append_toArray,List.nil_append,List.cons_append]
 gi_wp2
 clear hrg
 gi_loopg [4] l.length (fun gg _ wr=>∃E:List (α×HdP),leftA l (E.map (·.1))≤gg∧Box (MapR Tryz.prog 162 ek HdP.v wr b W.heap.size l (E.map (·.1))∧Seen l E∧J (E.map (·.2)).reverse wr))
 case atStart=>exact ⟨[],leftA_le _ _,⟨hR0,Seen.start l,hJ0⟩⟩
 case round =>
  obtain ⟨E,hg,HI⟩:=hrel
  rcases HI.out.1.next hi 0 with ⟨hall,hnx⟩ | ⟨x,v,w2,hxm,hxS,hnx,hR2,hbt,hsz,hen⟩
  ·have hP:=HI.out.2.1.all hnd hall
   have hJE:=HI.out.2.2
   gi_wp2
   go_end0
   exact ⟨⟨_,rfl⟩,.inl ⟨_,((List.reverse_perm _).trans (hP.map _)),hJE⟩⟩
  ·obtain ⟨hS2,hlt⟩:=HI.out.2.1.step hxm hxS
   have hJ2:J (E.map (·.2)).reverse w2:=hJ _ wr w2 (some W.heap.size) HI.out.2.2 hbt.grownOne (fun r e=>by cases e;exact ⟨Nat.le_refl _,HI.out.1.iter_walk⟩)
   have hl2:leftA l (x::E.map (·.1))<leftA l (E.map (·.1)):=leftA_lt (l:=l) (S:=E.map (·.1)) (mem_keysA_of hxm) hxS
   have hJ3:J (E.map (·.2)).reverse (w2.alloc (.cells (HdP.enc v).toArray 136)):=hJ _ w2 _ none hJ2 (World.grownBy_alloc w2 _ none) (fun r e=>by cases e)
   have hR3:=hR2.below ((Below.refl w2.heap.size w2).alloc (Nat.le_refl _) (.cells (HdP.enc v).toArray 136)) (Nat.le_refl _)
   obtain ⟨fn,tmps,assign,body,hy,hR⟩:=hY _ v (w2.alloc (.cells (HdP.enc v).toArray 136)) hJ3 (by simpa using hlt)
   have HS:=Box.mk (And.intro hS2 hR3)
   clear hS2 hR2 hR3 HI hxm hxS hbt hJ2 hJ3 hsz
   obtain ⟨yt,yr,ys,ya,yc,yl⟩:=v
   simp only [HdP.v] at hnx hen hy
   simp only [HdP.enc] at hy hR
   gi_wp2
   refine hR.mono ?_
   rintro e W3 (⟨rfl,hJ4,hk3⟩ | ⟨rfl,hJx3⟩)
   ·have hR4:=HS.out.2.walks hk3.2
    gi_wp2
    gi_roundg (leftA l (x::E.map (·.1)))
    case measure=>omega
    case rel=>exact ⟨(x,_)::E,Nat.le_refl _,⟨hR4,HS.out.1,by simpa using hJ4⟩⟩
   ·gi_wp2
    refine bodyPost_ret (results_none rfl _ _ _) rfl ?_
    exact ⟨⟨_,rfl⟩,.inr ⟨_,trivial,hJx3⟩⟩
set_option maxRecDepth 20000 in
theorem mk_hd (b:Nat) (w:World):Calls Tryz.prog 82 #[.map (some b)] w fun e w'=>e=.returned (.func (.func 133) #[] #[.pointer (some ⟨w.heap.size,0,none⟩)])∧w'=w.alloc (.cells #[.map (some b)] 161):=by
 go_enter Tryz.func82,Tryz.ntmps82
 go_wp2_with fail
 go_ret
 exact ⟨rfl,rfl⟩
theorem en_hd (args:Array Value) (w:World):(callFunc 133 args).run Tryz.prog w=.ok (.enter 133 args) w:=enters_fn Tryz.func133 (by kernel_rfl) (by kernel_rfl) args w
end
end Go.Proofs.YtlfghapllmaigaaGreatDoor
