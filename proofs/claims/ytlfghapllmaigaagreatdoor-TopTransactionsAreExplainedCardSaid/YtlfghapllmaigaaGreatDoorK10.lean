/-
  The walks of conflict's Admit and Serial; Ranges over a function: the laws that the collecting loops want, at the wide fence. Conditions: each theorem's own hypotheses.
-/
import Derived.Test.YtlfghapllmaigaaGreatDoorK09
import Derived.RangeFuncNested
import Derived.RangeFuncBound
import Derived.RangeFuncCalls
import Derived.RangeFuncLeaves
import Derived.RangeFuncBox
import Derived.RangeFuncWrites
import Derived.Shelf.Abstract
import Derived.Shelf.RegionOpen
import Derived.OwnWalkIn
import Derived.TacticsInMore
import Derived.LoopNIn
import Derived.LoopIn
import Derived.Maps.AppendAt
import Derived.Test.YtlfghapllmaigaaGreatDoorK04
namespace Go.Proofs.YtlfghapllmaigaaGreatDoor
section
open Go.RowKit Go.Maps
set_option maxRecDepth 20000 in
set_option maxHeartbeats 2000000 in
theorem admitF_any {w:World} {g i:Nat} (hc:w.cell? ⟨g,0,none⟩=some (.int .i64 (i:Int))) (a b c:Nat) :
  Calls Tryz.prog 149 #[.int .i64 (a:Int),.int .i64 (b:Int),.int .i64 (c:Int),.pointer (some ⟨g,0,none⟩)] w (RetV (.bool (decide (a=i)||decide (b=i)||decide (c=i))) w):=by
 by_cases h1:a=i
 ·have t1:((a:Int)==(i:Int))=true:=by simp [h1]
  rw [decide_eq_true h1]
  clear h1
  go_enter Tryz.func149,Tryz.ntmps149
  go_wp2_with fail
  go_ret
  exact ⟨rfl,Below.refl _ _⟩
 ·have t1:((a:Int)==(i:Int))=false:=by simp;omega
  rw [decide_eq_false h1]
  clear h1
  by_cases h2:b=i
  ·have t2:((b:Int)==(i:Int))=true:=by simp [h2]
   rw [decide_eq_true h2]
   clear h2
   go_enter Tryz.func149,Tryz.ntmps149
   go_wp2_with fail
   go_ret
   exact ⟨rfl,Below.refl _ _⟩
  ·have t2:((b:Int)==(i:Int))=false:=by simp;omega
   rw [decide_eq_false h2]
   clear h2
   by_cases h3:c=i
   ·have t3:((c:Int)==(i:Int))=true:=by simp [h3]
    rw [decide_eq_true h3]
    clear h3
    go_enter Tryz.func149,Tryz.ntmps149
    go_wp2_with fail
    go_ret
    exact ⟨rfl,Below.refl _ _⟩
   ·have t3:((c:Int)==(i:Int))=false:=by simp;omega
    rw [decide_eq_false h3]
    clear h3
    go_enter Tryz.func149,Tryz.ntmps149
    go_wp2_with fail
    go_ret
    exact ⟨rfl,Below.refl _ _⟩
theorem admitF_enters (args:Array Value) (w:World):(callFunc 149 args).run Tryz.prog w=.ok (.enter 149 args) w:=enters_fn Tryz.func149 (by kernel_rfl) (by kernel_rfl) args w
theorem serial_any {hs:List AccP} {a:Option Addr} {n c:Nat} {w:World} (hr:HistRd w a n c hs) (ok:HOk hs):Calls Tryz.prog 11 #[.slice a n c] w (RetOrd (KOk hs n) w):=by
 have hln:=hr.rd.rlen AccP.cs_len (by omega)
 have hlen:=ok.len
 have HR:=Box.mk hr
 have HC:=Box.mk (graphOf_any hr ok)
 clear hr ok
 go_enter Tryz.func11,Tryz.ntmps11
 go_wp2_with fail
 refine HC.out.mono ?_
 rintro e w1 ⟨hb1,g,hg,rfl,hG⟩
 have HG:=Box.mk hG
 have HB:=Box.mk hb1
 clear hG hb1
 go_wp2_with fail
 refine (order_any HG.out (HR.out.below HB.out) (by omega)).mono ?_
 rintro e w2 ⟨hb2,v,b,rfl,hk⟩
 have HK:=Box.mk hk
 have HB2:=Box.mk (HB.out.trans (hb2.mono HB.out.size))
 clear hk hb2
 go_wp2_with fail
 go_ret2
 exact ⟨HB2.out,v,b,rfl,HK.out⟩
def topS (l:List AccP):Int:=l.foldl (fun m y=>if (if m<y.stamp then y.stamp else m)<y.snap then y.snap else if m<y.stamp then y.stamp else m) 0
theorem topS_snoc (l:List AccP) (y:AccP):topS (l++[y])=if (if topS l<y.stamp then y.stamp else topS l)<y.snap then y.snap else if topS l<y.stamp then y.stamp else topS l:=by unfold topS;rw [List.foldl_append];rfl
theorem topS_ge:∀ (l:List AccP) (m:Int),m≤l.foldl (fun m y=>if (if m<y.stamp then y.stamp else m)<y.snap then y.snap else if m<y.stamp then y.stamp else m) m ∧
  ∀y∈l,y.stamp≤l.foldl (fun m y=>if (if m<y.stamp then y.stamp else m)<y.snap then y.snap else if m<y.stamp then y.stamp else m) m∧y.snap≤l.foldl (fun m y=>if (if m<y.stamp then y.stamp else m)<y.snap then y.snap else if m<y.stamp then y.stamp else m) m
 | [],m=>⟨Int.le_refl _,by simp⟩
 | x::l,m=>by
  rw [List.foldl_cons]
  obtain ⟨h1,h2⟩:=topS_ge l (if (if m<x.stamp then x.stamp else m)<x.snap then x.snap else if m<x.stamp then x.stamp else m)
  have h3:m≤(if (if m<x.stamp then x.stamp else m)<x.snap then x.snap else if m<x.stamp then x.stamp else m)∧x.stamp≤(if (if m<x.stamp then x.stamp else m)<x.snap then x.snap else if m<x.stamp then x.stamp else m)∧x.snap≤(if (if m<x.stamp then x.stamp else m)<x.snap then x.snap else if m<x.stamp then x.stamp else m):=by
   split<;>split<;>omega
  refine ⟨by omega,fun y hy=>?_⟩
  rcases List.mem_cons.1 hy with rfl | hy
  ·omega
  ·exact h2 y hy
theorem topS_nn (l:List AccP):0≤topS l:=(topS_ge l 0).1
theorem topS_mem {l:List AccP} {y:AccP} (h:y∈l):y.stamp≤topS l∧y.snap≤topS l:=(topS_ge l 0).2 y h
theorem topS_le {M:Int} (hM:0≤M):∀ {l:List AccP},(∀y∈l,y.stamp≤M∧y.snap≤M)→topS l≤M:=by
 intro l h
 have key:∀ (l:List AccP) (m:Int),m≤M→(∀y∈l,y.stamp≤M∧y.snap≤M)→l.foldl (fun m y=>if (if m<y.stamp then y.stamp else m)<y.snap then y.snap else if m<y.stamp then y.stamp else m) m≤M:=by
  intro l
  induction l with
  | nil=>exact fun m hm _=>hm
  | cons x l ih =>
   intro m hm h
   rw [List.foldl_cons]
   refine ih _ ?_ (fun y hy=>h y (List.mem_cons_of_mem _ hy))
   have:=h x (List.mem_cons_self ..)
   split<;>(try split)<;>omega
 exact key l 0 hM h
def winB (x:AccP) (l:List AccP):Bool:=l.all fun y=>!(y.wr&&decide (x.snap<y.stamp)&&meetI x.writes y.writes)
theorem winB_snoc (x:AccP) (l:List AccP) (y:AccP):winB x (l++[y])=(winB x l&&!(y.wr&&decide (x.snap<y.stamp)&&meetI x.writes y.writes)):=by unfold winB;rw [List.all_append];simp
theorem meetI_comm (a b:List Int):meetI a b=meetI b a:=by
 unfold meetI
 rw [Bool.eq_iff_iff,List.any_eq_true,List.any_eq_true]
 constructor<;>(rintro ⟨x,h1,h2⟩;exact ⟨x,of_decide_eq_true h2,decide_eq_true h1⟩)
def AccP.fin (x:AccP) (s:Int):AccP:={ x with done:=true,stamp:=s }
structure Admits (hs:List AccP) (i:Nat) (s:Int):Prop where
 ro:(hs.getD i default).writes=[]→s=0
 rw_:(hs.getD i default).writes≠[]→s=topS hs+1∧s≤1073741824∧winB (hs.getD i default) hs=true
 ser:(hs.getD i default).mode=1→anyD (hs.set i ((hs.getD i default).fin s)) hs.length (fun a b c=>decide (a=i)||decide (b=i)||decide (c=i))=false
theorem HOk.fin {hs:List AccP} (ok:HOk hs) {i:Nat} {x:AccP} {s:Int} (hi:i<hs.length) (hx:hs.getD i default=x) (_:x.done=false) (h0:x.writes=[]→s=0) (h1:x.writes≠[]→s=topS hs+1∧s≤1073741824∧winB x hs=true):HOk (hs.set i (x.fin s)):=by
 have hxm:x∈hs:=by rw [← hx];exact getD_mem hi
 have fx:=formB_ok.1 (ok.form x hxm)
 have tn:=topS_nn hs
 have wx:(x.fin s).wr=true↔x.writes≠[]:=by
  unfold AccP.wr AccP.fin
  simp only [Bool.true_and,decide_eq_true_eq]
  exact List.length_pos_iff
 have mem:∀y∈hs.set i (x.fin s),y=x.fin s∨y∈hs:=fun y hy=>by rcases List.mem_or_eq_of_mem_set hy with h | h<;>simp [h]
 have gs:∀j,(hs.set i (x.fin s)).getD j default=if i=j then x.fin s else hs.getD j default:=by
  intro j
  rw [List.getD_eq_getElem?_getD,List.getElem?_set]
  by_cases e:i=j
  ·subst e;simp [hi]
  ·simp [e]
 refine ⟨by rw [List.length_set];exact ok.len,fun y hy=>?_,fun y hy=>?_,fun a b hab hb hpos=>?_,fun a b hba ha hwa hwb hcon=>?_,fun y hy=>?_⟩
 ·rcases mem y hy with rfl | h
  ·exact ok.items x hxm
  ·exact ok.items y h
 ·rcases mem y hy with rfl | h
  ·refine formB_ok.2 ⟨fx.mode,fx.snap,fx.ar,fx.aw,fx.ro,fun hw=>?_,fun hw=>?_⟩
   ·obtain ⟨e1,e2,_⟩:=h1 (wx.1 hw)
    have:=(topS_mem hxm).2
    exact ⟨by show x.snap<s;omega,e2⟩
   ·refine h0 (Classical.byContradiction fun hne=>?_)
    rw [wx.2 hne] at hw;cases hw
  ·exact ok.form y h
 ·rw [List.length_set] at hb
  rw [gs] at hpos
  rw [gs,gs]
  by_cases ea:i=a
  ·rw [if_pos ea] at hpos ⊢
   rw [if_neg (by omega)]
   have hb2:hs.getD b default∈hs:=getD_mem hb
   have:=(topS_mem hb2).1
   have hs0:(0:Int)<s:=hpos
   have e1:=(h1 (fun e=>by have:=h0 e;omega)).1
   show s≠_
   omega
  ·rw [if_neg ea] at hpos ⊢
   by_cases eb:i=b
   ·rw [if_pos eb]
    have:=(topS_mem (getD_mem (l:=hs) (i:=a) (by omega))).1
    show _≠s
    by_cases hw:x.writes=[]
    ·have:=h0 hw;omega
    ·have:=(h1 hw).1;omega
   ·rw [if_neg eb]
    exact ok.stamps a b hab hb hpos
 ·rw [List.length_set] at ha
  rw [gs] at hwa hwb hcon
  rw [gs] at hcon
  rw [gs,gs]
  by_cases ea:i=a
  ·rw [if_pos ea] at hwa hcon ⊢
   rw [if_neg (by omega)] at hwb hcon ⊢
   have hw:=(h1 (wx.1 hwa)).2.2
   unfold winB at hw
   rw [List.all_eq_true] at hw
   have h2:=hw _ (getD_mem (l:=hs) (i:=b) (by omega))
   rw [hwb,Bool.true_and] at h2
   unfold conB at hcon
   rw [Bool.and_eq_true] at hcon
   have h3:decide (x.snap<(hs.getD b default).stamp)=true:=hcon.1
   rw [h3,Bool.true_and] at h2
   have h4:meetI x.writes (hs.getD b default).writes=false:=by simpa using h2
   exact h4
  ·rw [if_neg ea] at hwa hcon ⊢
   by_cases eb:i=b
   ·rw [if_pos eb] at hwb hcon ⊢
    have hw:=(h1 (wx.1 hwb)).2.2
    unfold winB at hw
    rw [List.all_eq_true] at hw
    have h2:=hw _ (getD_mem (l:=hs) (i:=a) ha)
    rw [hwa,Bool.true_and] at h2
    unfold conB at hcon
    rw [Bool.and_eq_true] at hcon
    have h3:decide (x.snap<(hs.getD a default).stamp)=true:=hcon.2
    rw [h3,Bool.true_and] at h2
    rw [meetI_comm]
    have h4:meetI x.writes (hs.getD a default).writes=false:=by simpa using h2
    exact h4
   ·rw [if_neg eb] at hwb hcon ⊢
    exact ok.ww a b hba ha hwa hwb hcon
 ·rcases mem y hy with rfl | h
  ·exact ok.i64 x hxm
  ·exact ok.i64 y h
def RetAdm (hs:List AccP) (i:Nat) (w:World) (e:Ending) (w':World):Prop:=Below w.heap.size w w'∧∃s er:Int,e=.returned (.tuple #[.int .i64 s,.int .i64 er])∧(er=0→Admits hs i s)
structure AdK (w wx:World) (i gx gy bs:Nat) (x y:AccP):Prop where
 b:Below w.heap.size w wx
 bi:Blk wx w.heap.size 3 [.int .i64 (i:Int)]
 kx:Blk wx gx 102 x.cs
 st:SetM Tryz.prog 3 4 wx bs x.writes
 ky:Blk wx gy 102 y.cs
theorem AdK.step {w wx w':World} {i gx gy bs:Nat} {x y:AccP} (h:AdK w wx i gx gy bs x y) (hb:Below wx.heap.size wx w'):AdK w w' i gx gy bs x y :=
 ⟨h.b.trans (hb.mono h.b.size),h.bi.below hb (Nat.le_refl _),h.kx.below hb (Nat.le_refl _),h.st.eq (hb.block _ h.st.lt),h.ky.below hb (Nat.le_refl _)⟩
set_option maxRecDepth 20000 in
set_option maxHeartbeats 8000000 in
theorem admit_any {hs:List AccP} {a:Option Addr} {n c:Nat} {w:World} (hr:HistRd w a n c hs) (ok:HOk hs) {i:Nat} (hi:i<n) (hd:(hs.getD i default).done=false) :
  Calls Tryz.prog 97 #[.slice a n c,.int .i64 (i:Int)] w (RetAdm hs i w):=by
 have hln:=hr.rd.rlen AccP.cs_len (by omega)
 have hlen:=ok.len
 have HR:=Box.mk hr
 have OK:=Box.mk ok
 obtain ⟨b,off,x,rfl,hx,hxm,hxr,c0,c1,c2,c3,c4,c5⟩:=hr.at i hi
 rw [hx] at hd
 have HX:=Box.mk (And.intro hx (And.intro hxm hd))
 have H0:=Box.mk (And.intro ((Below.refl w.heap.size w).alloc (Nat.le_refl _) (.cells #[.int .i64 (i:Int)] 3)) (Blk.new (w:=w) (k:=w.heap.size) (ty:=3) (arr:=#[.int .i64 (i:Int)]) (cs:=[.int .i64 (i:Int)]) rfl rfl))
 clear hr ok hx hxm hxr hd c0 c1 c2 c3 c4 c5
 go_enter Tryz.func97,Tryz.ntmps97
 go_upto_region 1 with fail
 generalize (w.alloc (.cells #[.int .i64 (i:Int)] 3))=w1 at *
 go_wp2_with fail
 refine (check_any (HR.out.below H0.out.1) OK.out).mono ?_
 rintro e w2 ⟨rfl,hb⟩
 have B2:=Box.mk (And.intro (H0.out.1.trans (hb.mono H0.out.1.size)) (H0.out.2.below hb (Nat.le_refl _)))
 clear hb H0
 have i0:=B2.out.2.cellOf (i:=0) rfl
 obtain ⟨b',off',x',hab,hx,hxm,hxr,c0,c1,c2,c3,c4,c5⟩:=(HR.out.below B2.out.1).at i hi
 simp only [Option.some.injEq,Addr.mk.injEq,and_true] at hab
 obtain ⟨rfl,rfl⟩:=hab
 obtain rfl:x=x':=HX.out.1.symm.trans hx
 rw [HX.out.2.2] at c2
 clear hx hxm hxr
 have tt:decide ((i:Int)<0)=false:=decide_eq_false (by omega)
 have tt2:decide (n≤i)=false:=decide_eq_false (by omega)
 go_upto_region 8 with fail
 have x5:=(show w2.heap.size<w2.heap.size+1 from by omega)
 have K3:=Box.mk (And.intro (B2.out.1.alloc B2.out.1.size (.cells #[.int .i64 x.mode,.int .i64 x.snap,.bool false,.int .i64 x.stamp,.slice x.ra x.reads.length x.rc,.slice x.wa x.writes.length x.wc] 102)) (And.intro (B2.out.2.alloc (.cells #[.int .i64 x.mode,.int .i64 x.snap,.bool false,.int .i64 x.stamp,.slice x.ra x.reads.length x.rc,.slice x.wa x.writes.length x.wc] 102)) (Blk.new (w:=w2) (k:=w2.heap.size) (ty:=102) (arr:=#[.int .i64 x.mode,.int .i64 x.snap,.bool false,.int .i64 x.stamp,.slice x.ra x.reads.length x.rc,.slice x.wa x.writes.length x.wc]) (cs:=x.cs) rfl (by unfold AccP.cs;rw [HX.out.2.2]))))
 clear x5 i0 tt tt2 c0 c1 c2 c3 c4 c5 B2
 generalize (w2.alloc (.cells #[.int .i64 x.mode,.int .i64 x.snap,.bool false,.int .i64 x.stamp,.slice x.ra x.reads.length x.rc,.slice x.wa x.writes.length x.wc] 102))=w3 at *
 generalize w2.heap.size=gx at *
 obtain ⟨x0,x1,x2,x3,x4,x5⟩:=AccP.cells K3.out.2.2
 go_upto_if 43 with fail
 go_cut [7,9,10,12] from 43 to 84 (fun s7 _ _ _ wx=>∃s:Int,s7=.int .i64 s∧Box (Below w.heap.size w wx∧Blk wx w.heap.size 3 [.int .i64 (i:Int)]∧(x.writes=[]→s=0)∧(x.writes≠[]→s=topS hs+1∧s≤1073741824∧winB x hs=true)))
 case first =>
  by_cases hw:x.writes=[]
  ·have t1:¬ (0<x.writes.length):=by rw [hw];simp
   have HW:=Box.mk hw
   clear hw
   go_wp2_with fail
   go_meet
   case rel=>exact ⟨0,rfl,⟨K3.out.1,K3.out.2.1,fun _=>rfl,fun h=>absurd HW.out h⟩⟩
  ·have t1:0<x.writes.length:=List.length_pos_iff.2 hw
   have HW:=Box.mk hw
   clear hw
   go_wp2_with fail
   refine (of_any ((HR.out.each _ HX.out.2.1).wr.below K3.out.1 (Nat.le_refl _)) (asc_nodup (formB_ok.1 (OK.out.form _ HX.out.2.1)).aw) (OK.out.i64 _ HX.out.2.1).2).mono ?_
   rintro e w4 ⟨hb4,bs,hbs,rfl,hset⟩
   have K4:=Box.mk (And.intro (K3.out.1.trans (hb4.mono K3.out.1.size)) (And.intro (K3.out.2.1.below hb4 (Nat.le_refl _)) (And.intro (K3.out.2.2.below hb4 (Nat.le_refl _)) hset)))
   clear hb4 hset K3 x0 x1 x2 x3 x4 x5
   go_wp2_with fail
   go_loopg [7,10,12,49] n (fun gg s7 s10 _ s49 wr=>∃k:Nat,k≤n∧n - k≤gg∧s49=.int .i64 k∧s7=.int .i64 (topS (hs.take k))∧s10=.bool (winB x (hs.take k))∧Box (Below w.heap.size w wr∧Blk wr w.heap.size 3 [.int .i64 (i:Int)]∧Blk wr gx 102 x.cs∧SetM Tryz.prog 3 4 wr bs x.writes))
   case atStart=>exact ⟨0,Nat.zero_le _,by omega,rfl,rfl,rfl,K4⟩
   clear K4
   case round =>
    obtain ⟨k,hk,hg,rfl,rfl,rfl,HB⟩:=hrel
    by_cases hlt:k<n
    ·obtain ⟨b',off',y,hab,hy,hym,hyr,c0,c1,c2,c3,c4,c5⟩:=(HR.out.below HB.out.1).at k hlt
     simp only [Option.some.injEq,Addr.mk.injEq,and_true] at hab
     obtain ⟨rfl,rfl⟩:=hab
     have H1:=Box.mk (y.fresh HB.out.1)
     have HTK:=Box.mk (show hs.take (k+1)=hs.take k++[y] from by rw [List.take_add_one,List.getElem?_eq_getElem (by omega)];rw [List.getD_eq_getElem?_getD,List.getElem?_eq_getElem (by omega)] at hy;simp at hy;rw [hy];rfl)
     have HY:=Box.mk (And.intro hy hym)
     clear hy hym hyr
     go_upto_region 14 with fail
     have K1:=Box.mk (show AdK w _ i gx wr.heap.size bs x y from ⟨H1.out.2.1,HB.out.2.1.below H1.out.2.2 (Nat.le_refl _),HB.out.2.2.1.below H1.out.2.2 (Nat.le_refl _),HB.out.2.2.2.eq (H1.out.2.2.block _ HB.out.2.2.2.lt),H1.out.1⟩)
     clear c0 c1 c2 c3 c4 c5 HB H1
     generalize (wr.alloc (.cells #[.int .i64 y.mode,.int .i64 y.snap,.bool y.done,.int .i64 y.stamp,.slice y.ra y.reads.length y.rc,.slice y.wa y.writes.length y.wc] 102))=w5 at *
     generalize wr.heap.size=gy at *
     obtain ⟨x0,x1,x2,x3,x4,x5⟩:=AccP.cells K1.out.kx
     obtain ⟨y0,y1,y2,y3,y4,y5⟩:=AccP.cells K1.out.ky
     go_upto_region 15 with fail
     obtain ⟨T,hT⟩:∃T,(if (if topS (hs.take k)<y.stamp then y.stamp else topS (hs.take k))<y.snap then y.snap else if topS (hs.take k)<y.stamp then y.stamp else topS (hs.take k))=T:=⟨_,rfl⟩
     rw [hT]
     have HT:=Box.mk (show topS (hs.take (k+1))=T from by rw [HTK.out,topS_snoc,hT])
     obtain ⟨W,hW⟩:∃W,winB x (hs.take k)=W:=⟨_,rfl⟩
     rw [hW]
     have HWN:=Box.mk (show winB x (hs.take (k+1))=(W&&!(y.wr&&decide (x.snap<y.stamp)&&meetI x.writes y.writes)) from by rw [HTK.out,winB_snoc,hW])
     clear hT hW
     generalize topS (hs.take k)=T0 at *
     cases W with
     | false =>
      go_wp2_with fail
      go_roundg (n - (k+1))
      case measure=>omega
      case rel=>exact ⟨k+1,by omega,by omega,by go_num,by rw [HT.out],by rw [HWN.out,Bool.false_and],⟨K1.out.b,K1.out.bi,K1.out.kx,K1.out.st⟩⟩
     | true =>
      rw [Bool.true_and] at HWN
      have HW2:=HWN
      clear HWN
      obtain ⟨p,hp⟩:∃p,y.wr=p:=⟨_,rfl⟩
      rw [hp] at HW2
      have HP:=Box.mk hp
      have HW3:=HW2
      clear hp HW2
      go_wp2_with fail
      refine (writesx_is HP.out _).mono ?_
      rintro e w6 ⟨rfl,hb⟩
      have K2:=Box.mk (K1.out.step hb)
      clear hb K1 x0 x1 x2 x3 x4 x5 y0 y1 y2 y3 y4 y5
      obtain ⟨x0,x1,x2,x3,x4,x5⟩:=AccP.cells K2.out.kx
      obtain ⟨y0,y1,y2,y3,y4,y5⟩:=AccP.cells K2.out.ky
      cases p with
      | false =>
       go_wp2_with fail
       go_roundg (n - (k+1))
       case measure=>omega
       case rel=>exact ⟨k+1,by omega,by omega,by go_num,by rw [HT.out],by rw [HW3.out];rfl,⟨K2.out.b,K2.out.bi,K2.out.kx,K2.out.st⟩⟩
      | true =>
       by_cases h1:x.snap<y.stamp
       ·have d1:decide (x.snap<y.stamp)=true:=decide_eq_true h1
        obtain ⟨m,hm⟩:∃m,meetI x.writes y.writes=m:=⟨_,rfl⟩
        rw [d1,hm] at HW3
        have HW4:=HW3
        have hmt:=meets_any K2.out.st (a:=y.wa) (n:=y.writes.length) (c:=y.wc) ((HR.out.each _ HY.out.2).below K2.out.b (Nat.le_refl _)).wr (OK.out.i64 _ HY.out.2).2
        rw [hm] at hmt
        clear hm HW3 h1
        go_wp2_with fail
        refine hmt.mono ?_
        rintro e w7 ⟨rfl,hb⟩
        have K3:=Box.mk (K2.out.step hb)
        clear hb hmt
        cases m with
        | false =>
         go_wp2_with fail
         go_roundg (n - (k+1))
         case measure=>omega
         case rel=>exact ⟨k+1,by omega,by omega,by go_num,by rw [HT.out],by rw [HW4.out];rfl,⟨K3.out.b,K3.out.bi,K3.out.kx,K3.out.st⟩⟩
        | true =>
         go_wp2_with fail
         go_roundg (n - (k+1))
         case measure=>omega
         case rel=>exact ⟨k+1,by omega,by omega,by go_num,by rw [HT.out],by rw [HW4.out];rfl,⟨K3.out.b,K3.out.bi,K3.out.kx,K3.out.st⟩⟩
       ·have d1:decide (x.snap<y.stamp)=false:=decide_eq_false h1
        rw [d1] at HW3
        have HW4:=HW3
        clear h1 HW3
        go_wp2_with fail
        go_roundg (n - (k+1))
        case measure=>omega
        case rel=>exact ⟨k+1,by omega,by omega,by go_num,by rw [HT.out],by rw [HW4.out];rfl,⟨K2.out.b,K2.out.bi,K2.out.kx,K2.out.st⟩⟩
    ·obtain rfl:k=n:=by omega
     rw [List.take_of_length_le (by omega)]
     have htn:=topS_nn hs
     have htl:=topS_le (l:=hs) (M:=1073741824) (by omega) (fun y hy=>⟨(formB_ok.1 (OK.out.form _ hy)).stamp.2,(formB_ok.1 (OK.out.form _ hy)).snap.2⟩)
     obtain ⟨T,hT⟩:∃T,topS hs=T:=⟨_,rfl⟩
     obtain ⟨W,hW⟩:∃W,winB x hs=W:=⟨_,rfl⟩
     rw [hT] at htn htl
     have HTW:=Box.mk (And.intro hT hW)
     rw [hT,hW]
     clear hT hW hlt hg
     by_cases hmx:1073741824<T+1
     ·go_wp2_with fail
      go_ret2
      exact ⟨HB.out.1,0,2,rfl,fun h=>by omega⟩
     ·cases W with
      | false =>
       go_wp2_with fail
       go_ret2
       exact ⟨HB.out.1,0,271,rfl,fun h=>by omega⟩
      | true =>
       go_wp2_with fail
       go_meet
       case rel=>exact ⟨T+1,rfl,⟨HB.out.1,HB.out.2.1,fun h=>absurd h HW.out,fun _=>⟨by rw [HTW.out.1],by omega,HTW.out.2⟩⟩⟩
 case rest =>
  obtain ⟨s,rfl,HS⟩:=hcut
  clear x0 x1 x2 x3 x4 x5 K3
  have i0:=HS.out.2.1.cellOf (i:=0) rfl
  obtain ⟨b',off',x',hab,hx,hxm,hxr,c0,c1,c2,c3,c4,c5⟩:=(HR.out.below HS.out.1).at i hi
  simp only [Option.some.injEq,Addr.mk.injEq,and_true] at hab
  obtain ⟨rfl,rfl⟩:=hab
  obtain rfl:x=x':=HX.out.1.symm.trans hx
  rw [HX.out.2.2] at c2
  clear hx hxm hxr
  have HOKN:=Box.mk (OK.out.fin (i:=i) (s:=s) (by omega) HX.out.1 HX.out.2.2 HS.out.2.2.1 HS.out.2.2.2)
  by_cases hm:x.mode=1
  ·have tm:(x.mode==1)=true:=by simp [hm]
   clear hm
   go_wp2_with fail
   refine (clone_acc (HR.out.below HS.out.1).rd (recC_one AccP.cs_one _) (by omega)).mono ?_
   rintro e w6 ⟨hb6,a6,c6,rfl,hown⟩
   obtain ⟨g6,rfl,hg6⟩:=own_some hown (by omega)
   have B6:=Box.mk (And.intro (HS.out.1.trans (hb6.mono HS.out.1.size)) (HS.out.2.1.below hb6 (Nat.le_refl _)))
   have HO6:=Box.mk hown
   have hg7:w.heap.size<g6:=by have:=HS.out.2.1.lt;omega
   clear hb6 hown i0 c0 c1 c2 c3 c4 c5 hg6
   go_upto_region 24 with fail
   have HS0:Blk w6.drew w.heap.size 3 [.int .i64 (i:Int)]:=B6.out.2
   have HOD:=Box.mk (show w6.drew.ownsRow wc.heap.size 102 6 (.slice (some ⟨g6,0,none⟩) n c6) n (recC AccP.cs hs) from HO6.out)
   have BD:=Box.mk (B6.out.1.drew)
   have hrl:=recC_length AccP.cs_len hs
   obtain ⟨cur,hbk,hcl,hown1,hgr1⟩:=own_store1 HOD.out (i * 6+2) (by rw [hrl,hln];omega) (.bool true)
   obtain ⟨cur2,hbk2,hcl2,hown2,hgr2⟩:=own_store1 hown1 (i * 6+3) (by rw [List.length_set,hrl,hln];omega) (.int .i64 s)
   have HROW:=Box.mk (show ((recC AccP.cs hs).set (i * 6+2) (.bool true)).set (i * 6+3) (.int .i64 s)=recC AccP.cs (hs.set i (x.fin s)) from by
    rw [recC_set AccP.cs_len hs i (by omega) 2 (by omega) (.bool true) { x with done:=true } (by rw [HX.out.1];rfl)]
    rw [recC_set AccP.cs_len (hs.set i { x with done:=true }) i (by simp;omega) 3 (by omega) (.int .i64 s) (x.fin s) (by rw [List.getD_eq_getElem?_getD,List.getElem?_set_self (by omega)];rfl)]
    rw [List.set_set])
   have HST:=Box.mk (And.intro hbk (And.intro hcl (And.intro hbk2 hcl2)))
   have HN:=Box.mk (show HistRd ((w6.drew.setRow g6 (splice cur (i * 6+2) [.bool true]).toArray).setRow g6 (splice cur2 (i * 6+3) [.int .i64 s]).toArray) (some ⟨g6,0,none⟩) n c6 (hs.set i (x.fin s)) ∧
     Below w.heap.size w ((w6.drew.setRow g6 (splice cur (i * 6+2) [.bool true]).toArray).setRow g6 (splice cur2 (i * 6+3) [.int .i64 s]).toArray) ∧
     Blk ((w6.drew.setRow g6 (splice cur (i * 6+2) [.bool true]).toArray).setRow g6 (splice cur2 (i * 6+3) [.int .i64 s]).toArray) w.heap.size 3 [.int .i64 (i:Int)] from by
    have hb:=below_setRow (below_setRow BD.out (show w.heap.size≤g6 by omega) (splice cur (i * 6+2) [.bool true]).toArray) (show w.heap.size≤g6 by omega) (splice cur2 (i * 6+3) [.int .i64 s]).toArray
    refine ⟨⟨by rw [← HROW.out];exact Rd.ofOwn hown2,fun y hy=>?_⟩,hb,(HS0.rowOther (by omega) _).rowOther (by omega) _⟩
    rcases List.mem_or_eq_of_mem_set hy with h | h
    ·exact (HR.out.each y h).below hb (Nat.le_refl _)
    ·subst h;exact ⟨((HR.out.each x HX.out.2.1).below hb (Nat.le_refl _)).rd,((HR.out.each x HX.out.2.1).below hb (Nat.le_refl _)).wr⟩)
   clear hbk hcl hbk2 hcl2 hown1 hown2 hgr1 hgr2 hrl HOD BD HO6 B6
   refine wp_region_held_drew (S:=fun w'=>Blk w' w.heap.size 3 [.int .i64 (i:Int)]) (by kernel_rfl) HS0 (fun _=>?_)
   refine tw 0 rfl HS0 ?_
   conv=>arg 8;simp [go_sem]
   refine tv 1 rfl (fun w' hS=>by have q:=hS.cellOf (i:=0) rfl;go_simp;all_goals with_reducible rfl) HS0 ?_
   conv=>arg 8;simp [go_sem]
   refine tw 2 rfl HS0 ?_
   conv=>arg 8;simp [go_sem]
   refine tv 3 rfl (fun w' hS=>by have q:=hS.cellOf (i:=0) rfl;go_simp;all_goals with_reducible rfl) HS0 ?_
   conv=>arg 8;simp [go_sem]
   refine tw 4 rfl HS0 ?_
   conv=>arg 8;simp [go_sem]
   refine tv 5 rfl (fun w' hS=>by (have q0:(0:Int)≤(i:Int):=by omega);(have q1:(i:Int)<(n:Int):=by omega);go_simp;all_goals with_reducible rfl) HS0 ?_
   conv=>arg 8;simp [go_sem]
   refine tw 6 rfl HS0 ?_
   conv=>arg 8;simp [go_sem]
   refine wpAnyH_ready (rs:=[7]) (by kernel_rfl) (by simp) (AllReadyH.cons rfl (fun K' hK'=>oper_store_part (by rfl) 4 (.tmp 99) (.const (.bool true)) rfl rfl (size:=1) (off:=i * 6+2) (by kernel_rfl) HST.out.1 HST.out.2.1 rfl (cs:=[.bool true]) rfl rfl (by simp [Value.oneCell']) ?_) AllReadyH.nil)
   have HT1:=HS0.rowOther (show w.heap.size≠g6 by omega) (splice cur (i * 6+2) [.bool true]).toArray
   refine hK'.out _ _ HT1 (fun _=>?_)
   clear hK' K'
   conv=>arg 8;simp [go_sem]
   refine tv 8 rfl (fun w' hS=>by (have q0:(0:Int)≤(i:Int):=by omega);(have q1:(i:Int)<(n:Int):=by omega);go_simp;all_goals with_reducible rfl) HT1 ?_
   conv=>arg 8;simp [go_sem]
   refine tw 9 rfl HT1 ?_
   conv=>arg 8;simp [go_sem]
   refine wpAnyH_ready (rs:=[10]) (by kernel_rfl) (by simp) (AllReadyH.cons rfl (fun K' hK'=>oper_store_part (by rfl) 3 (.tmp 101) (.tmp 97) rfl rfl (size:=1) (off:=i * 6+3) (by kernel_rfl) HST.out.2.2.1 HST.out.2.2.2 rfl (cs:=[.int .i64 s]) rfl rfl (by simp [Value.oneCell']) ?_) AllReadyH.nil)
   have HT2:=HT1.rowOther (show w.heap.size≠g6 by omega) (splice cur2 (i * 6+3) [.int .i64 s]).toArray
   refine hK'.out _ _ HT2 (fun _=>?_)
   clear hK' K'
   conv=>arg 8;simp [go_sem]
   refine ⟨by kernel_rfl,?_⟩
   conv =>
    arg 5
    simp [go_sem]
   generalize ((w6.drew.setRow g6 (splice cur (i * 6+2) [.bool true]).toArray).setRow g6 (splice cur2 (i * 6+3) [.int .i64 s]).toArray)=w8 at *
   clear HST HROW HS0 HT1 HT2
   go_wp2_with fail
   refine (graphOf_any HN.out.1 HOKN.out).mono ?_
   rintro e w9 ⟨hb9,g9,hg9,rfl,hG⟩
   have HG:=Box.mk hG
   have HN9:=Box.mk (And.intro (HN.out.1.below hb9) (And.intro (HN.out.2.1.trans (hb9.mono HN.out.2.1.size)) (HN.out.2.2.below hb9 (Nat.le_refl _))))
   clear hG hb9 HN
   obtain ⟨D,hD⟩:∃D,anyD (hs.set i (x.fin s)) n (fun a b c=>decide (a=i)||decide (b=i)||decide (c=i))=D:=⟨_,rfl⟩
   have HC:=structure_any HG.out HN9.out.1 (by omega) (fun a b c=>decide (a=i)||decide (b=i)||decide (c=i)) 149 #[.pointer (some ⟨w.heap.size,0,none⟩)] admitF_enters
    (fun W a b c _ _ _ hW=>admitF_any ((HN9.out.2.2.below hW (Nat.le_refl _)).cellOf (i:=0) rfl) a b c)
   rw [hD] at HC
   have HC2:=Box.mk HC
   have HD:=Box.mk hD
   clear HC hD
   go_wp2_with fail
   refine HC2.out.mono ?_
   rintro e w10 ⟨hb10,xa,ya,za,rfl⟩
   have B10:=Box.mk (HN9.out.2.1.trans (hb10.mono HN9.out.2.1.size))
   clear hb10
   cases D with
   | true =>
    go_wp2_with fail
    go_ret2
    exact ⟨B10.out.alloc B10.out.size _,0,272,rfl,fun h=>by omega⟩
   | false =>
    go_wp2_with fail
    go_ret2
    exact ⟨B10.out.alloc B10.out.size _,s,0,rfl,fun _=>⟨by rw [HX.out.1];exact HS.out.2.2.1,by rw [HX.out.1];exact HS.out.2.2.2,fun _=>by rw [HX.out.1,hln];exact HD.out⟩⟩
  ·have tm:(x.mode==1)=false:=by simp [hm]
   have HM:=Box.mk hm
   clear hm
   go_wp2_with fail
   go_ret2
   exact ⟨HS.out.1,s,0,rfl,fun _=>⟨by rw [HX.out.1];exact HS.out.2.2.1,by rw [HX.out.1];exact HS.out.2.2.2,by rw [HX.out.1];exact fun h=>absurd h HM.out⟩⟩
end
section
open Go.RowKit Go.Maps
def KpB (n₀:Nat) (A B:World):Prop:=Below n₀ A B∧KeepsWalks A B
theorem KpB.t {n₀:Nat} {A B C:World} (h:KpB n₀ A B) (k:KpB n₀ B C):KpB n₀ A C:=⟨h.1.trans k.1,h.2.trans k.2⟩
theorem KpB.b {n₀:Nat} {w:World} (hn:n₀≤w.heap.size) (W:World) (l:Nat) (o o':Obj) (hl:w.heap.size≤l) (h:W.heap[l]?=some o) (h1:o.isCells=false) (h2:o.isWalk=false):KpB n₀ W (W.putObj l o') :=
 ⟨belowK_b hn W l o o' hl h h1 h2,walksK_b (w:=w) W l o o' hl h h1 h2⟩
def IterK {α:Type} (gf:Nat) (lb:Array Value) (encs:α→Array Value) (S:List α→Prop) (N:Nat) (w:World):Prop:=∀n₀,n₀=w.heap.size→SeqStopsK Fence.wide 7 Tryz.prog gf lb encs (KpB n₀) S (fun _=>True) N w
theorem wpListIn_append_src {F:Fence} {nF:Nat} {P:Program} {w:World} {ops:Array Oper} {rest:List Oper} {o:Oper} {a:Act} {Q:Exit→Act→World→Prop} (hgd:Region.wanted o (yielded ops a.tmps)=true) (s x:Operand) (t tx:TypeId)
  (ho:o.op=.call { callee:=.builtin .append,args:=#[s,x],argTypes:=#[t,tx] })
  {e:TypeId} {z:Value} {size bytes:Nat} (hT:SlT P t e z size bytes) (htx:P.underlying tx=some (.slice e)∨P.underlying tx=some .string)
  {base:Nat} {a0:Option Addr} {n cap:Nat} {xs:List Value} (hs:a.eval s=.slice a0 n cap) (hown:w.ownsRow base e size (.slice a0 n cap) n xs)
  {xv:Value} {m:Nat} {news:List Value} (hx:a.eval x=xv) (hsrc:Src P w xv m size news)
  (hbytes:(n+m) * bytes≤140737488355328) (h63:n+m≤maxLen) (hbase:base≤w.heap.size)
  (h:∀a' cap' w',w'.ownsRow base e size (.slice a' (n+m) cap') (n+m) (xs++news)→w.grownBy w' (Value.slice a0 n cap).ownBlock →
   wpListIn F nF P ops Q rest (a.put o.dst (.slice a' (n+m) cap')) w'):wpListIn F nF P ops Q (o::rest) a w:=by
 refine BigFrame.wpListIn_want hgd fun K hK=>?_
 obtain ⟨i,hi,hz,hsz,hby⟩:=info_parts hT.info
 obtain ⟨a',cap',w',hr,h2,h3,h4⟩:=run_append_src (P:=P) w base t tx o.type e i z size bytes hT.ht htx hi hz hsz hby hT.hz a0 n cap xs hown xv m news hsrc h63 hbytes hbase
 unfold Oper.wpIn
 refine ⟨by simp [Oper.about,ho,resolve,Target.leads,Sem.run_pure],?_⟩
 rw [Oper.semAt_plain F _ _ (by rw [ho];intro c hc';cases hc')]
 simp [execOp,ho,resolve,invoke,builtin,hs,hx,hr,Result.andThen]
 exact hK _ _ (h a' cap' w' h2 h3)
def RetCol {α:Type} (S:List α→Prop) (enc:α→List Value) (T:TypeId) (k:Nat) (w:World) (e:Ending) (w':World):Prop :=
 Below w.heap.size w w'∧∃ (xs:List α) (a:Option Addr) (c:Nat),S xs∧e=.returned (.slice a xs.length c)∧w'.ownsRow w.heap.size T k (.slice a xs.length c) xs.length (recC enc xs)
theorem Src.lone {P:Program} (w:World) (cs:List Value) (e:TypeId) {size:Nat} (hl:cs.length=size) (h1:∀u∈cs,u.oneCell'=true):Src P (w.alloc (.cells cs.toArray e)) (.slice (some ⟨w.heap.size,0,none⟩) 1 1) 1 size cs :=
 Src.ofRd (rd_newAt (n:=1) rfl rfl (by omega) (by unfold maxLen;omega)) h1
end
end Go.Proofs.YtlfghapllmaigaaGreatDoor
