/-
  The three comparisons of records, slices.SortFunc and slices.SortedFunc; Keys that are a struct or an array of two integers; Plain: lists of records that lie at eight spots, in the spots' order. Conditions: each theorem's own hypotheses.
-/
import Derived.Shelf.SlSortCmp.NoneTotal
import Derived.Test.YtlfghapllmaigaaGreatDoorK12
import Derived.Test.YtlfghapllmaigaaGreatDoorK09
import Derived.Test.YtlfghapllmaigaaGreatDoorK04
import Derived.DeepKeys4
namespace Go.Proofs.YtlfghapllmaigaaGreatDoor
section
open Go.RowKit Go.Maps
theorem nm_cmpI:(Tryz.f109.name == "runtime.NumGoroutine")=false:=by kernel_rfl
theorem bd_cmpI:Tryz.f109.body.isNone=false:=by kernel_rfl
theorem nm_or:(Tryz.f108.name == "runtime.NumGoroutine")=false:=by kernel_rfl
theorem bd_or:Tryz.f108.body.isNone=false:=by kernel_rfl
set_option maxRecDepth 20000 in
set_option maxHeartbeats 2000000 in
theorem or2_any (p q:Int) (w:World) (g:Nat) (hb:Blk w g 3 [.int .i64 p,.int .i64 q]):Calls Tryz.prog 108 #[.slice (some ⟨g,0,none⟩) 2 2] w fun e w'=>e=.returned (.int .i64 (or2I p q))∧w'=w:=by
 obtain ⟨L,hL⟩:∃L:List Int,L=[p,q]:=⟨_,rfl⟩
 have HBL:=Box.mk (show ∀k,k<2→w.cell? ⟨g,k,none⟩=some (.int .i64 (L.getD k 0)) from fun k hk=>by
  subst hL
  match k,hk with
  | 0,_=>exact hb.cellOf rfl
  | 1,_=>exact hb.cellOf rfl)
 have HR:=Box.mk (show ∀k,k<2→(∀j,j<k→L.getD j 0=0)→L.getD k 0≠0→or2I p q=L.getD k 0 from fun k hk h0 h1=>by
  subst hL
  unfold or2I
  match k,hk with
  | 0,_=>rw [if_neg (show p≠0 from h1)];rfl
  | 1,_=>rw [if_pos (show p=0 from h0 0 (by omega))];rfl)
 have HZ:=Box.mk (show (∀j,j<2→L.getD j 0=0)→or2I p q=0 from fun h0=>by
  subst hL
  unfold or2I
  rw [if_pos (show p=0 from h0 0 (by omega))];exact h0 1 (by omega))
 clear hb hL
 generalize or2I p q=R at *
 go_enter Tryz.func108,Tryz.ntmps108
 go_wp2_with fail
 go_loopw [8] (fun i wr=>∃k:Nat,k≤2∧i=.int .i64 k∧Box (∀j,j<k→L.getD j 0=0)∧wr=w) (fun i _=>2 - (intOf i).toNat)
 case atStart=>exact ⟨0,by omega,rfl,⟨fun j h=>by omega⟩,rfl⟩
 case round =>
  obtain ⟨k,hk,rfl,H0,rfl⟩:=hrel
  by_cases hlt:k<2
  ·have c0:=HBL.out k hlt
   by_cases e:L.getD k 0=0
   ·have H1:=Box.mk (show ∀j,j<k+1→L.getD j 0=0 from fun j hj=>by
     by_cases h:j=k
     ·subst h;exact e
     ·exact H0.out j (by omega))
    rw [e] at c0
    have b1:((0:Int) != 0)=false:=rfl
    clear e
    go_wp2_with fail
    exact ⟨⟨k+1,by omega,by go_num,H1,trivial⟩,by simp [intOf];omega⟩
   ·have H1:=Box.mk (HR.out k hlt H0.out e)
    have b1:(L.getD k 0 != 0)=true:=by simp only [bne_iff_ne,ne_eq];exact e
    generalize L.getD k 0=y at *
    clear e
    go_wp2_with fail
    go_ret
    exact ⟨by rw [H1.out];rfl,rfl⟩
  ·obtain rfl:k=2:=by omega
   have H1:=Box.mk (HZ.out H0.out)
   go_wp2_with fail
   go_ret
   exact ⟨by rw [H1.out];rfl,rfl⟩
set_option maxRecDepth 20000 in
set_option maxHeartbeats 2000000 in
theorem cmp_wr (x y:WrP) (w:World):Calls Tryz.prog 107 #[x.v,y.v] w (RetG (.int .i64 (cmp2 x.table x.row y.table y.row)) w):=by
 obtain ⟨xt,xr,xd,xa,xc,xl⟩:=x
 obtain ⟨yt,yr,yd,ya,yc,yl⟩:=y
 have HK:=Box.mk (fun w=>cmpI_any xt yt w)
 have HI:=Box.mk (fun w=>cmpI_any xr yr w)
 have HO:=Box.mk (fun (w:World) (g:Nat) (hb:Blk w g 3 [.int .i64 (cmpI xt yt),.int .i64 (cmpI xr yr)])=>or2_any _ _ w g hb)
 show Calls _ _ _ _ (RetG (.int .i64 (or2I (cmpI xt yt) (cmpI xr yr))) w)
 generalize cmpI xt yt=p at *
 generalize cmpI xr yr=q at *
 generalize or2I p q=r at *
 unfold WrP.v
 simp only
 generalize xl.length=xn at *
 generalize yl.length=yn at *
 have b1:=(Blk.new (w:=w) (k:=w.heap.size) (ty:=90) (cs:=[.int .i64 xt,.int .i64 xr,.bool xd,.slice xa xn xc]) rfl rfl).alloc (.cells #[.int .i64 yt,.int .i64 yr,.bool yd,.slice ya yn yc] 90)
 have b2:=Blk.new (w:=w.alloc (.cells #[.int .i64 xt,.int .i64 xr,.bool xd,.slice xa xn xc] 90)) (k:=w.heap.size+1) (ty:=90) (cs:=[.int .i64 yt,.int .i64 yr,.bool yd,.slice ya yn yc]) (by simp) rfl
 have HS0:Blk ((w.alloc (.cells #[.int .i64 xt,.int .i64 xr,.bool xd,.slice xa xn xc] 90)).alloc (.cells #[.int .i64 yt,.int .i64 yr,.bool yd,.slice ya yn yc] 90)).drew w.heap.size 90 [.int .i64 xt,.int .i64 xr,.bool xd,.slice xa xn xc]∧Blk ((w.alloc (.cells #[.int .i64 xt,.int .i64 xr,.bool xd,.slice xa xn xc] 90)).alloc (.cells #[.int .i64 yt,.int .i64 yr,.bool yd,.slice ya yn yc] 90)).drew (w.heap.size+1) 90 [.int .i64 yt,.int .i64 yr,.bool yd,.slice ya yn yc]∧GrowW w ((w.alloc (.cells #[.int .i64 xt,.int .i64 xr,.bool xd,.slice xa xn xc] 90)).alloc (.cells #[.int .i64 yt,.int .i64 yr,.bool yd,.slice ya yn yc] 90)).drew:=⟨b1.drew,b2.drew,(((GrowW.refl w).alloc _).alloc _).drew⟩
 clear b1 b2
 go_enter Tryz.func107,Tryz.ntmps107
 go_wp2_with fail
 refine wp_region_held_drew (S:=fun w'=>Blk w' w.heap.size 90 [.int .i64 xt,.int .i64 xr,.bool xd,.slice xa xn xc]∧Blk w' (w.heap.size+1) 90 [.int .i64 yt,.int .i64 yr,.bool yd,.slice ya yn yc]∧GrowW w w') (by kernel_rfl) HS0 (fun _=>?_)
 refine tw 0 rfl HS0 ?_
 conv=>arg 8;simp [go_sem]
 refine tv 1 rfl (fun w' hS=>by have e:=hS.1.cellOf (i:=0) rfl;go_simp;all_goals with_reducible rfl) HS0 ?_
 conv=>arg 8;simp [go_sem]
 refine tw 2 rfl HS0 ?_
 conv=>arg 8;simp [go_sem]
 refine tv 3 rfl (fun w' hS=>by have e:=hS.2.1.cellOf (i:=0) rfl;go_simp;all_goals with_reducible rfl) HS0 ?_
 conv=>arg 8;simp [go_sem]
 refine tw 5 rfl HS0 ?_
 conv=>arg 8;simp [go_sem]
 refine tv 6 rfl (fun w' hS=>by have e:=hS.1.cellOf (i:=1) rfl;go_simp;all_goals with_reducible rfl) HS0 ?_
 conv=>arg 8;simp [go_sem]
 refine tw 7 rfl HS0 ?_
 conv=>arg 8;simp [go_sem]
 refine tv 8 rfl (fun w' hS=>by have e:=hS.2.1.cellOf (i:=1) rfl;go_simp;all_goals with_reducible rfl) HS0 ?_
 conv=>arg 8;simp [go_sem]
 refine wpAnyH_ready (rs:=[4]) (by kernel_rfl) (by simp) (AllReadyH.cons rfl (fun K' hK'=>oper_call (by rfl) 109 [.tmp 6,.tmp 8] #[3,3] rfl (vs:=[.int .i64 xt,.int .i64 yt]) rfl Tryz.func109 nm_cmpI bd_cmpI (HK.out _) ?_) AllReadyH.nil)
 rintro e w5 ⟨rfl,rfl⟩
 have HT1:=HS0
 refine ⟨_,rfl,hK'.out _ _ HT1 (fun _=>?_)⟩
 clear hK' K'
 conv=>arg 8;simp [go_sem]
 refine wpAnyH_ready (rs:=[9]) (by kernel_rfl) (by simp) (AllReadyH.cons rfl (fun K' hK'=>oper_call (by rfl) 109 [.tmp 11,.tmp 13] #[3,3] rfl (vs:=[.int .i64 xr,.int .i64 yr]) rfl Tryz.func109 nm_cmpI bd_cmpI (HI.out _) ?_) AllReadyH.nil)
 rintro e w6 ⟨rfl,rfl⟩
 have HT2:=HT1
 refine ⟨_,rfl,hK'.out _ _ HT2 (fun _=>?_)⟩
 clear hK' K'
 conv=>arg 8;simp [go_sem]
 refine wpAnyH_ready (rs:=[10]) (by kernel_rfl) (by simp) (AllReadyH.cons rfl (fun K' hK'=>oper_lit2 (by rfl) 44 (.tmp 9) (.tmp 14) rfl sl_int (v:=.int .i64 p) (u:=.int .i64 q) rfl rfl ?_) AllReadyH.nil)
 have HT3:=And.intro (HT2.1.alloc (.cells #[.int .i64 p,.int .i64 q] 3)) (And.intro (HT2.2.1.alloc (.cells #[.int .i64 p,.int .i64 q] 3)) (HT2.2.2.alloc (.cells #[.int .i64 p,.int .i64 q] 3)))
 refine hK'.out _ _ HT3 (fun _=>?_)
 clear hK' K'
 conv=>arg 8;simp [go_sem]
 refine wpAnyH_ready (rs:=[11]) (by kernel_rfl) (by simp) (AllReadyH.cons rfl (fun K' hK'=>oper_call (by rfl) 108 [.tmp 15] #[44] rfl (vs:=[.slice (some ⟨_,0,none⟩) 2 2]) rfl Tryz.func108 nm_or bd_or (HO.out _ _ (Blk.new (by simp) rfl)) ?_) AllReadyH.nil)
 rintro e w8 ⟨rfl,rfl⟩
 have HT4:=HT3
 refine ⟨_,rfl,hK'.out _ _ HT4 (fun _=>?_)⟩
 clear hK' K'
 conv=>arg 8;simp [go_sem]
 refine tw 12 rfl HT4 ?_
 conv=>arg 8;simp [go_sem]
 refine ⟨by kernel_rfl,?_⟩
 conv =>
  arg 5
  simp [go_sem]
 have HSE:=HT4
 go_wp2_with fail
 go_ret
 exact ⟨rfl,HSE.2.2⟩
theorem cmpE_wr (args:Array Value) (w:World):(callFunc 107 args).run Tryz.prog w=.ok (.enter 107 args) w:=enters_fn Tryz.func107 (by kernel_rfl) (by kernel_rfl) args w
theorem srtF_wr {xs:List WrP} {a:Option Addr} {n c B:Nat} {w:World} (hB:B≤w.heap.size) (h:w.ownsRow B 90 4 (.slice a n c) n (recC WrP.enc xs)) (hn:n≤1000000) :
  Calls Tryz.prog 151 #[.slice a n c,.func (.func 107) #[] #[]] w (RetSrt (WrP.table) (WrP.row) WrP.enc 90 4 B n a c xs w):=by
 rcases Nat.eq_zero_or_pos n with h0 | hp
 ·subst h0
  have hx:xs=[]:=by
   have:=h.1
   rw [recC_length WrP.enc_len] at this
   exact List.length_eq_zero_iff.1 (by omega)
  have hc:=AnyF.slices_SortFunc_none (P:=Tryz.prog) (ρ:=Tryz.sortWr_ren) { Tryz.sortWr with } a c (.func (.func 107) #[] #[]) w
  change Calls Tryz.prog 151 _ _ _ at hc
  refine hc.mono ?_
  rintro e w' ⟨rfl,rfl⟩
  exact ⟨(Below.refl _ _),rfl,xs,List.Perm.refl _,by rw [hx];exact List.Pairwise.nil,h⟩
 ·obtain ⟨g,rfl,hg⟩:=own_some h hp
  obtain ⟨hH,hl,hlt⟩:=own_holdsK WrP.enc_len (by omega) h
  refine retSrt_of WrP.enc_len (by omega) hB h hg hl ?_
  have hc:=AnyQ.slices_SortFunc Tryz.sortWr 4 Tryz.isAgg90 Tryz.sizeOf90 WrP.enc WrP.enc_len (fun x v hv=>WrP.enc_one x v hv) (fun x y:WrP=>cmp2 x.table x.row y.table y.row) (swo2 (WrP.table) (WrP.row)) 107 #[] g 0 c xs.toArray w cmpE_wr
   (fun m os dk hdk x y=>cmp_wr x y _) hH hlt (by simp;omega)
  change Calls Tryz.prog 151 _ _ _ at hc
  rw [List.size_toArray,hl] at hc
  rw [List.size_toArray,hl]
  exact hc
set_option maxRecDepth 20000 in
set_option maxHeartbeats 2000000 in
theorem srtd_wr {gf:Nat} {lb:Array Value} (eg:∀args w,(callFunc gf args).run Tryz.prog w=.ok (.enter gf args) w) {S:List WrP→Prop} {N:Nat} {w:World} (hseq:IterK gf lb (fun x:WrP=>#[WrP.v x]) S N w) (hN:N≤1000000) (hS:∀xs,S xs→xs.length≤1000000) :
  Calls Tryz.prog 105 #[.func (.func gf) #[] lb,.func (.func 107) #[] #[]] w (RetCol (fun ys=>ys.Pairwise (Le2 (WrP.table) (WrP.row))∧∃xs,S xs∧ys.Perm xs) WrP.enc 90 4 w):=by
 have HC:=Box.mk (coll_wr eg hseq hN)
 have HSL:=Box.mk hS
 clear hseq eg hS
 go_enter Tryz.func105,Tryz.ntmps105
 go_wp2_with fail
 refine HC.out.mono ?_
 rintro e w1 ⟨hb,xs,a,c,hxs,rfl,hrow⟩
 have hl:=HSL.out xs hxs
 have HX:=Box.mk (And.intro hb hxs)
 have HSR:=Box.mk (srtF_wr hb.size hrow hl)
 clear hb hxs hrow
 go_wp2_with fail
 refine HSR.out.mono ?_
 rintro e w2 ⟨hb2,rfl,ys,hp,hs,hrow⟩
 have HY:=Box.mk (And.intro hb2 (And.intro hp (And.intro hs hrow)))
 have HLEN:=Box.mk hp.length_eq
 clear hb2 hp hs hrow
 go_wp2_with fail
 go_ret
 refine ⟨HX.out.1.trans HY.out.1,ys,a,c,⟨HY.out.2.2.1,xs,HX.out.2,HY.out.2.1⟩,by rw [HLEN.out];rfl,by rw [HLEN.out];exact HY.out.2.2.2⟩
set_option maxRecDepth 20000 in
set_option maxHeartbeats 2000000 in
theorem cmp_hd (x y:HdP) (w:World):Calls Tryz.prog 63 #[x.v,y.v] w (RetG (.int .i64 (cmp2 x.table x.row y.table y.row)) w):=by
 obtain ⟨xt,xr,xd,xa,xc,xl⟩:=x
 obtain ⟨yt,yr,yd,ya,yc,yl⟩:=y
 have HK:=Box.mk (fun w=>cmpI_any xt yt w)
 have HI:=Box.mk (fun w=>cmpI_any xr yr w)
 have HO:=Box.mk (fun (w:World) (g:Nat) (hb:Blk w g 3 [.int .i64 (cmpI xt yt),.int .i64 (cmpI xr yr)])=>or2_any _ _ w g hb)
 show Calls _ _ _ _ (RetG (.int .i64 (or2I (cmpI xt yt) (cmpI xr yr))) w)
 generalize cmpI xt yt=p at *
 generalize cmpI xr yr=q at *
 generalize or2I p q=r at *
 unfold HdP.v
 simp only
 generalize xl.length=xn at *
 generalize yl.length=yn at *
 have b1:=(Blk.new (w:=w) (k:=w.heap.size) (ty:=136) (cs:=[.int .i64 xt,.int .i64 xr,.int .i64 xd,.slice xa xn xc]) rfl rfl).alloc (.cells #[.int .i64 yt,.int .i64 yr,.int .i64 yd,.slice ya yn yc] 136)
 have b2:=Blk.new (w:=w.alloc (.cells #[.int .i64 xt,.int .i64 xr,.int .i64 xd,.slice xa xn xc] 136)) (k:=w.heap.size+1) (ty:=136) (cs:=[.int .i64 yt,.int .i64 yr,.int .i64 yd,.slice ya yn yc]) (by simp) rfl
 have HS0:Blk ((w.alloc (.cells #[.int .i64 xt,.int .i64 xr,.int .i64 xd,.slice xa xn xc] 136)).alloc (.cells #[.int .i64 yt,.int .i64 yr,.int .i64 yd,.slice ya yn yc] 136)).drew w.heap.size 136 [.int .i64 xt,.int .i64 xr,.int .i64 xd,.slice xa xn xc]∧Blk ((w.alloc (.cells #[.int .i64 xt,.int .i64 xr,.int .i64 xd,.slice xa xn xc] 136)).alloc (.cells #[.int .i64 yt,.int .i64 yr,.int .i64 yd,.slice ya yn yc] 136)).drew (w.heap.size+1) 136 [.int .i64 yt,.int .i64 yr,.int .i64 yd,.slice ya yn yc]∧GrowW w ((w.alloc (.cells #[.int .i64 xt,.int .i64 xr,.int .i64 xd,.slice xa xn xc] 136)).alloc (.cells #[.int .i64 yt,.int .i64 yr,.int .i64 yd,.slice ya yn yc] 136)).drew:=⟨b1.drew,b2.drew,(((GrowW.refl w).alloc _).alloc _).drew⟩
 clear b1 b2
 go_enter Tryz.func63,Tryz.ntmps63
 go_wp2_with fail
 refine wp_region_held_drew (S:=fun w'=>Blk w' w.heap.size 136 [.int .i64 xt,.int .i64 xr,.int .i64 xd,.slice xa xn xc]∧Blk w' (w.heap.size+1) 136 [.int .i64 yt,.int .i64 yr,.int .i64 yd,.slice ya yn yc]∧GrowW w w') (by kernel_rfl) HS0 (fun _=>?_)
 refine tw 0 rfl HS0 ?_
 conv=>arg 8;simp [go_sem]
 refine tv 1 rfl (fun w' hS=>by have e:=hS.1.cellOf (i:=0) rfl;go_simp;all_goals with_reducible rfl) HS0 ?_
 conv=>arg 8;simp [go_sem]
 refine tw 2 rfl HS0 ?_
 conv=>arg 8;simp [go_sem]
 refine tv 3 rfl (fun w' hS=>by have e:=hS.2.1.cellOf (i:=0) rfl;go_simp;all_goals with_reducible rfl) HS0 ?_
 conv=>arg 8;simp [go_sem]
 refine tw 5 rfl HS0 ?_
 conv=>arg 8;simp [go_sem]
 refine tv 6 rfl (fun w' hS=>by have e:=hS.1.cellOf (i:=1) rfl;go_simp;all_goals with_reducible rfl) HS0 ?_
 conv=>arg 8;simp [go_sem]
 refine tw 7 rfl HS0 ?_
 conv=>arg 8;simp [go_sem]
 refine tv 8 rfl (fun w' hS=>by have e:=hS.2.1.cellOf (i:=1) rfl;go_simp;all_goals with_reducible rfl) HS0 ?_
 conv=>arg 8;simp [go_sem]
 refine wpAnyH_ready (rs:=[4]) (by kernel_rfl) (by simp) (AllReadyH.cons rfl (fun K' hK'=>oper_call (by rfl) 109 [.tmp 6,.tmp 8] #[3,3] rfl (vs:=[.int .i64 xt,.int .i64 yt]) rfl Tryz.func109 nm_cmpI bd_cmpI (HK.out _) ?_) AllReadyH.nil)
 rintro e w5 ⟨rfl,rfl⟩
 have HT5:=HS0
 refine ⟨_,rfl,hK'.out _ _ HT5 (fun _=>?_)⟩
 clear hK' K'
 conv=>arg 8;simp [go_sem]
 refine wpAnyH_ready (rs:=[9]) (by kernel_rfl) (by simp) (AllReadyH.cons rfl (fun K' hK'=>oper_call (by rfl) 109 [.tmp 11,.tmp 13] #[3,3] rfl (vs:=[.int .i64 xr,.int .i64 yr]) rfl Tryz.func109 nm_cmpI bd_cmpI (HI.out _) ?_) AllReadyH.nil)
 rintro e w6 ⟨rfl,rfl⟩
 have HT6:=HT5
 refine ⟨_,rfl,hK'.out _ _ HT6 (fun _=>?_)⟩
 clear hK' K'
 conv=>arg 8;simp [go_sem]
 refine wpAnyH_ready (rs:=[10]) (by kernel_rfl) (by simp) (AllReadyH.cons rfl (fun K' hK'=>oper_lit2 (by rfl) 44 (.tmp 9) (.tmp 14) rfl sl_int (v:=.int .i64 p) (u:=.int .i64 q) rfl rfl ?_) AllReadyH.nil)
 have HT7:=And.intro (HT6.1.alloc (.cells #[.int .i64 p,.int .i64 q] 3)) (And.intro (HT6.2.1.alloc (.cells #[.int .i64 p,.int .i64 q] 3)) (HT6.2.2.alloc (.cells #[.int .i64 p,.int .i64 q] 3)))
 refine hK'.out _ _ HT7 (fun _=>?_)
 clear hK' K'
 conv=>arg 8;simp [go_sem]
 refine wpAnyH_ready (rs:=[11]) (by kernel_rfl) (by simp) (AllReadyH.cons rfl (fun K' hK'=>oper_call (by rfl) 108 [.tmp 15] #[44] rfl (vs:=[.slice (some ⟨_,0,none⟩) 2 2]) rfl Tryz.func108 nm_or bd_or (HO.out _ _ (Blk.new (by simp) rfl)) ?_) AllReadyH.nil)
 rintro e w8 ⟨rfl,rfl⟩
 have HT8:=HT7
 refine ⟨_,rfl,hK'.out _ _ HT8 (fun _=>?_)⟩
 clear hK' K'
 conv=>arg 8;simp [go_sem]
 refine tw 12 rfl HT8 ?_
 conv=>arg 8;simp [go_sem]
 refine ⟨by kernel_rfl,?_⟩
 conv =>
  arg 5
  simp [go_sem]
 have HSE:=HT8
 go_wp2_with fail
 go_ret
 exact ⟨rfl,HSE.2.2⟩
theorem cmpE_hd (args:Array Value) (w:World):(callFunc 63 args).run Tryz.prog w=.ok (.enter 63 args) w:=enters_fn Tryz.func63 (by kernel_rfl) (by kernel_rfl) args w
theorem srtF_hd {xs:List HdP} {a:Option Addr} {n c B:Nat} {w:World} (hB:B≤w.heap.size) (h:w.ownsRow B 136 4 (.slice a n c) n (recC HdP.enc xs)) (hn:n≤1000000) :
  Calls Tryz.prog 132 #[.slice a n c,.func (.func 63) #[] #[]] w (RetSrt (HdP.table) (HdP.row) HdP.enc 136 4 B n a c xs w):=by
 rcases Nat.eq_zero_or_pos n with h0 | hp
 ·subst h0
  have hx:xs=[]:=by
   have:=h.1
   rw [recC_length HdP.enc_len] at this
   exact List.length_eq_zero_iff.1 (by omega)
  have hc:=AnyF.slices_SortFunc_none (P:=Tryz.prog) (ρ:=Tryz.sortHd_ren) { Tryz.sortHd with } a c (.func (.func 63) #[] #[]) w
  change Calls Tryz.prog 132 _ _ _ at hc
  refine hc.mono ?_
  rintro e w' ⟨rfl,rfl⟩
  exact ⟨(Below.refl _ _),rfl,xs,List.Perm.refl _,by rw [hx];exact List.Pairwise.nil,h⟩
 ·obtain ⟨g,rfl,hg⟩:=own_some h hp
  obtain ⟨hH,hl,hlt⟩:=own_holdsK HdP.enc_len (by omega) h
  refine retSrt_of HdP.enc_len (by omega) hB h hg hl ?_
  have hc:=AnyQ.slices_SortFunc Tryz.sortHd 4 Tryz.isAgg136 Tryz.sizeOf136 HdP.enc HdP.enc_len (fun x v hv=>HdP.enc_one x v hv) (fun x y:HdP=>cmp2 x.table x.row y.table y.row) (swo2 (HdP.table) (HdP.row)) 63 #[] g 0 c xs.toArray w cmpE_hd
   (fun m os dk hdk x y=>cmp_hd x y _) hH hlt (by simp;omega)
  change Calls Tryz.prog 132 _ _ _ at hc
  rw [List.size_toArray,hl] at hc
  rw [List.size_toArray,hl]
  exact hc
set_option maxRecDepth 20000 in
set_option maxHeartbeats 2000000 in
theorem srtd_hd {gf:Nat} {lb:Array Value} (eg:∀args w,(callFunc gf args).run Tryz.prog w=.ok (.enter gf args) w) {S:List HdP→Prop} {N:Nat} {w:World} (hseq:IterK gf lb (fun x:HdP=>#[HdP.v x]) S N w) (hN:N≤1000000) (hS:∀xs,S xs→xs.length≤1000000) :
  Calls Tryz.prog 81 #[.func (.func gf) #[] lb,.func (.func 63) #[] #[]] w (RetCol (fun ys=>ys.Pairwise (Le2 (HdP.table) (HdP.row))∧∃xs,S xs∧ys.Perm xs) HdP.enc 136 4 w):=by
 have HC:=Box.mk (coll_hd eg hseq hN)
 have HSL:=Box.mk hS
 clear hseq eg hS
 go_enter Tryz.func81,Tryz.ntmps81
 go_wp2_with fail
 refine HC.out.mono ?_
 rintro e w1 ⟨hb,xs,a,c,hxs,rfl,hrow⟩
 have hl:=HSL.out xs hxs
 have HX:=Box.mk (And.intro hb hxs)
 have HSR:=Box.mk (srtF_hd hb.size hrow hl)
 clear hb hxs hrow
 go_wp2_with fail
 refine HSR.out.mono ?_
 rintro e w2 ⟨hb2,rfl,ys,hp,hs,hrow⟩
 have HY:=Box.mk (And.intro hb2 (And.intro hp (And.intro hs hrow)))
 have HLEN:=Box.mk hp.length_eq
 clear hb2 hp hs hrow
 go_wp2_with fail
 go_ret
 refine ⟨HX.out.1.trans HY.out.1,ys,a,c,⟨HY.out.2.2.1,xs,HX.out.2,HY.out.2.1⟩,by rw [HLEN.out];rfl,by rw [HLEN.out];exact HY.out.2.2.2⟩
set_option maxRecDepth 20000 in
set_option maxHeartbeats 2000000 in
theorem cmp_ver (x y:VerP) (w:World):Calls Tryz.prog 157 #[x.v,y.v] w (RetG (.int .i64 (cmp2 x.row x.stamp y.row y.stamp)) w):=by
 obtain ⟨xt,xr,xd,xa,xc,xl⟩:=x
 obtain ⟨yt,yr,yd,ya,yc,yl⟩:=y
 have HK:=Box.mk (fun w=>cmpI_any xt yt w)
 have HI:=Box.mk (fun w=>cmpI_any xr yr w)
 have HO:=Box.mk (fun (w:World) (g:Nat) (hb:Blk w g 3 [.int .i64 (cmpI xt yt),.int .i64 (cmpI xr yr)])=>or2_any _ _ w g hb)
 show Calls _ _ _ _ (RetG (.int .i64 (or2I (cmpI xt yt) (cmpI xr yr))) w)
 generalize cmpI xt yt=p at *
 generalize cmpI xr yr=q at *
 generalize or2I p q=r at *
 unfold VerP.v
 simp only
 generalize xl.length=xn at *
 generalize yl.length=yn at *
 have b1:=(Blk.new (w:=w) (k:=w.heap.size) (ty:=93) (cs:=[.int .i64 xt,.int .i64 xr,.bool xd,.slice xa xn xc]) rfl rfl).alloc (.cells #[.int .i64 yt,.int .i64 yr,.bool yd,.slice ya yn yc] 93)
 have b2:=Blk.new (w:=w.alloc (.cells #[.int .i64 xt,.int .i64 xr,.bool xd,.slice xa xn xc] 93)) (k:=w.heap.size+1) (ty:=93) (cs:=[.int .i64 yt,.int .i64 yr,.bool yd,.slice ya yn yc]) (by simp) rfl
 have HS0:Blk ((w.alloc (.cells #[.int .i64 xt,.int .i64 xr,.bool xd,.slice xa xn xc] 93)).alloc (.cells #[.int .i64 yt,.int .i64 yr,.bool yd,.slice ya yn yc] 93)).drew w.heap.size 93 [.int .i64 xt,.int .i64 xr,.bool xd,.slice xa xn xc]∧Blk ((w.alloc (.cells #[.int .i64 xt,.int .i64 xr,.bool xd,.slice xa xn xc] 93)).alloc (.cells #[.int .i64 yt,.int .i64 yr,.bool yd,.slice ya yn yc] 93)).drew (w.heap.size+1) 93 [.int .i64 yt,.int .i64 yr,.bool yd,.slice ya yn yc]∧GrowW w ((w.alloc (.cells #[.int .i64 xt,.int .i64 xr,.bool xd,.slice xa xn xc] 93)).alloc (.cells #[.int .i64 yt,.int .i64 yr,.bool yd,.slice ya yn yc] 93)).drew:=⟨b1.drew,b2.drew,(((GrowW.refl w).alloc _).alloc _).drew⟩
 clear b1 b2
 go_enter Tryz.func157,Tryz.ntmps157
 go_wp2_with fail
 refine wp_region_held_drew (S:=fun w'=>Blk w' w.heap.size 93 [.int .i64 xt,.int .i64 xr,.bool xd,.slice xa xn xc]∧Blk w' (w.heap.size+1) 93 [.int .i64 yt,.int .i64 yr,.bool yd,.slice ya yn yc]∧GrowW w w') (by kernel_rfl) HS0 (fun _=>?_)
 refine tw 0 rfl HS0 ?_
 conv=>arg 8;simp [go_sem]
 refine tv 1 rfl (fun w' hS=>by have e:=hS.1.cellOf (i:=0) rfl;go_simp;all_goals with_reducible rfl) HS0 ?_
 conv=>arg 8;simp [go_sem]
 refine tw 2 rfl HS0 ?_
 conv=>arg 8;simp [go_sem]
 refine tv 3 rfl (fun w' hS=>by have e:=hS.2.1.cellOf (i:=0) rfl;go_simp;all_goals with_reducible rfl) HS0 ?_
 conv=>arg 8;simp [go_sem]
 refine tw 5 rfl HS0 ?_
 conv=>arg 8;simp [go_sem]
 refine tv 6 rfl (fun w' hS=>by have e:=hS.1.cellOf (i:=1) rfl;go_simp;all_goals with_reducible rfl) HS0 ?_
 conv=>arg 8;simp [go_sem]
 refine tw 7 rfl HS0 ?_
 conv=>arg 8;simp [go_sem]
 refine tv 8 rfl (fun w' hS=>by have e:=hS.2.1.cellOf (i:=1) rfl;go_simp;all_goals with_reducible rfl) HS0 ?_
 conv=>arg 8;simp [go_sem]
 refine wpAnyH_ready (rs:=[4]) (by kernel_rfl) (by simp) (AllReadyH.cons rfl (fun K' hK'=>oper_call (by rfl) 109 [.tmp 6,.tmp 8] #[3,3] rfl (vs:=[.int .i64 xt,.int .i64 yt]) rfl Tryz.func109 nm_cmpI bd_cmpI (HK.out _) ?_) AllReadyH.nil)
 rintro e w5 ⟨rfl,rfl⟩
 have HT9:=HS0
 refine ⟨_,rfl,hK'.out _ _ HT9 (fun _=>?_)⟩
 clear hK' K'
 conv=>arg 8;simp [go_sem]
 refine wpAnyH_ready (rs:=[9]) (by kernel_rfl) (by simp) (AllReadyH.cons rfl (fun K' hK'=>oper_call (by rfl) 109 [.tmp 11,.tmp 13] #[3,3] rfl (vs:=[.int .i64 xr,.int .i64 yr]) rfl Tryz.func109 nm_cmpI bd_cmpI (HI.out _) ?_) AllReadyH.nil)
 rintro e w6 ⟨rfl,rfl⟩
 have HT10:=HT9
 refine ⟨_,rfl,hK'.out _ _ HT10 (fun _=>?_)⟩
 clear hK' K'
 conv=>arg 8;simp [go_sem]
 refine wpAnyH_ready (rs:=[10]) (by kernel_rfl) (by simp) (AllReadyH.cons rfl (fun K' hK'=>oper_lit2 (by rfl) 44 (.tmp 9) (.tmp 14) rfl sl_int (v:=.int .i64 p) (u:=.int .i64 q) rfl rfl ?_) AllReadyH.nil)
 have HT11:=And.intro (HT10.1.alloc (.cells #[.int .i64 p,.int .i64 q] 3)) (And.intro (HT10.2.1.alloc (.cells #[.int .i64 p,.int .i64 q] 3)) (HT10.2.2.alloc (.cells #[.int .i64 p,.int .i64 q] 3)))
 refine hK'.out _ _ HT11 (fun _=>?_)
 clear hK' K'
 conv=>arg 8;simp [go_sem]
 refine wpAnyH_ready (rs:=[11]) (by kernel_rfl) (by simp) (AllReadyH.cons rfl (fun K' hK'=>oper_call (by rfl) 108 [.tmp 15] #[44] rfl (vs:=[.slice (some ⟨_,0,none⟩) 2 2]) rfl Tryz.func108 nm_or bd_or (HO.out _ _ (Blk.new (by simp) rfl)) ?_) AllReadyH.nil)
 rintro e w8 ⟨rfl,rfl⟩
 have HT12:=HT11
 refine ⟨_,rfl,hK'.out _ _ HT12 (fun _=>?_)⟩
 clear hK' K'
 conv=>arg 8;simp [go_sem]
 refine tw 12 rfl HT12 ?_
 conv=>arg 8;simp [go_sem]
 refine ⟨by kernel_rfl,?_⟩
 conv =>
  arg 5
  simp [go_sem]
 have HSE:=HT12
 go_wp2_with fail
 go_ret
 exact ⟨rfl,HSE.2.2⟩
theorem cmpE_ver (args:Array Value) (w:World):(callFunc 157 args).run Tryz.prog w=.ok (.enter 157 args) w:=enters_fn Tryz.func157 (by kernel_rfl) (by kernel_rfl) args w
theorem srtF_ver {xs:List VerP} {a:Option Addr} {n c B:Nat} {w:World} (hB:B≤w.heap.size) (h:w.ownsRow B 93 4 (.slice a n c) n (recC VerP.enc xs)) (hn:n≤1000000) :
  Calls Tryz.prog 183 #[.slice a n c,.func (.func 157) #[] #[]] w (RetSrt (VerP.row) (VerP.stamp) VerP.enc 93 4 B n a c xs w):=by
 rcases Nat.eq_zero_or_pos n with h0 | hp
 ·subst h0
  have hx:xs=[]:=by
   have:=h.1
   rw [recC_length VerP.enc_len] at this
   exact List.length_eq_zero_iff.1 (by omega)
  have hc:=AnyF.slices_SortFunc_none (P:=Tryz.prog) (ρ:=Tryz.sortVer_ren) { Tryz.sortVer with } a c (.func (.func 157) #[] #[]) w
  change Calls Tryz.prog 183 _ _ _ at hc
  refine hc.mono ?_
  rintro e w' ⟨rfl,rfl⟩
  exact ⟨(Below.refl _ _),rfl,xs,List.Perm.refl _,by rw [hx];exact List.Pairwise.nil,h⟩
 ·obtain ⟨g,rfl,hg⟩:=own_some h hp
  obtain ⟨hH,hl,hlt⟩:=own_holdsK VerP.enc_len (by omega) h
  refine retSrt_of VerP.enc_len (by omega) hB h hg hl ?_
  have hc:=AnyQ.slices_SortFunc Tryz.sortVer 4 Tryz.isAgg93 Tryz.sizeOf93 VerP.enc VerP.enc_len (fun x v hv=>VerP.enc_one x v hv) (fun x y:VerP=>cmp2 x.row x.stamp y.row y.stamp) (swo2 (VerP.row) (VerP.stamp)) 157 #[] g 0 c xs.toArray w cmpE_ver
   (fun m os dk hdk x y=>cmp_ver x y _) hH hlt (by simp;omega)
  change Calls Tryz.prog 183 _ _ _ at hc
  rw [List.size_toArray,hl] at hc
  rw [List.size_toArray,hl]
  exact hc
set_option maxRecDepth 20000 in
set_option maxHeartbeats 2000000 in
theorem srtd_ver {gf:Nat} {lb:Array Value} (eg:∀args w,(callFunc gf args).run Tryz.prog w=.ok (.enter gf args) w) {S:List VerP→Prop} {N:Nat} {w:World} (hseq:IterK gf lb (fun x:VerP=>#[VerP.v x]) S N w) (hN:N≤1000000) (hS:∀xs,S xs→xs.length≤1000000) :
  Calls Tryz.prog 158 #[.func (.func gf) #[] lb,.func (.func 157) #[] #[]] w (RetCol (fun ys=>ys.Pairwise (Le2 (VerP.row) (VerP.stamp))∧∃xs,S xs∧ys.Perm xs) VerP.enc 93 4 w):=by
 have HC:=Box.mk (coll_ver eg hseq hN)
 have HSL:=Box.mk hS
 clear hseq eg hS
 go_enter Tryz.func158,Tryz.ntmps158
 go_wp2_with fail
 refine HC.out.mono ?_
 rintro e w1 ⟨hb,xs,a,c,hxs,rfl,hrow⟩
 have hl:=HSL.out xs hxs
 have HX:=Box.mk (And.intro hb hxs)
 have HSR:=Box.mk (srtF_ver hb.size hrow hl)
 clear hb hxs hrow
 go_wp2_with fail
 refine HSR.out.mono ?_
 rintro e w2 ⟨hb2,rfl,ys,hp,hs,hrow⟩
 have HY:=Box.mk (And.intro hb2 (And.intro hp (And.intro hs hrow)))
 have HLEN:=Box.mk hp.length_eq
 clear hb2 hp hs hrow
 go_wp2_with fail
 go_ret
 refine ⟨HX.out.1.trans HY.out.1,ys,a,c,⟨HY.out.2.2.1,xs,HX.out.2,HY.out.2.1⟩,by rw [HLEN.out];rfl,by rw [HLEN.out];exact HY.out.2.2.2⟩
end
section
open Go.RowKit Go.Maps
def ekR (q:Int×Int):Value:=.agg #[.int .i64 q.1,.int .i64 q.2]
theorem ekR_inj:∀a a',ekR a=ekR a'→a=a':=fun a a' h=>by
 unfold ekR at h
 simp only [Value.agg.injEq,Array.mk.injEq,List.cons.injEq,Value.int.injEq,true_and,and_true] at h
 exact Prod.ext h.1 h.2
set_option maxRecDepth 20000 in
theorem keyR {q:Int×Int} (ha:In64 q.1) (hb:In64 q.2):∃kl,keyOf Tryz.prog 104 (ekR q)=some kl:=by
 have h1:=wf64 ha
 have h2:=wf64 hb
 have hk:Tryz.prog.keyType 104=true:=by kernel_rfl
 have hf:(ekR q).formed Tryz.prog 104=true:=by kernel_rfl
 have hc:Tryz.prog.cellsOf 104=2:=by kernel_rfl
 have hc3:Tryz.prog.cellsOf 3=1:=by kernel_rfl
 obtain ⟨n,hn⟩:∃n,Tryz.prog.types.size=n+1:=⟨_,by rfl⟩
 unfold keyOf
 rw [Tryz.underlying104]
 simp only [hk,hf,Bool.and_true,if_true,hn]
 simp [ekR,Program.keyLits,Tryz.underlying104,Tryz.underlying3,hc,hc3,h1,h2,Value.cells]
theorem lo50:laidOutB Tryz.prog=true:=by kernel_rfl
theorem K_row:Keyed Tryz.prog 104:=Keyed.of_law (deep_law_laid lo50 (m:=2) (by omega) (of_decide_eq_true (by kernel_rfl)) (by kernel_rfl) (by rw [Tryz.underlying104]))
set_option maxRecDepth 20000 in
theorem keyS {q:Int×Int} (ha:In64 q.1) (hb:In64 q.2):∃kl,keyOf Tryz.prog 162 (ekR q)=some kl:=by
 have h1:=wf64 ha
 have h2:=wf64 hb
 have hk:Tryz.prog.keyType 162=true:=by kernel_rfl
 have hf:(ekR q).formed Tryz.prog 162=true:=by kernel_rfl
 have hc:Tryz.prog.cellsOf 162=2:=by kernel_rfl
 have hc3:Tryz.prog.cellsOf 3=1:=by kernel_rfl
 obtain ⟨n,hn⟩:∃n,Tryz.prog.types.size=n+1:=⟨_,by rfl⟩
 unfold keyOf
 rw [Tryz.underlying162]
 simp only [hk,hf,Bool.and_true,if_true,hn]
 simp [ekR,Program.keyLits,Tryz.underlying162,Tryz.underlying3,hc,hc3,h1,h2,Value.cells,List.range,List.range.loop]
theorem K_spot:Keyed Tryz.prog 162:=Keyed.of_law (deep_law_laid lo50 (m:=2) (by omega) (of_decide_eq_true (by kernel_rfl)) (by kernel_rfl) (by rw [Tryz.underlying162]))
theorem und_row:Tryz.prog.underlying 205=some (.map 104 90):=by kernel_rfl
theorem und_spot:Tryz.prog.underlying 161=some (.map 162 136):=by kernel_rfl
theorem und_rset:Tryz.prog.underlying 97=some (.map 104 4):=by kernel_rfl
theorem und_tset:Tryz.prog.underlying 98=some (.map 3 4):=by kernel_rfl
theorem und_act:Tryz.prog.underlying 65=some (.map 3 95):=by kernel_rfl
end
section
def spots:List (Int×Int):=[(0,1),(0,2),(0,3),(0,4),(1,1),(1,2),(1,3),(1,4)]
theorem spots_lt:spots.Pairwise (fun a b=>a.1<b.1∨a.1=b.1∧a.2<b.2):=by decide
theorem spots_iff {s:Int×Int}:s∈spots↔0≤s.1∧s.1≤1∧1≤s.2∧s.2≤4:=by
 obtain ⟨a,b⟩:=s
 unfold spots
 simp only [List.mem_cons,Prod.mk.injEq,List.not_mem_nil,or_false]
 omega
section
variable {β:Type} (key:β→Int×Int)
theorem fm_mem {l:List ((Int×Int)×β)} (hn:(keysA l).Nodup) (hs:∀s∈keysA l,s∈spots) {x:β}:x∈spots.filterMap (getA l)↔x∈l.map (·.2):=by
 rw [List.mem_filterMap,List.mem_map]
 constructor
 ·rintro ⟨s,_,h⟩
  exact ⟨(s,x),getA_mem h,rfl⟩
 ·rintro ⟨p,hp,rfl⟩
  exact ⟨p.1,hs _ (mem_keysA_of hp),getA_of_mem hn (show (p.1,p.2)∈l from hp)⟩
theorem fm_lt {f:Int×Int→Option β} (hk:∀s x,f s=some x→key x=s):∀ {L:List (Int×Int)},L.Pairwise (fun a b=>a.1<b.1∨a.1=b.1∧a.2<b.2)→(L.filterMap f).Pairwise (fun a b=>(key a).1<(key b).1∨(key a).1=(key b).1∧(key a).2<(key b).2)
 | [],_=>List.Pairwise.nil
 | s::L,h=>by
  obtain ⟨h1,h2⟩:=List.pairwise_cons.1 h
  have ih:=fm_lt hk h2
  rw [List.filterMap_cons]
  cases hf:f s with
  | none=>exact ih
  | some x =>
   refine List.pairwise_cons.2 ⟨fun y hy=>?_,ih⟩
   obtain ⟨t,ht,hy2⟩:=List.mem_filterMap.1 hy
   rw [hk s x hf,hk t y hy2]
   exact h1 t ht
theorem lt_le2 {ys:List β} (h:ys.Pairwise (fun a b=>(key a).1<(key b).1∨(key a).1=(key b).1∧(key a).2<(key b).2)):ys.Pairwise (Le2 (fun x=>(key x).1) (fun x=>(key x).2)) :=
 h.imp fun {a b} h=>by unfold Le2;dsimp only;omega
theorem lt_nodup {ys:List β} (h:ys.Pairwise (fun a b=>(key a).1<(key b).1∨(key a).1=(key b).1∧(key a).2<(key b).2)):ys.Nodup :=
 h.imp fun {a b} h e=>by subst e;omega
theorem canon {l:List ((Int×Int)×β)} (hn:(keysA l).Nodup) (hs:∀s∈keysA l,s∈spots) (hk:∀p∈l,key p.2=p.1) {ys xs:List β} (hp:ys.Perm xs) (hx:xs.Perm (l.map (·.2))) (ho:ys.Pairwise (Le2 (fun x=>(key x).1) (fun x=>(key x).2))) :
  ys=spots.filterMap (getA l):=by
 classical
 have hlt:=fm_lt key (f:=getA l) (fun s x h=>hk _ (getA_mem h)) spots_lt
 have hnd:(l.map (·.2)).Nodup:=by
  refine nodup_of_map (f:=key) ?_
  rw [List.map_map,show l.map (key ∘ fun x=>x.2)=keysA l from List.map_congr_left fun p hp=>hk p hp]
  exact hn
 have hpm:ys.Perm (spots.filterMap (getA l)):=(hp.trans hx).trans (perm_of_mem hnd (lt_nodup key hlt) (fun x hx=>(fm_mem hn hs).2 hx) (fun x hx=>(fm_mem hn hs).1 hx))
 refine perm_sorted_eq hpm ho (lt_le2 key hlt) (fun a ha b hb h1 h2=>?_)
 unfold Le2 at h1 h2
 dsimp only at h1 h2
 have e:key a=key b:=Prod.ext (by omega) (by omega)
 have ma:=(hp.trans hx).mem_iff.1 ha
 have mb:=(hp.trans hx).mem_iff.1 hb
 obtain ⟨p,hp1,rfl⟩:=List.mem_map.1 ma
 obtain ⟨q,hq1,rfl⟩:=List.mem_map.1 mb
 have g1:=getA_of_mem hn (show (p.1,p.2)∈l from hp1)
 have g2:=getA_of_mem hn (show (q.1,q.2)∈l from hq1)
 rw [← hk p hp1,e,hk q hq1,g2] at g1
 exact (Option.some.inj g1).symm
end
def WrP.key (x:WrP):Int×Int:=(x.table,x.row)
def HdP.key (x:HdP):Int×Int:=(x.table,x.row)
def lastW (log:List WrP) (s:Int×Int):Option WrP:=log.reverse.find? fun w=>decide (w.key=s)
theorem lastW_snoc (log:List WrP) (w:WrP) (s:Int×Int):lastW (log++[w]) s=if w.key=s then some w else lastW log s:=by
 unfold lastW
 rw [List.reverse_append]
 simp only [List.reverse_cons,List.reverse_nil,List.nil_append,List.singleton_append,List.find?_cons]
 by_cases h:w.key=s
 ·simp [h]
 ·simp [h]
theorem lastW_key {log:List WrP} {s:Int×Int} {w:WrP} (h:lastW log s=some w):w.key=s∧w∈log:=by
 unfold lastW at h
 exact ⟨by simpa using List.find?_some h,by simpa using List.mem_of_find?_eq_some h⟩
def wsOf (log:List WrP):List WrP:=spots.filterMap (lastW log)
theorem wsOf_mem {log:List WrP} {w:WrP} (h:w∈wsOf log):w∈log:=by
 obtain ⟨s,_,h⟩:=List.mem_filterMap.1 h
 exact (lastW_key h).2
theorem wsOf_lt (log:List WrP):(wsOf log).Pairwise (fun a b=>a.key.1<b.key.1∨a.key.1=b.key.1∧a.key.2<b.key.2):=fm_lt WrP.key (fun _ _ h=>(lastW_key h).1) spots_lt
theorem wsOf_len (log:List WrP):(wsOf log).length≤8:=by
 have:=List.length_filterMap_le (lastW log) spots
 exact this
end
end Go.Proofs.YtlfghapllmaigaaGreatDoor
