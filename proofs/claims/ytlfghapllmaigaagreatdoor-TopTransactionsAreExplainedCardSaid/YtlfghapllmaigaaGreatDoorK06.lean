/-
  The walk of conflict.graphOf at a history that is right. Conditions: each theorem's own hypotheses.
-/
import Derived.Test.YtlfghapllmaigaaGreatDoorK05
namespace Go.Proofs.YtlfghapllmaigaaGreatDoor
section
open Go.RowKit Go.Maps
theorem or01:bits BinOp.or IntKind.i64 0 1=1:=by decide
theorem or02:bits BinOp.or IntKind.i64 0 2=2:=by decide
theorem or12:bits BinOp.or IntKind.i64 1 2=3:=by decide
def RetGr (a:Option Addr) (n c:Nat) (hs:List AccP) (w:World) (e:Ending) (w':World):Prop:=Below w.heap.size w w'∧∃g,w.heap.size≤g∧e=.returned (.pointer (some ⟨g,0,none⟩))∧GrRd w' g a n c hs
set_option maxRecDepth 20000 in
set_option maxHeartbeats 8000000 in
theorem graphOf_any {hs:List AccP} {a:Option Addr} {n c:Nat} {w:World} (hr:HistRd w a n c hs) (ok:HOk hs):Calls Tryz.prog 50 #[.slice a n c] w (RetGr a n c hs w):=by
 have hln:=hr.rd.rlen AccP.cs_len (by omega)
 have hlen:=ok.len
 have HC:=Box.mk (check_any hr ok)
 have HR:=Box.mk hr
 have OK:=Box.mk ok
 clear hr ok
 go_enter Tryz.func50,Tryz.ntmps50
 go_wp2_with fail
 refine HC.out.mono ?_
 rintro e w1 ⟨rfl,hb1⟩
 have hn:n≤100:=by omega
 go_wp2_with ((with_reducible show wpList _ _ _ _ _ _);refine wpList_make rfl 213 (.tmp 15) (.tmp 15) rfl sl_ints rfl rfl rfl (by omega) (by omega) ?_)
 have H0:=Box.mk (show GrUp w ((w1.alloc (.cells (List.replicate n (.slice none 0 0)).toArray 44)).alloc (.cells #[.slice a n c,.slice (some ⟨w1.heap.size,0,none⟩) n n] 215)) (w1.heap.size+1) w1.heap.size [] a n c hs 0 from
  ⟨Blk.new (by simp) rfl,(Blk.new rfl rfl).alloc _,rfl,fun j hj=>by omega,⟨by have:=hb1.size;omega,hb1.size,by simp⟩,(hb1.new (Nat.le_refl _) _).new (Nat.le_refl _) _⟩)
 clear hb1
 generalize w1.heap.size+1=g at *
 generalize w1.heap.size=ge at *
 go_loopg [4,5,6,7,8,9,21] n (fun gg _ _ _ _ _ _ s21 wq=>∃i:Nat,i≤n∧n - i≤gg∧s21=.int .i64 i∧Box (∃rs,GrUp w wq g ge rs a n c hs i))
 case atStart=>exact ⟨0,Nat.zero_le _,by omega,rfl,⟨[],H0.out⟩⟩
 case round =>
  obtain ⟨i,hi,hg,rfl,HG⟩:=hrel
  obtain ⟨rs,HG2⟩:=HG.out
  have HG:=Box.mk HG2
  clear HG2
  by_cases hlt:i<n
  ·obtain ⟨b,off,x,rfl,hx,hxm,hxr,c0,c1,c2,c3,c4,c5⟩:=(HR.out.below HG.out.below).at i hlt
   have H1:=Box.mk (x.fresh HG.out.below)
   obtain ⟨x0,x1,x2,x3,x4,x5⟩:=AccP.cells H1.out.1
   have HX:=Box.mk (And.intro hx (And.intro hxm hxr))
   clear hx hxm hxr
   go_upto_region 7 with fail
   have HG2:=Box.mk (HG.out.step H1.out.2.2)
   have K2:=Box.mk H1.out.1
   clear HG H1 x0 x1 x2 x3 x4 x5 c0 c1 c2 c3 c4 c5
   generalize (wr.alloc (.cells #[.int .i64 x.mode,.int .i64 x.snap,.bool x.done,.int .i64 x.stamp,.slice x.ra x.reads.length x.rc,.slice x.wa x.writes.length x.wc] 102))=w2 at *
   have HS0:But [ge] w2 w2.drew:=(But.refl _ _).drew
   refine wp_region_held_drew (S:=fun w'=>But [ge] w2 w') (by kernel_rfl) HS0 (fun _=>?_)
   refine tw 0 rfl HS0 ?_
   conv=>arg 8;simp [go_sem]
   refine tw 1 rfl HS0 ?_
   conv=>arg 8;simp [go_sem]
   refine tw 2 rfl HS0 ?_
   conv=>arg 8;simp [go_sem]
   refine tv 3 rfl (fun w' hS=>by (have q:=(HG2.out.gb.eq (hS.block _ HG2.out.gb.lt (by simpa using HG2.out.gb.tne HG2.out.eb (by decide)))).cellOf (i:=1) rfl);go_simp;all_goals with_reducible rfl) HS0 ?_
   conv=>arg 8;simp [go_sem]
   refine tw 4 rfl HS0 ?_
   conv=>arg 8;simp [go_sem]
   refine tw 5 rfl HS0 ?_
   conv=>arg 8;simp [go_sem]
   refine tw 6 rfl HS0 ?_
   conv=>arg 8;simp [go_sem]
   refine wpAnyH_ready (rs:=[7]) (by kernel_rfl) (by simp) (AllReadyH.cons rfl (fun K' hK'=>oper_make (by rfl) 44 (.tmp 32) (.tmp 32) rfl sl_int rfl rfl rfl (by omega) (by omega) ?_) AllReadyH.nil)
   have HT1:=HS0.alloc (.cells (List.replicate n (.int .i64 0)).toArray 3)
   refine hK'.out _ _ HT1 (fun _=>?_)
   clear hK' K'
   conv=>arg 8;simp [go_sem]
   refine tv 8 rfl (fun w' hS=>by (have q0:(0:Int)≤(i:Int):=by omega);(have q1:(i:Int)<(n:Int):=by omega);go_simp;all_goals with_reducible rfl) HT1 ?_
   conv=>arg 8;simp [go_sem]
   refine wpAnyH_ready (rs:=[9]) (by kernel_rfl) (by simp) (AllReadyH.cons rfl (fun K' hK'=>oper_store_part (by rfl) 44 (.tmp 34) (.tmp 33) rfl rfl (size:=1) (off:=i) (by kernel_rfl) (HG2.out.step ((Below.refl w2.heap.size w2).drew.new (Nat.le_refl _) _)).eb (by simp [HG2.out.len];omega) rfl (cs:=[.slice (some ⟨w2.drew.heap.size,0,none⟩) n n]) rfl rfl (by simp [Value.oneCell']) ?_) AllReadyH.nil)
   have HT2:=HT1.setRow (g:=ge) (.inl (by simp)) (splice (rs.map (rowV n)++List.replicate (n - i) (.slice none 0 0)) i [.slice (some ⟨w2.drew.heap.size,0,none⟩) n n]).toArray
   refine hK'.out _ _ HT2 (fun _=>?_)
   clear hK' K'
   conv=>arg 8;simp [go_sem]
   refine ⟨by kernel_rfl,?_⟩
   conv =>
    arg 5
    simp [go_sem]
   have G3:=Box.mk (show GrIn w ((w2.alloc (.cells (Array.replicate n (.int .i64 0)) 3)).drew.setRow ge (splice (rs.map (rowV n)++List.replicate (n - i) (.slice none 0 0)) i [.slice (some ⟨w2.heap.size,0,none⟩) n n]).toArray) g ge rs w2.heap.size (some ⟨b,off,none⟩) n c hs i (rowUp hs n i 0) from by
    have h:=(HG2.out.step (Below.refl w2.heap.size w2).drew).row hlt
    rw [List.toArray_replicate] at h
    exact h)
   have HT3:But [ge] w2 ((w2.alloc (.cells (Array.replicate n (.int .i64 0)) 3)).drew.setRow ge (splice (rs.map (rowV n)++List.replicate (n - i) (.slice none 0 0)) i [.slice (some ⟨w2.heap.size,0,none⟩) n n]).toArray):=(((But.refl [ge] w2).alloc _).drew).setRow (g:=ge) (.inl (by simp)) _
   generalize ((w2.alloc (.cells (Array.replicate n (.int .i64 0)) 3)).drew.setRow ge (splice (rs.map (rowV n)++List.replicate (n - i) (.slice none 0 0)) i [.slice (some ⟨w2.heap.size,0,none⟩) n n]).toArray)=w3 at *
   generalize w2.heap.size=ri at *
   have K3:=Box.mk (K2.out.eq (HT3.block _ K2.out.lt (by simpa using K2.out.tne HG2.out.eb (by decide))))
   have hwr:=K2.out.lt
   generalize wr.heap.size=gx at *
   have HX:=Box.mk (And.intro HX.out.1 HX.out.2.1)
   clear HT3 K2 HG2 HG hwr
   clear HS0 HT1 HT2
   have K4:Box (Blk w3.drew gx 102 x.cs):=K3
   have HA:Box (AccRd w3.drew x):=Box.mk ((HR.out.each _ HX.out.2).below G3.out.below.drew (Nat.le_refl _))
   have HF:=Box.mk (And.intro (formB_ok.1 (OK.out.form _ HX.out.2)) (OK.out.i64 _ HX.out.2))
   go_upto_region 8 with fail
   refine wp_region_any (by kernel_rfl) ?_
   (change wpAny _ _ _ _ _ _ _ (World.drew _))
   refine wpAny_take (i:=0) (v:=?_) rfl (by kernel_rfl) (by kernel_rfl) (by kernel_rfl) (fun _ _ _ h=>h) (Or.inl ⟨by rfl,?_⟩) ?_
   rotate_left
   ·intro w
    go_simp
    all_goals with_reducible rfl
   conv =>
    arg 7
    simp [go_sem]
   refine wpAny_take (i:=3) (v:=?_) rfl (by kernel_rfl) (by kernel_rfl) (by kernel_rfl) (fun _ _ _ h=>h) (Or.inl ⟨by rfl,?_⟩) ?_
   rotate_left
   ·intro w
    go_simp
    all_goals with_reducible rfl
   conv =>
    arg 7
    simp [go_sem]
   refine wpAny_ext2 [1,2,4,5] (fun op v wx=>match op with
    | 1=>v=.slice x.ra x.reads.length x.rc
    | 2=>∃b,v=.map (some b)∧SetM Tryz.prog 3 4 wx b x.reads
    | 4=>v=.slice x.wa x.writes.length x.wc
    | _=>∃b,v=.map (some b)∧SetM Tryz.prog 3 4 wx b x.writes) (by kernel_rfl) (by rfl) ?_ ?_ (fuel:=2) rfl ?_
   ·intro i hi
    simp only [List.mem_cons,List.not_mem_nil,or_false] at hi
    rcases hi with rfl | rfl | rfl | rfl
    ·refine StepOK.mk _ rfl fun a' wx hb hfr hdp K hK'=>?_
     have e1:a'.tmps.getD 35 undef=.pointer (some ⟨gx,4,none⟩):=hfr 35 (by decide)
     exact oper_load1 rfl 44 (.tmp 35) rfl (by kernel_rfl) e1 ((K4.out.below hb (Nat.le_refl _)).cellOf (i:=4) rfl) (hK'.out _ _ rfl (Below.refl _ _))
    ·refine StepOK.mk _ rfl fun a' wx hb hfr hdp K hK'=>?_
     have e1:=hdp 1 (by decide) (by kernel_rfl) 36 rfl
     refine oper_call rfl 46 [.tmp 36] #[44] rfl (vs:=[.slice x.ra x.reads.length x.rc]) (by show [a'.tmps.getD 36 undef]=_;rw [e1]) Tryz.func46 (by kernel_rfl) (by kernel_rfl) (of_any (HA.out.rd.below hb (Nat.le_refl _)) (asc_nodup HF.out.1.ar) HF.out.2.1) ?_
     rintro e wy ⟨hby,b1,hb1,rfl,hset⟩
     exact ⟨_,rfl,hK'.out _ _ ⟨b1,rfl,hset⟩ hby⟩
    ·refine StepOK.mk _ rfl fun a' wx hb hfr hdp K hK'=>?_
     have e1:a'.tmps.getD 38 undef=.pointer (some ⟨gx,5,none⟩):=hfr 38 (by decide)
     exact oper_load1 rfl 44 (.tmp 38) rfl (by kernel_rfl) e1 ((K4.out.below hb (Nat.le_refl _)).cellOf (i:=5) rfl) (hK'.out _ _ rfl (Below.refl _ _))
    ·refine StepOK.mk _ rfl fun a' wx hb hfr hdp K hK'=>?_
     have e1:=hdp 4 (by decide) (by kernel_rfl) 39 rfl
     refine oper_call rfl 46 [.tmp 39] #[44] rfl (vs:=[.slice x.wa x.writes.length x.wc]) (by show [a'.tmps.getD 39 undef]=_;rw [e1]) Tryz.func46 (by kernel_rfl) (by kernel_rfl) (of_any (HA.out.wr.below hb (Nat.le_refl _)) (asc_nodup HF.out.1.aw) HF.out.2.2) ?_
     rintro e wy ⟨hby,b1,hb1,rfl,hset⟩
     exact ⟨_,rfl,hK'.out _ _ ⟨b1,rfl,hset⟩ hby⟩
   ·intro i hi v wx wy hv hb
    simp only [List.mem_cons,List.not_mem_nil,or_false] at hi
    rcases hi with rfl | rfl | rfl | rfl
    ·exact hv
    ·obtain ⟨b1,h1,h2⟩:=hv
     exact ⟨b1,h1,h2.eq (hb.block _ h2.lt)⟩
    ·exact hv
    ·obtain ⟨b1,h1,h2⟩:=hv
     exact ⟨b1,h1,h2.eq (hb.block _ h2.lt)⟩
   ·intro vs w4 hv hb4
    obtain ⟨b1,e1,hset1⟩:=hv 2 (by decide)
    obtain ⟨b2,e2,hset2⟩:=hv 5 (by decide)
    conv =>
     arg 7
     simp [go_sem,e1,e2,dstOf]
    generalize vs 1=v1 at *
    generalize vs 4=v4 at *
    clear hv e1 e2
    refine wpAny_take (i:=6) (v:=?_) rfl (by kernel_rfl) (by kernel_rfl) (by kernel_rfl) (fun _ _ _ h=>h) (Or.inl ⟨by rfl,?_⟩) ?_
    rotate_left
    ·intro w
     go_simp
     all_goals with_reducible rfl
    conv =>
     arg 7
     simp [go_sem]
    refine wpAny_take (i:=7) (v:=?_) rfl (by kernel_rfl) (by kernel_rfl) (by kernel_rfl) (fun _ _ _ h=>h) (Or.inl ⟨by rfl,?_⟩) ?_
    rotate_left
    ·intro w
     go_simp
     all_goals with_reducible rfl
    conv =>
     arg 7
     simp [go_sem]
    refine wpAny_done (by kernel_rfl) ?_ _
    conv =>
     arg 5
     simp [go_sem]
    have hb3:Below w3.heap.size w3 w4:=(Below.refl w3.heap.size w3).drew.trans hb4
    have G4:=Box.mk (G3.out.step hb3)
    have K5:=Box.mk (K3.out.below hb3 (Nat.le_refl _))
    have HS:=Box.mk (And.intro hset1 hset2)
    clear hset1 hset2 hb3 hb4 K3 K4 G3 HA
    have I5:=Box.mk (show InY w w4 g ge rs ri (some ⟨b,off,none⟩) n c hs i (rowUp hs n i 0) gx b1 b2 x from ⟨G4.out,K5.out,HS.out.1,HS.out.2⟩)
    clear G4 K5 HS
    go_wp2_with fail
    go_loopg [8,9,43] n (fun gg _ _ s43 wq=>∃j:Nat,j≤n∧n - j≤gg∧s43=.int .i64 j∧Box (InY w wq g ge rs ri (some ⟨b,off,none⟩) n c hs i (rowUp hs n i j) gx b1 b2 x))
    case atStart=>exact ⟨0,Nat.zero_le _,by omega,rfl,⟨I5.out⟩⟩
    case round =>
     obtain ⟨j,hj,hg2,rfl,HI⟩:=hrel
     by_cases hlt2:j<n
     ·obtain ⟨b',off',y,hab,hy,hym,hyr,c0,c1,c2,c3,c4,c5⟩:=(HR.out.below HI.out.G.below).at j hlt2
      simp only [Option.some.injEq,Addr.mk.injEq,and_true] at hab
      obtain ⟨rfl,rfl⟩:=hab
      have H1:=Box.mk (y.fresh HI.out.G.below)
      have L1:=Box.mk (And.intro (HI.out.step H1.out.2.2) H1.out.1)
      obtain ⟨x0,x1,x2,x3,x4,x5⟩:=AccP.cells L1.out.1.kx
      obtain ⟨y0,y1,y2,y3,y4,y5⟩:=AccP.cells L1.out.2
      have HY:=Box.mk (And.intro hy hym)
      clear hy hym hyr
      go_upto_region 12 with fail
      clear c0 c1 c2 c3 c4 c5 H1 HI
      generalize (wr.alloc (.cells #[.int .i64 y.mode,.int .i64 y.snap,.bool y.done,.int .i64 y.stamp,.slice y.ra y.reads.length y.rc,.slice y.wa y.writes.length y.wc] 102))=w5 at *
      generalize wr.heap.size=gy at *
      by_cases hij:i=j
      ·have E0:=Box.mk (rowUp_skip (n:=n) (edgeI_no (hs:=hs) (.inl hij)))
       have t1:((i:Int)==(j:Int))=true:=by simp [hij]
       clear hij
       go_wp2_with fail
       go_roundg (n - (j+1))
       case measure=>omega
       case rel=>exact ⟨j+1,by omega,by omega,by go_num,⟨by have h:=L1.out.1;rw [E0.out] at h;exact h⟩⟩
      ·have t1:((i:Int)==(j:Int))=false:=by simp;omega
       obtain ⟨dx,hdx⟩:∃d,x.done=d:=⟨_,rfl⟩
       obtain ⟨dy,hdy⟩:∃d,y.done=d:=⟨_,rfl⟩
       rw [hdx] at x2
       rw [hdy] at y2
       cases dx with
       | false =>
        have E0:=Box.mk (rowUp_skip (n:=n) (edgeI_no (hs:=hs) (i:=i) (j:=j) (.inr (.inl (by rw [HX.out.1];exact hdx)))))
        go_wp2_with fail
        go_roundg (n - (j+1))
        case measure=>omega
        case rel=>exact ⟨j+1,by omega,by omega,by go_num,⟨by have h:=L1.out.1;rw [E0.out] at h;exact h⟩⟩
       | true =>
        cases dy with
        | false =>
         have E0:=Box.mk (rowUp_skip (n:=n) (edgeI_no (hs:=hs) (i:=i) (j:=j) (.inr (.inr (by rw [HY.out.1];exact hdy)))))
         go_wp2_with fail
         go_roundg (n - (j+1))
         case measure=>omega
         case rel=>exact ⟨j+1,by omega,by omega,by go_num,⟨by have h:=L1.out.1;rw [E0.out] at h;exact h⟩⟩
        | true =>
         have HD:=Box.mk (And.intro hdx hdy)
         clear hdx hdy
         go_upto_region 13 with fail
         go_cut [84] from 61 to 120 (fun s84 wx=>s84=.bool (plainP x y)∧Box (InY w wx g ge rs ri (some ⟨b,off,none⟩) n c hs i (rowUp hs n i j) gx b1 b2 x∧Blk wx gy 102 y.cs))
         case first =>
          by_cases h1:x.stamp<y.stamp
          ·have d1:decide (x.stamp<y.stamp)=true:=decide_eq_true h1
           obtain ⟨m1,hm1⟩:∃m,meetI x.writes y.writes=m:=⟨_,rfl⟩
           have hmt:=meets_any L1.out.1.s2 (a:=y.wa) (n:=y.writes.length) (c:=y.wc) ((HR.out.each _ HY.out.2).below L1.out.1.G.below (Nat.le_refl _)).wr (OK.out.i64 _ HY.out.2).2
           rw [hm1] at hmt
           go_wp2_with fail
           refine hmt.mono ?_
           rintro e w6 ⟨rfl,hb⟩
           have L2:=Box.mk (And.intro (L1.out.1.step hb) (L1.out.2.below hb (Nat.le_refl _)))
           clear hb hmt x0 x1 x2 x3 x4 x5 y0 y1 y2 y3 y4 y5
           obtain ⟨x0,x1,x2,x3,x4,x5⟩:=AccP.cells L2.out.1.kx
           obtain ⟨y0,y1,y2,y3,y4,y5⟩:=AccP.cells L2.out.2
           cases m1 with
           | false =>
            by_cases h2:x.stamp≤y.snap
            ·have d2:decide (x.stamp≤y.snap)=true:=decide_eq_true h2
             obtain ⟨m2,hm2⟩:∃m,meetI x.writes y.reads=m:=⟨_,rfl⟩
             have hmt:=meets_any L2.out.1.s2 (a:=y.ra) (n:=y.reads.length) (c:=y.rc) ((HR.out.each _ HY.out.2).below L2.out.1.G.below (Nat.le_refl _)).rd (OK.out.i64 _ HY.out.2).1
             rw [hm2] at hmt
             go_wp2_with fail
             refine hmt.mono ?_
             rintro e w7 ⟨rfl,hb⟩
             have L3:=Box.mk (And.intro (L2.out.1.step hb) (L2.out.2.below hb (Nat.le_refl _)))
             clear hb hmt x0 x1 x2 x3 x4 x5 y0 y1 y2 y3 y4 y5
             obtain ⟨x0,x1,x2,x3,x4,x5⟩:=AccP.cells L3.out.1.kx
             obtain ⟨y0,y1,y2,y3,y4,y5⟩:=AccP.cells L3.out.2
             cases m2 with
             | false =>
              go_wp2_with fail
              go_meet
              case rel=>exact ⟨by unfold plainP;rw [d1,hm1,d2,hm2];try rfl,⟨L3.out.1,L3.out.2⟩⟩
             | true =>
              go_wp2_with fail
              go_meet
              case rel=>exact ⟨by unfold plainP;rw [d1,hm1,d2,hm2];try rfl,⟨L3.out.1,L3.out.2⟩⟩
            ·have d2:decide (x.stamp≤y.snap)=false:=decide_eq_false h2
             go_wp2_with fail
             go_meet
             case rel=>exact ⟨by unfold plainP;rw [d1,hm1,d2];try rfl,⟨L2.out.1,L2.out.2⟩⟩
           | true =>
            go_wp2_with fail
            go_meet
            case rel=>exact ⟨by unfold plainP;rw [d1,hm1];try rfl,⟨L2.out.1,L2.out.2⟩⟩
          ·have d1:decide (x.stamp<y.stamp)=false:=decide_eq_false h1
           by_cases h2:x.stamp≤y.snap
           ·have d2:decide (x.stamp≤y.snap)=true:=decide_eq_true h2
            obtain ⟨m2,hm2⟩:∃m,meetI x.writes y.reads=m:=⟨_,rfl⟩
            have hmt:=meets_any L1.out.1.s2 (a:=y.ra) (n:=y.reads.length) (c:=y.rc) ((HR.out.each _ HY.out.2).below L1.out.1.G.below (Nat.le_refl _)).rd (OK.out.i64 _ HY.out.2).1
            rw [hm2] at hmt
            go_wp2_with fail
            refine hmt.mono ?_
            rintro e w6 ⟨rfl,hb⟩
            have L2:=Box.mk (And.intro (L1.out.1.step hb) (L1.out.2.below hb (Nat.le_refl _)))
            clear hb hmt x0 x1 x2 x3 x4 x5 y0 y1 y2 y3 y4 y5
            obtain ⟨x0,x1,x2,x3,x4,x5⟩:=AccP.cells L2.out.1.kx
            obtain ⟨y0,y1,y2,y3,y4,y5⟩:=AccP.cells L2.out.2
            cases m2 with
            | false =>
             go_wp2_with fail
             go_meet
             case rel=>exact ⟨by unfold plainP;rw [d1,d2,hm2];try rfl,⟨L2.out.1,L2.out.2⟩⟩
            | true =>
             go_wp2_with fail
             go_meet
             case rel=>exact ⟨by unfold plainP;rw [d1,d2,hm2];try rfl,⟨L2.out.1,L2.out.2⟩⟩
           ·have d2:decide (x.stamp≤y.snap)=false:=decide_eq_false h2
            go_wp2_with fail
            go_meet
            case rel=>exact ⟨by unfold plainP;rw [d1,d2];try rfl,⟨L1.out.1,L1.out.2⟩⟩
         case rest =>
          obtain ⟨rfl,L1⟩:=hcut
          clear x0 x1 x2 x3 x4 x5 y0 y1 y2 y3 y4 y5
          obtain ⟨x0,x1,x2,x3,x4,x5⟩:=AccP.cells L1.out.1.kx
          obtain ⟨y0,y1,y2,y3,y4,y5⟩:=AccP.cells L1.out.2
          obtain ⟨p,hp⟩:∃p,plainP x y=p:=⟨_,rfl⟩
          have HP:=Box.mk hp
          rw [hp]
          clear hp
          cases p with
          | false =>
           go_upto_region 15 with fail
           go_cut [107] from 97 to 120 (fun s107 wx=>s107=.bool (antiP x y)∧Box (InY w wx g ge rs ri (some ⟨b,off,none⟩) n c hs i (rowUp hs n i j) gx b1 b2 x∧Blk wx gy 102 y.cs))
           case first =>
            by_cases h3:x.snap<y.stamp
            ·have d3:decide (x.snap<y.stamp)=true:=decide_eq_true h3
             obtain ⟨m3,hm3⟩:∃m,meetI x.reads y.writes=m:=⟨_,rfl⟩
             have hmt:=meets_any L1.out.1.s1 (a:=y.wa) (n:=y.writes.length) (c:=y.wc) ((HR.out.each _ HY.out.2).below L1.out.1.G.below (Nat.le_refl _)).wr (OK.out.i64 _ HY.out.2).2
             rw [hm3] at hmt
             go_wp2_with fail
             refine hmt.mono ?_
             rintro e w6 ⟨rfl,hb⟩
             have L2:=Box.mk (And.intro (L1.out.1.step hb) (L1.out.2.below hb (Nat.le_refl _)))
             clear hb hmt x0 x1 x2 x3 x4 x5 y0 y1 y2 y3 y4 y5
             obtain ⟨x0,x1,x2,x3,x4,x5⟩:=AccP.cells L2.out.1.kx
             obtain ⟨y0,y1,y2,y3,y4,y5⟩:=AccP.cells L2.out.2
             cases m3 with
             | false =>
              go_wp2_with fail
              go_meet
              case rel=>exact ⟨by unfold antiP;rw [d3,hm3];try rfl,⟨L2.out.1,L2.out.2⟩⟩
             | true =>
              go_wp2_with fail
              go_meet
              case rel=>exact ⟨by unfold antiP;rw [d3,hm3];try rfl,⟨L2.out.1,L2.out.2⟩⟩
            ·have d3:decide (x.snap<y.stamp)=false:=decide_eq_false h3
             go_wp2_with fail
             go_meet
             case rel=>exact ⟨by unfold antiP;rw [d3];try rfl,⟨L1.out.1,L1.out.2⟩⟩
           case rest =>
            obtain ⟨rfl,L1⟩:=hcut
            obtain ⟨q,hq⟩:∃q,antiP x y=q:=⟨_,rfl⟩
            have HQ:=Box.mk hq
            rw [hq]
            clear hq x0 x1 x2 x3 x4 x5 y0 y1 y2 y3 y4 y5
            cases q with
            | false =>
             have HE:=Box.mk (edgeI_is HX.out.1 HY.out.1 hij HD.out.1 HD.out.2 HP.out HQ.out)
             go_wp2_with fail
             go_roundg (n - (j+1))
             case measure=>omega
             case rel=>exact ⟨j+1,by omega,by omega,by go_num,⟨by have h:=L1.out.1;rw [rowUp_skip (by rw [HE.out];rfl)] at h;exact h⟩⟩
            | true =>
             obtain ⟨z0,z1,z2,z3⟩:=L1.out.1.G.cells (j:=j) (v:=0) (by rw [rowUp_at (by omega),if_neg (by omega)])
             have HE:=Box.mk (edgeI_is HX.out.1 HY.out.1 hij HD.out.1 HD.out.2 HP.out HQ.out)
             have HL:=Box.mk (L1.out.1.set j 2)
             have ob:=or02
             go_wp2_with fail
             go_roundg (n - (j+1))
             case measure=>omega
             case rel=>exact ⟨j+1,by omega,by omega,by go_num,⟨by have h:=HL.out;rw [rowUp_set (by omega) (by rw [HE.out];rfl) _ (.inl rfl)] at h;exact h⟩⟩
          | true =>
           obtain ⟨z0,z1,z2,z3⟩:=L1.out.1.G.cells (j:=j) (v:=0) (by rw [rowUp_at (by omega),if_neg (by omega)])
           have ob:=or01
           have LS:=Box.mk (And.intro (L1.out.1.set j 1) (L1.out.2.other (p:=⟨ri,j,none⟩) (L1.out.2.tne L1.out.1.G.cur (by decide)) (.int .i64 1)))
           go_upto_region 15 with fail
           clear z0 z1 z2 z3 x0 x1 x2 x3 x4 x5 y0 y1 y2 y3 y4 y5 L1 ob
           have L1:=LS
           clear LS
           generalize (wc.setCell ⟨ri,j,none⟩ (.int .i64 1))=w8 at *
           obtain ⟨x0,x1,x2,x3,x4,x5⟩:=AccP.cells L1.out.1.kx
           obtain ⟨y0,y1,y2,y3,y4,y5⟩:=AccP.cells L1.out.2
           go_cut [107] from 97 to 120 (fun s107 wx=>s107=.bool (antiP x y)∧Box (InY w wx g ge rs ri (some ⟨b,off,none⟩) n c hs i ((rowUp hs n i j).set j 1) gx b1 b2 x∧Blk wx gy 102 y.cs))
           case first =>
            by_cases h3:x.snap<y.stamp
            ·have d3:decide (x.snap<y.stamp)=true:=decide_eq_true h3
             obtain ⟨m3,hm3⟩:∃m,meetI x.reads y.writes=m:=⟨_,rfl⟩
             have hmt:=meets_any L1.out.1.s1 (a:=y.wa) (n:=y.writes.length) (c:=y.wc) ((HR.out.each _ HY.out.2).below L1.out.1.G.below (Nat.le_refl _)).wr (OK.out.i64 _ HY.out.2).2
             rw [hm3] at hmt
             go_wp2_with fail
             refine hmt.mono ?_
             rintro e w6 ⟨rfl,hb⟩
             have L2:=Box.mk (And.intro (L1.out.1.step hb) (L1.out.2.below hb (Nat.le_refl _)))
             clear hb hmt x0 x1 x2 x3 x4 x5 y0 y1 y2 y3 y4 y5
             obtain ⟨x0,x1,x2,x3,x4,x5⟩:=AccP.cells L2.out.1.kx
             obtain ⟨y0,y1,y2,y3,y4,y5⟩:=AccP.cells L2.out.2
             cases m3 with
             | false =>
              go_wp2_with fail
              go_meet
              case rel=>exact ⟨by unfold antiP;rw [d3,hm3];try rfl,⟨L2.out.1,L2.out.2⟩⟩
             | true =>
              go_wp2_with fail
              go_meet
              case rel=>exact ⟨by unfold antiP;rw [d3,hm3];try rfl,⟨L2.out.1,L2.out.2⟩⟩
            ·have d3:decide (x.snap<y.stamp)=false:=decide_eq_false h3
             go_wp2_with fail
             go_meet
             case rel=>exact ⟨by unfold antiP;rw [d3];try rfl,⟨L1.out.1,L1.out.2⟩⟩
           case rest =>
            obtain ⟨rfl,L1⟩:=hcut
            obtain ⟨q,hq⟩:∃q,antiP x y=q:=⟨_,rfl⟩
            have HQ:=Box.mk hq
            rw [hq]
            clear hq x0 x1 x2 x3 x4 x5 y0 y1 y2 y3 y4 y5
            cases q with
            | false =>
             have HE:=Box.mk (edgeI_is HX.out.1 HY.out.1 hij HD.out.1 HD.out.2 HP.out HQ.out)
             go_wp2_with fail
             go_roundg (n - (j+1))
             case measure=>omega
             case rel=>exact ⟨j+1,by omega,by omega,by go_num,⟨by have h:=L1.out.1;rw [rowUp_set (by omega) (by rw [HE.out];rfl) _ (.inl rfl)] at h;exact h⟩⟩
            | true =>
             obtain ⟨z0,z1,z2,z3⟩:=L1.out.1.G.cells (j:=j) (v:=1) (by rw [List.getElem?_set_self (by rw [rowUp_len];omega)])
             have HE:=Box.mk (edgeI_is HX.out.1 HY.out.1 hij HD.out.1 HD.out.2 HP.out HQ.out)
             have HL:=Box.mk (L1.out.1.set j 3)
             have ob:=or12
             go_wp2_with fail
             go_roundg (n - (j+1))
             case measure=>omega
             case rel=>exact ⟨j+1,by omega,by omega,by go_num,⟨by have h:=HL.out;rw [rowUp_set (by omega) (by rw [HE.out];rfl) _ (.inr ⟨_,rfl⟩)] at h;exact h⟩⟩
     ·obtain rfl:j=n:=by omega
      go_wp2_with fail
      go_roundg (j - (i+1))
      case measure=>omega
      case rel=>exact ⟨i+1,by omega,by omega,by go_num,⟨_,HI.out.G.done⟩⟩
  ·obtain rfl:i=n:=by omega
   have GG:=HG.out
   go_wp2_with fail
   go_ret
   exact ⟨GG.below,g,GG.lo.1,rfl,⟨ge,rs,GG.gb,by have h:=GG.eb;rw [Nat.sub_self,List.replicate_zero,List.append_nil] at h;exact h,GG.len,GG.rows⟩⟩
end
end Go.Proofs.YtlfghapllmaigaaGreatDoor
