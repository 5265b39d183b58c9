/-
  The walk of history's Right; The walks of history's Length, asks, next; The walks of history's asks and next; The walk of history's Open. Conditions: each theorem's own hypotheses.
-/
import Derived.Test.YtlfghapllmaigaaGreatDoorK26
set_option linter.unusedVariables false
set_option linter.unusedSimpArgs false
namespace Go.Proofs.YtlfghapllmaigaaGreatDoor
section
open Go.RowKit Go.Maps
set_option maxRecDepth 20000 in
theorem z_st:∀w,(zeroValue 132).run Tryz.prog w=.ok (.int .i64 0) w:=fun w=>by rfl
theorem oper_put {P:Program} {w w':World} {ops:Array Oper} {o:Oper} {a:Act} {K:Act→World→Prop} {Q:Exit→Act→World→Prop} (hgd:Region.wanted o (yielded ops a.tmps)=true) (t:TypeId) (m k v:Operand) (ho:o.op=.mapUpdate t m k v) {b kv vv:Value} (hm:a.eval m=b) (hk:a.eval k=kv) (hv:a.eval v=vv)
  (hrun:(Instr.mapUpdate t b kv vv).run P w=.ok () w') (h:K (a.put o.dst undef) w'):if Region.wanted o (yielded ops a.tmps)=true then Oper.wp P o a w K Q else K (a.put o.dst undef) w:=by
 rw [if_pos hgd]
 unfold Oper.wp
 simp only [execOp,ho,hm,hk,hv,Sem.run_bind,hrun,Result.andThen_ok,Sem.run_pure]
 exact h
theorem Stp.kinds {σ σ':Sg} {xk xt xs:Int} {wa ra:Option Addr} {wc rc:Nat} {ws:List WrP} {rs:List HdP} (h:Stp σ ⟨xk,xt,xs,wa,wc,ws,ra,rc,rs⟩ σ') :
  (xk=1∧xt=σ.n+1∧xs=0∧rs=[]∧WsOk ws∧ws≠[]∧σ'=⟨σ.com,σ.opn++[(xt,ws)],xt⟩)∨(xk=2∧ws=[]∧rs=[]∧xs=σ.com.length+1∧∃v o,σ.opn=(xt,v)::o∧σ'=⟨σ.com++[(xt,v)],o,σ.n⟩) ∨
  (xk=4∧xt=0∧xs=0∧ws=[]∧rs=[]∧σ'=⟨σ.com,[],σ.n⟩)∨(xk=5∧xt=0∧xs=σ.com.length∧ws=[]∧rs=rowsH σ.cw σ.com.length∧σ'=σ):=by
 cases h with
 | ask h1 h2 h3 h4 h5 h6=>exact .inl ⟨h1,h2,h3,h4,h5,h6,rfl⟩
 | report v o h1 h2 h3 h4 h5=>exact .inr (.inl ⟨h1,h5,h4,h3,v,o,h2,rfl⟩)
 | fail h1 h2 h3 h4 h5=>exact .inr (.inr (.inl ⟨h1,h2,h3,h5,h4,rfl⟩))
 | see h1 h2 h3 h4 h5=>exact .inr (.inr (.inr ⟨h1,h2,h3,h5,h4,rfl⟩))
theorem nm_cmp:(Tryz.f63.name == "runtime.NumGoroutine")=false:=by kernel_rfl
theorem bd_cmp:Tryz.f63.body.isNone=false:=by kernel_rfl
theorem cmp2_neg {a b:HdP} (h:a.key.1<b.key.1∨a.key.1=b.key.1∧a.key.2<b.key.2):cmp2 a.table a.row b.table b.row<0:=cmp2_lt.2 h
set_option maxRecDepth 20000 in
set_option maxHeartbeats 8000000 in
theorem right_any {h:List HpP} {f:Nat→Sg} (r:Run h f) {a:Option Addr} {n c:Nat} {w:World} (hr:HsRd w a n c h) (hn:n≤400):Calls Tryz.prog 13 #[.slice a n c] w (RetV (.bool true) w):=by
 have HR:=Box.mk hr
 have HL:=Box.mk hr.len
 have RU:=Box.mk r
 have hmm:=@run_makeMap Tryz.prog
 have O0:=Box.mk (Own.newMap (P:=Tryz.prog) (k:=3) (ek:=kI) (ev:=kI) (Own.start w))
 have B0:=Box.mk ((Below.refl w.heap.size w).alloc (Nat.le_refl _) (.map #[] 0))
 clear hr r
 go_enter Tryz.func13,Tryz.ntmps13
 go_wp2_with fail
 generalize (w.alloc (.map #[] 0))=w1 at *
 go_loopg [4,13] n (fun gg s4 s13 wr=>∃ (k L:Nat),k≤n∧n - k≤gg∧s13=.int .i64 k∧s4=.int .i64 L∧Box (∃m:List (Int×Int),Own w.heap.size wr [StsO w.heap.size m]∧Below w.heap.size w wr∧StOk m (f k)∧L=(f k).com.length))
 case atStart=>exact ⟨0,0,Nat.zero_le _,by omega,rfl,rfl,⟨[],O0.out,B0.out,by rw [RU.out.start];exact StOk.start,by rw [RU.out.start];rfl⟩⟩
 clear O0 B0
 case round =>
  obtain ⟨k,L,hk,hg,rfl,rfl,HI⟩:=hrel
  obtain ⟨m,hO,hB,hS,hL⟩:=HI.out
  have HI:=Box.mk (And.intro hO (And.intro hB (And.intro hS hL)))
  clear hO hB hS hL
  by_cases hlt:k<n
  ·obtain ⟨b,off,x,rfl,hx,hxm,hxr,c0,c1,c2',c3',c4'⟩:=(HR.out.below HI.out.2.1 (Nat.le_refl _)).at k hlt
   have hst:=RU.out.step k (by rw [HL.out];exact hlt)
   have hlen:=RU.out.len k (by rw [HL.out];exact hk)
   rw [hx] at hst
   have HST:=Box.mk hst
   have HOK:=Box.mk (RU.out.ok k (by rw [HL.out];exact hk))
   have HXR:=Box.mk hxr
   have HPL:=Box.mk (fun (w:World)=>plain_any (hst.plain) w)
   have hpos:=HOK.out.pos
   have hLk:L≤k:=by rw [HI.out.2.2.2];omega
   have HN:=Box.mk hlen
   have hm64:=Box.mk (RU.out.i64 k (by rw [HL.out];exact hk) (by rw [HL.out];omega) HI.out.2.2.1)
   obtain ⟨xk,xt,xs,wa,wc,ws,ra,rc,rs⟩:=x
   simp only at c0 c1 c2' c3' c4'
   have hxt:In64 xt:=by
    have h1:=HST.out
    have h2:=HOK.out.mem
    generalize f k=σ at *
    generalize f (k+1)=σ' at *
    unfold In64
    cases h1 with
    | ask h3 h4=>simp only at h4;omega
    | report ws o h3 h4 =>
     have h5:=h2 (xt,ws) (by rw [h4];simp)
     simp only at h5;omega
    | fail h3 h4=>simp only at h4;omega
    | see h3 h4=>simp only at h4;omega
   have O4:=Box.mk (HI.out.1.new [.int .i64 xk,.int .i64 xt,.int .i64 xs,.slice wa ws.length wc,.slice ra rs.length rc] 84)
   have B4:=Box.mk (HI.out.2.1.alloc HI.out.2.1.size (.cells #[.int .i64 xk,.int .i64 xt,.int .i64 xs,.slice wa ws.length wc,.slice ra rs.length rc] 84))
   have HXR:=Box.mk (HXR.out.below ((Below.refl wr.heap.size wr).alloc (Nat.le_refl _) (.cells #[.int .i64 xk,.int .i64 xt,.int .i64 xs,.slice wa ws.length wc,.slice ra rs.length rc] 84)) (Nat.le_refl _))
   have HSL:=Box.mk HI.out.2.2
   clear hx hxm hxr hst hlen HI
   go_upto_region 5 with fail
   clear c0 c1 c2' c3' c4'
   generalize wr.heap.size=gx at *
   generalize (wr.alloc (.cells #[.int .i64 xk,.int .i64 xt,.int .i64 xs,.slice wa ws.length wc,.slice ra rs.length rc] 84))=w4 at *
   have y0:=(O4.out.blk 1 rfl).1.cellOf (i:=0) rfl
   have y1:=(O4.out.blk 1 rfl).1.cellOf (i:=1) rfl
   have y2:=(O4.out.blk 1 rfl).1.cellOf (i:=2) rfl
   have y3:=(O4.out.blk 1 rfl).1.cellOf (i:=3) rfl
   have y4:=(O4.out.blk 1 rfl).1.cellOf (i:=4) rfl
   simp only [HpP.v] at HPL
   go_wp2_with fail
   refine (HPL.out _).mono ?_
   rintro e w5 ⟨rfl,hb5⟩
   have O5:=Box.mk (O4.out.below hb5)
   have B5:=Box.mk (B4.out.trans (hb5.mono O4.out.1))
   have HX5:=Box.mk (HXR.out.below hb5 (Nat.le_refl _))
   clear y0 y1 y2 y3 y4 hb5 O4 B4 HXR HPL
   have y0:=(O5.out.blk 1 rfl).1.cellOf (i:=0) rfl
   have y1:=(O5.out.blk 1 rfl).1.cellOf (i:=1) rfl
   have y2:=(O5.out.blk 1 rfl).1.cellOf (i:=2) rfl
   have y3:=(O5.out.blk 1 rfl).1.cellOf (i:=3) rfl
   have y4:=(O5.out.blk 1 rfl).1.cellOf (i:=4) rfl
   have hlook:=(O5.out.map 0 rfl).1.look (t:=130) (e:=132) K_int kI_inj und_st z_st (keyI hxt)
   simp only [kI] at hlook
   have hst:=HST.out.kinds
   rcases hst with ⟨rfl,h2,rfl,rfl,h5,h6,h7⟩ | ⟨rfl,rfl,rfl,h4,v,o,h5,h6⟩ | ⟨rfl,rfl,rfl,rfl,rfl,h6⟩ | ⟨rfl,rfl,h3,rfl,h5,h6⟩
   ·-- ask
    have hask:=HSL.out.1.ask HOK.out (x:=⟨1,xt,0,wa,wc,ws,ra,rc,[]⟩) h2
    simp only at hask
    rw [getA_none.2 hask.1] at hlook
    simp only [Option.map_none,Option.getD_none] at hlook
    have HASK:=Box.mk (show StOk (putA m xt 1) (f (k+1)) from by rw [h7];exact hask.2)
    have HLL:=Box.mk (show L=(f (k+1)).com.length from by rw [h7];exact HSL.out.2)
    have hwr:=Box.mk (written_any h5 h6 HX5.out.wr)
    have t1:decide (xt<1)=false:=decide_eq_false (by omega)
    simp only at hwr
    clear h2 h5 h6 h7 hask HST HX5
    generalize ws.length=wn at *
    rw [List.length_nil] at y4 O5
    go_wp2_with fail
    refine hwr.out.mono ?_
    rintro e w6 ⟨rfl,hb6⟩
    have O6:=Box.mk (O5.out.below hb6)
    have z1:=(O6.out.blk 1 rfl).1.cellOf (i:=1) rfl
    obtain ⟨w7,hrun,O7,hb7,_⟩:=O6.out.putMap K_int kI_inj und_st 0 rfl (keyI hxt) 1
    have O7:=Box.mk (show Own w.heap.size w7 [StsO w.heap.size (putA m xt 1)] from O7.drop 1)
    have B7:=Box.mk (B5.out.trans ((hb6.mono O5.out.1).trans hb7))
    simp only [kI] at hrun
    clear hb6 hb7 y0 y1 y2 y3 y4 O6 hlook
    go_wp2_with fail
    go_roundg (n - (k+1))
    case measure=>omega
    case rel=>exact ⟨k+1,L,by omega,by omega,by go_num,rfl,⟨_,O7.out,B7.out,HASK.out,HLL.out⟩⟩
   ·-- report
    have hrep:=HSL.out.1.report HOK.out (x:=⟨2,xt,xs,wa,wc,[],ra,rc,[]⟩) h5
    simp only at hrep
    rw [hrep.1] at hlook
    simp only [Option.map_some,Option.getD_some,kI] at hlook
    have HREP:=Box.mk (show StOk (putA m xt 2) (f (k+1)) from by rw [h6];exact hrep.2)
    have hxs:xs=(L:Int)+1:=by rw [h4,HSL.out.2]
    have HLL:=Box.mk (show L+1=(f (k+1)).com.length from by rw [h6,List.length_append,HSL.out.2];rfl)
    have t1:decide (xs≤(L:Int))=false:=decide_eq_false (by omega)
    have HNB:=Box.mk (show numB xs=true from by unfold numB;simp;omega)
    have HNU:=Box.mk (number_any xs w5)
    rw [HNB.out] at HNU
    have HFIN:=Box.mk (fun (w9:World) (h1:Own w.heap.size w9 [StsO w.heap.size (putA m xt 2)]) (h2:Below w.heap.size w w9) =>
     show ∃ (k' L':Nat),k'≤n∧n - k'≤n - (k+1)∧Value.int .i64 ((k:Int)+1)=.int .i64 k'∧Value.int .i64 xs=.int .i64 L'∧Box (∃m:List (Int×Int),Own w.heap.size w9 [StsO w.heap.size m]∧Below w.heap.size w w9∧StOk m (f k')∧L'=(f k').com.length) from
     ⟨k+1,L+1,by omega,by omega,by go_num,by rw [hxs];go_num,⟨_,h1,h2,HREP.out,HLL.out⟩⟩)
    rw [List.length_nil] at y3 y4 O5
    clear h4 h5 h6 hrep HST HX5 hxs
    go_wp2_with fail
    refine HNU.out.mono ?_
    rintro e w6 ⟨rfl,rfl⟩
    go_wp2_with fail
    have HF0:=Box.mk (And.intro (show Own w.heap.size w6.drew [StsO w.heap.size m,BlkP gx 84 [.int .i64 2,.int .i64 xt,.int .i64 xs,.slice wa 0 wc,.slice ra 0 rc]] from O5.out.drew) B5.out.drew)
    have HS0:Own w.heap.size w6.drew [BlkP gx 84 [.int .i64 2,.int .i64 xt,.int .i64 xs,.slice wa 0 wc,.slice ra 0 rc]]∧Below w.heap.size w w6.drew:=⟨HF0.out.1.drop 0,HF0.out.2⟩
    clear y0 y1 y2 y3 y4 O5 B5 hlook
    refine wp_region_held_drew (S:=fun w'=>(Own w.heap.size w' [BlkP gx 84 [.int .i64 2,.int .i64 xt,.int .i64 xs,.slice wa 0 wc,.slice ra 0 rc]]∧Below w.heap.size w w')) (by kernel_rfl) HS0 (fun _=>?_)
    generalize w6.drew=wd at *
    refine tw 0 rfl HS0 ?_
    conv=>arg 8;simp [go_sem]
    refine tw 1 rfl HS0 ?_
    conv=>arg 8;simp [go_sem]
    refine tv 2 rfl (fun w' hS=>by have e:=(hS.1.blk 0 rfl).1.cellOf (i:=1) rfl;go_simp;all_goals with_reducible rfl) HS0 ?_
    conv=>arg 8;simp [go_sem]
    refine tw 3 rfl HS0 ?_
    conv=>arg 8;simp [go_sem]
    refine tv 4 rfl (fun w' hS=>by have e:=(hS.1.blk 0 rfl).1.cellOf (i:=2) rfl;go_simp;all_goals with_reducible rfl) HS0 ?_
    conv=>arg 8;simp [go_sem]
    refine ar 5 rfl fun K' hK'=>?_
    obtain ⟨w9,hrun,O9r,hb9,_⟩:=HF0.out.1.putMap K_int kI_inj und_st 0 rfl (keyI hxt) 2
    refine oper_put (by rfl) _ _ _ _ rfl rfl rfl rfl hrun ?_
    have O9:=Box.mk (show Own w.heap.size w9 [StsO w.heap.size (putA m xt 2)] from O9r.drop 1)
    have HF9:=Box.mk (show Own w.heap.size w9 [BlkP gx 84 [.int .i64 2,.int .i64 xt,.int .i64 xs,.slice wa 0 wc,.slice ra 0 rc]] from O9r.drop 0)
    have B9:=Box.mk (HF0.out.2.trans hb9)
    clear hb9 hrun O9r
    have HT1:=(show (Own _ _ _∧Below _ _ _) from And.intro HF9.out B9.out)
    refine hK'.out _ _ HT1 (fun _=>?_)
    clear hK' K'
    conv=>arg 8;simp [go_sem]
    refine tw 6 rfl HT1 ?_
    conv=>arg 8;simp [go_sem]
    refine ⟨by kernel_rfl,?_⟩
    conv =>
     arg 5
     simp [go_sem]
    go_wp2_with fail
    go_roundg (n - (k+1))
    case measure=>omega
    case rel=>exact HFIN.out _ O9.out B9.out
   ·-- fail
    have HFA:=Box.mk (fail_any (l:=[BlkP gx 84 [.int .i64 4,.int .i64 0,.int .i64 0,.slice wa ([]:List WrP).length wc,.slice ra ([]:List HdP).length rc]]) O5.out hm64.out)
    have HLL:=Box.mk (show L=(f (k+1)).com.length from by rw [h6];exact HSL.out.2)
    have HSF:=Box.mk (fun m' (e:keysA m'=keysA m)=>show StOk m' (f (k+1)) from by rw [h6];exact HSL.out.1.fail e)
    clear h6 HST HX5
    go_wp2_with fail
    refine HFA.out.mono ?_
    rintro e w6 ⟨rfl,hb6,m',hm',O6⟩
    have HF:=Box.mk (And.intro (show Own w.heap.size w6 [StsO w.heap.size m'] from O6.drop 1) (And.intro (B5.out.trans hb6) (HSF.out m' hm')))
    clear hb6 hm' O6 y0 y1 y2 y3 y4 O5 B5 hlook HFA
    go_wp2_with fail
    go_roundg (n - (k+1))
    case measure=>omega
    case rel=>exact ⟨k+1,L,by omega,by omega,by go_num,rfl,⟨_,HF.out.1,HF.out.2.1,HF.out.2.2,HLL.out⟩⟩
   ·-- see
    have HLL:=Box.mk (show L=(f (k+1)).com.length from by rw [h6];exact HSL.out.2)
    have HSS:=Box.mk (show StOk m (f (k+1)) from by rw [h6];exact HSL.out.1)
    have hxs:xs=(L:Int):=by rw [h3,HSL.out.2]
    have hrl:rs.length≤8:=by rw [h5];exact rowsH_len _ _
    have HRS:=Box.mk (show ∀x∈rs,HdOk x xs from fun x hx=>by
     rw [h5] at hx
     have h8:=rowsH_mem hx
     have h9:=spots_iff.1 h8.1
     exact ⟨⟨h9.1,by have:=h9.2.1;unfold HdP.key at this;simp only at this;omega⟩,⟨h9.2.2.1,by have:=h9.2.2.2;unfold HdP.key at this;simp only at this;omega⟩,h8.2.1,by rw [h3];exact h8.2.2⟩)
    have HLT:=Box.mk (show rs.Pairwise (fun a b=>a.key.1<b.key.1∨a.key.1=b.key.1∧a.key.2<b.key.2) from by rw [h5];exact rowsH_lt _ _)
    have HRR:=Box.mk HX5.out.rw_
    simp only at HRR
    clear h3 h5 h6 HST HX5
    have t1:decide (xs<0)=false:=decide_eq_false (by omega)
    have t2:decide (1073741824<xs)=false:=decide_eq_false (by omega)
    have HMR:=Box.mk (hdAnyM (fun _=>false) 61 #[.pointer (some ⟨gx,0,none⟩)] wrongF_enters rs ra rs.length rc w5 HRR.out (fun W y hy hW=>by
     have hc:=(O5.out.blk 1 rfl).1.cellOf (i:=2) rfl
     exact wrongF_any (HRS.out y hy) ((hW.cell (p:=⟨gx,2,none⟩) (cell_block_lt hc)).trans hc)))
    have hany:(rs.any fun _=>false)=false:=by simp
    rw [hany] at HMR
    rw [List.length_nil] at y3 O5
    obtain ⟨rn,hrn⟩:∃rn,rs.length=rn:=⟨_,rfl⟩
    rw [hrn] at HMR y4 O5 HRR hrl
    have HRN:=Box.mk hrn
    clear hany HRS hxs hrn
    go_wp2_with fail
    refine HMR.out.mono ?_
    rintro e w6 ⟨rfl,hb6⟩
    have O6:=Box.mk (And.intro (O5.out.below hb6) (And.intro (B5.out.trans (hb6.mono O5.out.1)) (HRR.out.below hb6 (Nat.le_refl _))))
    clear hb6 y0 y1 y2 y3 y4 O5 B5 hlook HMR HRR
    go_wp2_with fail
    go_loopg [9] rn (fun gg s9 wq=>∃j:Nat,1≤j∧j≤max 1 rn∧rn - j≤gg∧s9=.int .i64 j∧Box (Own w.heap.size wq [StsO w.heap.size m,BlkP gx 84 [.int .i64 5,.int .i64 0,.int .i64 xs,.slice wa 0 wc,.slice ra rn rc]]∧Below w6.heap.size w6 wq))
    case atStart=>exact ⟨1,by omega,by omega,by omega,rfl,⟨O6.out.1,Below.refl _ _⟩⟩
    case round =>
     obtain ⟨j,hj1,hj2,hjg,rfl,HJ⟩:=hrel
     have y4:=(HJ.out.1.blk 1 rfl).1.cellOf (i:=4) rfl
     by_cases hjl:j<rn
     ·obtain ⟨b2,off2,rfl,_,_⟩:=O6.out.2.2.recAt HdP.enc_len (by omega) 0 (by omega)
      obtain ⟨i,rfl⟩:∃i,j=i+1:=⟨j - 1,by omega⟩
      have HC0:=Box.mk (fun (w':World) (hw:Below w6.heap.size w6 w')=>(O6.out.2.2.below hw (Nat.le_refl _)).recCell HdP.enc_len (by omega) i (by omega))
      have HC1:=Box.mk (fun (w':World) (hw:Below w6.heap.size w6 w')=>(O6.out.2.2.below hw (Nat.le_refl _)).recCell HdP.enc_len (by omega) (i+1) (by omega))
      have HCC:=Box.mk (show (cmp2 (rs.getD i default).table (rs.getD i default).row (rs.getD (i+1) default).table (rs.getD (i+1) default).row)<0 from cmp2_neg (by
       have:=List.pairwise_iff_getElem.1 HLT.out i (i+1) (by rw [HRN.out];omega) (by rw [HRN.out];omega) (by omega)
       rw [List.getD_eq_getElem?_getD,List.getElem?_eq_getElem (by rw [HRN.out];omega),List.getD_eq_getElem?_getD,List.getElem?_eq_getElem (by rw [HRN.out];omega)]
       exact this))
      generalize rs.getD i default=x1 at *
      generalize rs.getD (i+1) default=x2 at *
      obtain ⟨cc,hcc⟩:∃cc,cmp2 x1.table x1.row x2.table x2.row=cc:=⟨_,rfl⟩
      have hc9:decide (0≤cc)=false:=decide_eq_false (by have:=HCC.out;rw [hcc] at this;omega)
      replace HCC:=Box.mk hcc
      clear hcc
      go_wp2_with fail
      have HS0:Own w.heap.size wr.drew [StsO w.heap.size m,BlkP gx 84 [.int .i64 5,.int .i64 0,.int .i64 xs,.slice wa 0 wc,.slice (some ⟨b2,off2,none⟩) rn rc]]∧Below w6.heap.size w6 wr.drew:=⟨HJ.out.1.drew,HJ.out.2.drew⟩
      clear HJ y4
      refine wp_region_held_drew (S:=fun w'=>(Own w.heap.size w' [StsO w.heap.size m,BlkP gx 84 [.int .i64 5,.int .i64 0,.int .i64 xs,.slice wa 0 wc,.slice (some ⟨b2,off2,none⟩) rn rc]]∧Below w6.heap.size w6 w')) (by kernel_rfl) HS0 (fun _=>?_)
      generalize wr.drew=wd at *
      have hir:(i:Int)<(rn:Int):=by omega
      have hwi:IntKind.i64.wrap (i:Int)=(i:Int):=IntWalk.i64_in _ (by omega)
      have hi1:(0:Int)≤(i:Int)+1:=by omega
      refine tw 0 rfl HS0 ?_
      conv=>arg 8;simp [go_sem]
      refine tv 1 rfl (fun w' hS=>by have e:=(hS.1.blk 1 rfl).1.cellOf (i:=4) rfl;go_simp;all_goals with_reducible rfl) HS0 ?_
      conv=>arg 8;simp [go_sem]
      refine tw 2 rfl HS0 ?_
      conv=>arg 8;simp [go_sem]
      refine tw 3 rfl HS0 ?_
      conv=>arg 8;simp [go_sem]
      refine tw 4 rfl HS0 ?_
      conv=>arg 8;simp [go_sem]
      refine tk 5 (v:=.agg #[.int .i64 x1.table,.int .i64 x1.row,.int .i64 x1.stamp,.slice x1.va x1.vals.length x1.vc]) rfl (yieldsIf_load_agg (by rfl) 136 (.tmp 104) rfl aggHd rfl (cs:=[.int .i64 x1.table,.int .i64 x1.row,.int .i64 x1.stamp,.slice x1.va x1.vals.length x1.vc]) rfl (fun w' hS j u h=>by rw [addN];exact HC0.out w' hS.2 j u h)) (HS0) ?_
      conv=>arg 8;simp [go_sem]
      refine tw 6 rfl HS0 ?_
      conv=>arg 8;simp [go_sem]
      refine tv 7 rfl (fun w' hS=>by have e:=(hS.1.blk 1 rfl).1.cellOf (i:=4) rfl;go_simp;all_goals with_reducible rfl) HS0 ?_
      conv=>arg 8;simp [go_sem]
      refine tw 8 rfl HS0 ?_
      conv=>arg 8;simp [go_sem]
      refine tw 9 rfl HS0 ?_
      conv=>arg 8;simp [go_sem]
      refine tk 10 (v:=.agg #[.int .i64 x2.table,.int .i64 x2.row,.int .i64 x2.stamp,.slice x2.va x2.vals.length x2.vc]) rfl (yieldsIf_load_agg (by rfl) 136 (.tmp 109) rfl aggHd rfl (cs:=[.int .i64 x2.table,.int .i64 x2.row,.int .i64 x2.stamp,.slice x2.va x2.vals.length x2.vc]) rfl (fun w' hS j u h=>by rw [addN];exact HC1.out w' hS.2 j u h)) (HS0) ?_
      conv=>arg 8;simp [go_sem]
      refine ar 11 rfl fun K' hK'=>?_
      refine oper_call (by rfl) 63 [.tmp 105,.tmp 110] #[136,136] rfl (vs:=[x1.v,x2.v]) rfl Tryz.func63 nm_cmp bd_cmp (cmp_hd x1 x2 _) ?_
      rintro e w9 ⟨rfl,hg9⟩
      rw [HCC.out]
      have HT2:=And.intro (HS0.1.below hg9.below) (HS0.2.trans (hg9.below.mono HS0.2.size))
      refine ⟨_,rfl,hK'.out _ _ HT2 (fun _=>?_)⟩
      clear hK' K'
      conv=>arg 8;simp [go_sem]
      refine tw 12 rfl HT2 ?_
      conv=>arg 8;simp [go_sem]
      refine ⟨by kernel_rfl,?_⟩
      conv =>
       arg 5
       simp [go_sem]
      go_wp2_with fail
      go_roundg (rn - (i+1+1))
      case measure=>omega
      case rel=>exact ⟨i+1+1,by omega,by omega,by omega,by go_num,⟨HT2.1,HT2.2⟩⟩
     ·go_wp2_with fail
      go_roundg (n - (k+1))
      case measure=>omega
      case rel=>exact ⟨k+1,L,by omega,by omega,by go_num,rfl,⟨m,HJ.out.1.drop 1,O6.out.2.1.trans (HJ.out.2.mono O6.out.1.1),HSS.out,HLL.out⟩⟩
  ·obtain rfl:k=n:=by omega
   have h400:decide ((k:Int)≤400)=true:=decide_eq_true (by omega)
   go_wp2_with fail
   go_ret
   exact ⟨rfl,HI.out.2.1⟩
end
section
open Go.RowKit Go.Maps
set_option maxRecDepth 20000 in
set_option maxHeartbeats 4000000 in
theorem length_any {h:List HpP} {f:Nat→Sg} (r:Run h f) {a:Option Addr} {n c:Nat} {w:World} (hr:HsRd w a n c h):Calls Tryz.prog 65 #[.slice a n c] w (RetV (.int .i64 (f n).com.length) w):=by
 have hmx:=hr.rd.lenMax
 have HR:=Box.mk hr
 have HL:=Box.mk hr.len
 have RU:=Box.mk r
 clear hr r
 go_enter Tryz.func65,Tryz.ntmps65
 go_wp2_with fail
 go_loopg [3,8] n (fun gg s3 s8 wr=>∃ (k L:Nat),k≤n∧n - k≤gg∧s8=.int .i64 k∧s3=.int .i64 L∧Box (Below w.heap.size w wr∧L=(f k).com.length))
 case atStart=>exact ⟨0,0,Nat.zero_le _,by omega,rfl,rfl,⟨Below.refl _ _,by rw [RU.out.start];rfl⟩⟩
 case round =>
  obtain ⟨k,L,hk,hg,rfl,rfl,HI⟩:=hrel
  by_cases hlt:k<n
  ·obtain ⟨b,off,x,rfl,hx,hxm,hxr,c0,c1,c2',c3',c4'⟩:=(HR.out.below HI.out.1 (Nat.le_refl _)).at k hlt
   have hst:=RU.out.step k (by rw [HL.out];exact hlt)
   have hlen:=(RU.out.len k (by rw [HL.out];exact hk)).2
   rw [hx] at hst
   obtain ⟨xk,xt,xs,wa,wc,ws,ra,rc,rs⟩:=x
   simp only at c0 c1 c2' c3' c4'
   generalize ws.length=wn at c3'
   generalize rs.length=rn at c4'
   have B4:=Box.mk (HI.out.1.alloc HI.out.1.size (.cells #[.int .i64 xk,.int .i64 xt,.int .i64 xs,.slice wa wn wc,.slice ra rn rc] 84))
   have K1:=Blk.new (w:=wr) (k:=wr.heap.size) (ty:=84) (arr:=#[.int .i64 xk,.int .i64 xt,.int .i64 xs,.slice wa wn wc,.slice ra rn rc]) (cs:=[.int .i64 xk,.int .i64 xt,.int .i64 xs,.slice wa wn wc,.slice ra rn rc]) rfl rfl
   have HLk:=Box.mk (And.intro HI.out.2 hlen)
   clear hx hxm hxr hlen HI
   go_upto_region 5 with fail
   clear c0 c1 c2' c3' c4'
   generalize wr.heap.size=gx at *
   generalize (wr.alloc (.cells #[.int .i64 xk,.int .i64 xt,.int .i64 xs,.slice wa wn wc,.slice ra rn rc] 84))=w4 at *
   have y0:=K1.cellOf (i:=0) rfl
   have y2:=K1.cellOf (i:=2) rfl
   clear K1
   rcases hst.kinds with ⟨rfl,h2,rfl,rfl,h5,h6,h7⟩ | ⟨rfl,rfl,rfl,h4,v,o,h5,h6⟩ | ⟨rfl,rfl,rfl,rfl,rfl,h6⟩ | ⟨rfl,rfl,h3,rfl,h5,h6⟩
   ·have HLL:=Box.mk (show L=(f (k+1)).com.length from by rw [h7];exact HLk.out.1)
    clear h2 h5 h6 h7 hst
    go_wp2_with fail
    go_roundg (n - (k+1))
    case measure=>omega
    case rel=>exact ⟨k+1,L,by omega,by omega,by go_num,rfl,⟨B4.out,HLL.out⟩⟩
   ·have HLL:=Box.mk (show L+1=(f (k+1)).com.length from by rw [h6,List.length_append,HLk.out.1];rfl)
    have hxs:xs=((L+1:Nat):Int):=by rw [h4,HLk.out.1];rfl
    have hmaxx:max (L:Int) xs=((L+1:Nat):Int):=by rw [hxs];omega
    have HMX:=Box.mk hmaxx
    clear h4 h5 h6 hst hxs hmaxx
    go_wp2_with fail
    go_roundg (n - (k+1))
    case measure=>omega
    case rel=>exact ⟨k+1,L+1,by omega,by omega,by go_num,by first | rw [HMX.out] | (have:=HMX.out;go_num),⟨B4.out,HLL.out⟩⟩
   ·have HLL:=Box.mk (show L=(f (k+1)).com.length from by rw [h6];exact HLk.out.1)
    clear h6 hst
    go_wp2_with fail
    go_roundg (n - (k+1))
    case measure=>omega
    case rel=>exact ⟨k+1,L,by omega,by omega,by go_num,rfl,⟨B4.out,HLL.out⟩⟩
   ·have HLL:=Box.mk (show L=(f (k+1)).com.length from by rw [h6];exact HLk.out.1)
    have hxs:xs=(L:Int):=by rw [h3,HLk.out.1]
    have HMX:=Box.mk (show max (L:Int) xs=(L:Int) from by rw [hxs];omega)
    clear h3 h5 h6 hst hxs
    go_wp2_with fail
    go_roundg (n - (k+1))
    case measure=>omega
    case rel=>exact ⟨k+1,L,by omega,by omega,by go_num,by rw [HMX.out],⟨B4.out,HLL.out⟩⟩
  ·obtain rfl:k=n:=by omega
   go_wp2_with fail
   go_ret
   exact ⟨by rw [← HI.out.2];rfl,HI.out.1⟩
end
section
open Go.RowKit Go.Maps
theorem Own.join {B:Nat} {w w':World} {l l2:List HP} (O:Own B w l) (hb:Below w.heap.size w w') (O2:Own w.heap.size w' l2):Own B w' (l++l2):=by
 obtain ⟨h1,hs,F,hF,hB⟩:=O
 obtain ⟨k1,ks,G,hG,hGB⟩:=O2
 have hlt:=Seps.lt hs hF
 refine ⟨Nat.le_trans h1 hb.size,fun P hP=>?_,F++G,Seps.app.2 ⟨F,G,Seps.eq hs hF (fun x hx=>hb.block x (hlt x hx)),hG,fun x hx hm=>?_,rfl⟩,fun x hx=>?_⟩
 ·rcases List.mem_append.1 hP with h | h
  ·exact hs P h
  ·exact ks P h
 ·have:=hlt x hx
  have:=hGB x hm
  omega
 ·rcases List.mem_append.1 hx with h | h
  ·exact hB x h
  ·exact Nat.le_trans h1 (hGB x h)
structure AskM (h:List HpP) (k:Nat) (m:List (Int×Int)):Prop where
 back:∀tx v,getA m tx=some v→∃j:Nat,v=j∧j<k∧(h.getD j default).kind=1∧(h.getD j default).tx=tx
 fwd:∀j,j<k→(h.getD j default).kind=1→getA m (h.getD j default).tx=some (j:Int)
theorem AskM.skip {h:List HpP} {k:Nat} {m:List (Int×Int)} (a:AskM h k m) (hk:(h.getD k default).kind≠1):AskM h (k+1) m :=
 ⟨fun tx v e=>by obtain ⟨j,h1,h2,h3⟩:=a.back tx v e;exact ⟨j,h1,by omega,h3⟩,fun j hj e=>a.fwd j (by
  apply Nat.lt_of_le_of_ne (by omega)
  intro e2;subst e2;exact hk e) e⟩
theorem AskM.ask {h:List HpP} {f:Nat→Sg} (r:Run h f) {k:Nat} (hk:k<h.length) {m:List (Int×Int)} (a:AskM h k m) (h1:(h.getD k default).kind=1):AskM h (k+1) (putA m (h.getD k default).tx k):=by
 have t:=r.trc h.length (Nat.le_refl _)
 rw [List.take_length] at t
 refine ⟨fun tx v e=>?_,fun j hj e=>?_⟩
 ·rw [getA_putA] at e
  split at e
  ·rename_i h2
   cases e
   exact ⟨k,rfl,by omega,h1,h2⟩
  ·obtain ⟨j,k1,k2,k3⟩:=a.back tx v e
   exact ⟨j,k1,by omega,k3⟩
 ·rw [getA_putA]
  by_cases h2:j=k
  ·subst h2;simp
  ·have h3:=t.ask_inj (i:=j) (j:=k) (by omega) hk e h1
   rw [if_neg (by omega)]
   exact a.fwd j (by omega) e
abbrev IntO (b:Nat) (m:List (Int×Int)):HP:=MapO Tryz.prog 3 kI kI b m
def RetAsks (h:List HpP) (n:Nat) (w:World) (e:Ending) (w':World):Prop:=Below w.heap.size w w'∧∃ (b:Nat) (m:List (Int×Int)),e=.returned (.map (some b))∧Own w.heap.size w' [IntO b m]∧AskM h n m
set_option maxRecDepth 20000 in
set_option maxHeartbeats 4000000 in
theorem asks_any {h:List HpP} {f:Nat→Sg} (r:Run h f) {a:Option Addr} {n c:Nat} {w:World} (hr:HsRd w a n c h) (hn:n≤1000):Calls Tryz.prog 73 #[.slice a n c] w (RetAsks h n w):=by
 have HR:=Box.mk hr
 have HL:=Box.mk hr.len
 have RU:=Box.mk r
 have hmm:=@run_makeMap Tryz.prog
 have O0:=Box.mk (Own.newMap (P:=Tryz.prog) (k:=3) (ek:=kI) (ev:=kI) (Own.start w))
 have B0:=Box.mk ((Below.refl w.heap.size w).alloc (Nat.le_refl _) (.map #[] 0))
 clear hr r
 go_enter Tryz.func73,Tryz.ntmps73
 go_wp2_with fail
 generalize (w.alloc (.map #[] 0))=w1 at *
 go_loopg [9] n (fun gg s9 wr=>∃k:Nat,k≤n∧n - k≤gg∧s9=.int .i64 k∧Box (∃m,Own w.heap.size wr [IntO w.heap.size m]∧Below w.heap.size w wr∧AskM h k m))
 case atStart=>exact ⟨0,Nat.zero_le _,by omega,rfl,⟨[],O0.out,B0.out,⟨fun tx v e=>by simp [getA] at e,fun j hj=>by omega⟩⟩⟩
 clear O0 B0
 case round =>
  obtain ⟨k,hk,hg,rfl,HI⟩:=hrel
  obtain ⟨m,hO,hB,hA⟩:=HI.out
  have HI:=Box.mk (And.intro hO (And.intro hB hA))
  clear hO hB hA
  by_cases hlt:k<n
  ·obtain ⟨b,off,x,rfl,hx,hxm,hxr,c0,c1,c2',c3',c4'⟩:=(HR.out.below HI.out.2.1 (Nat.le_refl _)).at k hlt
   have hlen:=(RU.out.len k (by rw [HL.out];exact hk)).1
   have HX:=Box.mk hx
   have hxt:x.kind=1→In64 x.tx:=fun e=>by
    have t:=RU.out.trc h.length (Nat.le_refl _)
    rw [List.take_length] at t
    have h1:=t.ask_n k (by rw [HL.out];exact hlt) (by rw [hx];exact e)
    have h2:=t.len.1
    rw [hx] at h1
    have h3:=HL.out
    unfold In64;omega
   obtain ⟨xk,xt,xs,wa,wc,ws,ra,rc,rs⟩:=x
   simp only at c0 c1 c2' c3' c4' hxt
   generalize hwn:ws.length=wn at c3'
   generalize hrn:rs.length=rn at c4'
   have O4:=Box.mk (HI.out.1.new [.int .i64 xk,.int .i64 xt,.int .i64 xs,.slice wa wn wc,.slice ra rn rc] 84)
   have B4:=Box.mk (HI.out.2.1.alloc HI.out.2.1.size (.cells #[.int .i64 xk,.int .i64 xt,.int .i64 xs,.slice wa wn wc,.slice ra rn rc] 84))
   have HA:=Box.mk HI.out.2.2
   clear hx hxm hxr hlen HI hwn hrn
   go_upto_region 5 with fail
   clear c0 c1 c2' c3' c4'
   generalize wr.heap.size=gx at *
   generalize (wr.alloc (.cells #[.int .i64 xk,.int .i64 xt,.int .i64 xs,.slice wa wn wc,.slice ra rn rc] 84))=w4 at *
   have y0:=(O4.out.blk 1 rfl).1.cellOf (i:=0) rfl
   have y1:=(O4.out.blk 1 rfl).1.cellOf (i:=1) rfl
   by_cases hk1:xk=1
   ·obtain ⟨w5,hrun,O5r,hb5,_⟩:=O4.out.putMap K_int kI_inj und_mii 0 rfl (keyI (hxt hk1)) (k:Int)
    have O5:=Box.mk (show Own w.heap.size w5 [IntO w.heap.size (putA m xt k)] from O5r.drop 1)
    have B5:=Box.mk (B4.out.trans hb5)
    have HA2:=Box.mk (show AskM h (k+1) (putA m xt k) from by
     have:=AskM.ask RU.out (by rw [HL.out];exact hlt) HA.out (by rw [HX.out];exact hk1)
     rw [HX.out] at this
     exact this)
    simp only [kI] at hrun
    subst hk1
    clear hb5 O4 B4 hxt HX O5r
    go_wp2_with fail
    go_roundg (n - (k+1))
    case measure=>omega
    case rel=>exact ⟨k+1,by omega,by omega,by go_num,⟨_,O5.out,B5.out,HA2.out⟩⟩
   ·have hk1':(xk==1)=false:=by simp [hk1]
    have HA2:=Box.mk (show AskM h (k+1) m from HA.out.skip (by rw [HX.out];exact hk1))
    clear hk1 hxt HX
    go_wp2_with fail
    go_roundg (n - (k+1))
    case measure=>omega
    case rel=>exact ⟨k+1,by omega,by omega,by go_num,⟨_,O4.out.drop 1,B4.out,HA2.out⟩⟩
  ·obtain rfl:k=n:=by omega
   go_wp2_with fail
   go_ret
   exact ⟨HI.out.2.1,_,m,rfl,HI.out.1,HI.out.2.2⟩
def RetNext (w:World) (e:Ending) (w':World):Prop:=Below w.heap.size w w'∧∃v:Int,0≤v∧v≤1073741825∧e=.returned (.int .i64 v)
theorem Run.stamp {h:List HpP} {f:Nat→Sg} (r:Run h f) {k:Nat} (hk:k<h.length):0≤(h.getD k default).stamp∧(h.getD k default).stamp≤k+1:=by
 have h1:=r.step k hk
 have h2:=(r.len k (by omega)).2
 generalize h.getD k default=x at *
 obtain ⟨xk,xt,xs,wa,wc,ws,ra,rc,rs⟩:=x
 simp only
 rcases h1.kinds with ⟨rfl,h2,rfl,rfl,h5,h6,h7⟩ | ⟨rfl,rfl,rfl,h4,v,o,h5,h6⟩ | ⟨rfl,rfl,rfl,rfl,rfl,h6⟩ | ⟨rfl,rfl,h3,rfl,h5,h6⟩<;>omega
set_option maxRecDepth 20000 in
set_option maxHeartbeats 4000000 in
theorem next_any {h:List HpP} {f:Nat→Sg} (r:Run h f) {a:Option Addr} {n c:Nat} {w:World} (hr:HsRd w a n c h) (hn:n≤1000) {i:Nat} (hi:i<n):Calls Tryz.prog 75 #[.slice a n c,.int .i64 i] w (RetNext w):=by
 have HR:=Box.mk hr
 have HL:=Box.mk hr.len
 have RU:=Box.mk r
 have hcap:=hr.rd.hcap
 obtain ⟨b,off,_,ha,_⟩:=hr.at i hi
 subst ha
 obtain ⟨a4,ha4⟩:∃a4,(if c=i then some (⟨b,off,none⟩:Addr) else some ⟨b,off+i * 5,none⟩)=a4:=⟨_,rfl⟩
 have hci:¬ c=i:=by omega
 rw [if_neg hci] at ha4
 subst ha4
 have hin:i≤n:=by omega
 clear hr r
 go_enter Tryz.func75,Tryz.ntmps75
 go_wp2_with fail
 obtain ⟨N,hN⟩:∃N,n - i=N:=⟨_,rfl⟩
 rw [hN]
 have HN:=Box.mk hN
 clear hN hci
 go_loopg [11] N (fun gg s11 wr=>∃j:Nat,j≤N∧N - j≤gg∧s11=.int .i64 j∧Box (Below w.heap.size w wr))
 case atStart=>exact ⟨0,Nat.zero_le _,by omega,rfl,⟨Below.refl _ _⟩⟩
 case round =>
  obtain ⟨j,hj,hg,rfl,HI⟩:=hrel
  by_cases hlt:j<N
  ·have hij:i+j<n:=by have:=HN.out;omega
   obtain ⟨b2,off2,x,ha2,hx,hxm,hxr,c0,c1,c2',c3',c4'⟩:=(HR.out.below HI.out (Nat.le_refl _)).at (i+j) hij
   cases ha2
   have hs:=RU.out.stamp (k:=i+j) (by rw [HL.out];exact hij)
   rw [hx] at hs
   have hj5:off+(i+j) * 5=off+i * 5+j * 5:=by omega
   rw [hj5] at c0 c1 c2' c3' c4'
   obtain ⟨xk,xt,xs,wa,wc,ws,ra,rc,rs⟩:=x
   simp only at c0 c1 c2' c3' c4' hs
   generalize hwn:ws.length=wn at c3'
   generalize hrn:rs.length=rn at c4'
   have K1:=Blk.new (w:=wr) (k:=wr.heap.size) (ty:=84) (arr:=#[.int .i64 xk,.int .i64 xt,.int .i64 xs,.slice wa wn wc,.slice ra rn rc]) (cs:=[.int .i64 xk,.int .i64 xt,.int .i64 xs,.slice wa wn wc,.slice ra rn rc]) rfl rfl
   have B4:=Box.mk (HI.out.alloc HI.out.size (.cells #[.int .i64 xk,.int .i64 xt,.int .i64 xs,.slice wa wn wc,.slice ra rn rc] 84))
   clear hx hxm hxr HI hwn hrn hj5
   go_upto_region 4 with fail
   clear c0 c1 c2' c3' c4'
   generalize wr.heap.size=gx at *
   generalize (wr.alloc (.cells #[.int .i64 xk,.int .i64 xt,.int .i64 xs,.slice wa wn wc,.slice ra rn rc] 84))=w4 at *
   have y0:=K1.cellOf (i:=0) rfl
   have y2:=K1.cellOf (i:=2) rfl
   clear K1
   by_cases h5:xk=5
   ·subst h5
    have HS:=Box.mk hs
    go_wp2_with fail
    go_ret
    exact ⟨B4.out,xs,HS.out.1,by have:=HS.out.2;omega,rfl⟩
   ·have h5':(xk==5)=false:=by simp [h5]
    clear h5
    go_wp2_with fail
    go_roundg (N - (j+1))
    case measure=>omega
    case rel=>exact ⟨j+1,by omega,by omega,by go_num,B4⟩
  ·go_wp2_with fail
   go_ret
   exact ⟨HI.out,1073741825,by omega,by omega,rfl⟩
end
section
open Go.RowKit Go.Maps
theorem openF_enters (args:Array Value) (w:World):(callFunc 130 args).run Tryz.prog w=.ok (.enter 130 args) w:=enters_fn Tryz.func130 (by kernel_rfl) (by kernel_rfl) args w
set_option maxRecDepth 20000 in
set_option maxHeartbeats 1000000 in
theorem openF_any {w:World} {g:Nat} {t:Int} (hg:w.cell? ⟨g,1,none⟩=some (.int .i64 t)) (x:Int):Calls Tryz.prog 130 #[.int .i64 x,.pointer (some ⟨g,0,none⟩)] w (RetV (.bool (decide (x=t))) w):=by
 by_cases h:x=t
 ·have e:(x==t)=true:=by simp [h]
  rw [decide_eq_true h]
  clear h
  go_enter Tryz.func130,Tryz.ntmps130
  go_wp2_with fail
  go_ret
  exact ⟨rfl,Below.refl _ _⟩
 ·have e:(x==t)=false:=by simp [h]
  rw [decide_eq_false h]
  clear h
  go_enter Tryz.func130,Tryz.ntmps130
  go_wp2_with fail
  go_ret
  exact ⟨rfl,Below.refl _ _⟩
def Sg.oids (σ:Sg):List Int:=σ.opn.map (·.1)
theorem oids_report {σ:Sg} (ok:SgOk σ) {x:Int} {v:List WrP} {o:List (Int×List WrP)} (h:σ.opn=(x,v)::o):(σ.oids.filter fun y=>!decide (y=x))=o.map (·.1):=by
 unfold Sg.oids
 have hn:=ok.nd
 rw [List.map_append,List.nodup_append] at hn
 have h2:=hn.2.1
 rw [h] at h2 ⊢
 simp only [List.map_cons,List.nodup_cons] at h2 ⊢
 rw [List.filter_cons_of_neg (by simp)]
 exact List.filter_eq_self.2 fun y hy=>by
  simp only [Bool.not_eq_true',decide_eq_false_iff_not]
  intro e;subst e;exact h2.1 hy
def RetOpen (xs:List Int) (w:World) (e:Ending) (w':World):Prop:=Below w.heap.size w w'∧∃ (a:Option Addr) (c:Nat),e=.returned (.slice a xs.length c)∧w'.ownsRow w.heap.size 3 1 (.slice a xs.length c) xs.length (intVals xs)
set_option maxRecDepth 20000 in
set_option maxHeartbeats 4000000 in
theorem open_any {h:List HpP} {f:Nat→Sg} (r:Run h f) {a:Option Addr} {n c:Nat} {w:World} (hr:HsRd w a n c h) (hn:n≤1000):Calls Tryz.prog 77 #[.slice a n c] w (RetOpen (f n).oids w):=by
 have HR:=Box.mk hr
 have HL:=Box.mk hr.len
 have RU:=Box.mk r
 clear hr r
 go_enter Tryz.func77,Tryz.ntmps77
 go_wp2_with fail
 go_loopg [3,8] n (fun gg s3 s8 wr=>∃ (k:Nat) (a3:Option Addr) (c3 m:Nat),k≤n∧n - k≤gg∧s8=.int .i64 k∧s3=.slice a3 m c3∧Box (m=(f k).oids.length∧Own w.heap.size wr [RowP 3 1 a3 m c3 (intVals (f k).oids)]∧Below w.heap.size w wr))
 case atStart=>exact ⟨0,none,0,0,Nat.zero_le _,by omega,rfl,rfl,⟨by rw [RU.out.start];rfl,by rw [RU.out.start];exact (Own.start w).nilRow 3 1,Below.refl _ _⟩⟩
 case round =>
  obtain ⟨k,a3,c3,m,hk,hg,rfl,rfl,HI⟩:=hrel
  by_cases hlt:k<n
  ·obtain ⟨b,off,x,rfl,hx,hxm,hxr,c0,c1,c2',c3',c4'⟩:=(HR.out.below HI.out.2.2 (Nat.le_refl _)).at k hlt
   have hst:=RU.out.step k (by rw [HL.out];exact hlt)
   have hlen:=(RU.out.len k (by rw [HL.out];exact hk)).2
   have hok:=RU.out.ok k (by rw [HL.out];exact hk)
   rw [hx] at hst
   obtain ⟨xk,xt,xs,wa,wc,ws,ra,rc,rs⟩:=x
   simp only at c0 c1 c2' c3' c4'
   have HST:=Box.mk (And.intro hst.kinds (And.intro hlen hok))
   generalize hwn:ws.length=wn at c3'
   generalize hrn:rs.length=rn at c4'
   have O4:=Box.mk (HI.out.2.1.new [.int .i64 xk,.int .i64 xt,.int .i64 xs,.slice wa wn wc,.slice ra rn rc] 84)
   have B4:=Box.mk (HI.out.2.2.alloc HI.out.2.2.size (.cells #[.int .i64 xk,.int .i64 xt,.int .i64 xs,.slice wa wn wc,.slice ra rn rc] 84))
   have hm:m≤k:=by
    have h1:=HI.out.1
    unfold Sg.oids at h1
    rw [List.length_map] at h1
    omega
   have HM:=Box.mk HI.out.1
   clear hx hxm hxr hlen hok hst HI hwn hrn
   go_upto_region 5 with fail
   clear c0 c1 c2' c3' c4'
   generalize wr.heap.size=gx at *
   generalize (wr.alloc (.cells #[.int .i64 xk,.int .i64 xt,.int .i64 xs,.slice wa wn wc,.slice ra rn rc] 84))=w4 at *
   have y0:=(O4.out.blk 1 rfl).1.cellOf (i:=0) rfl
   have y1:=(O4.out.blk 1 rfl).1.cellOf (i:=1) rfl
   rcases HST.out with ⟨⟨rfl,h2,rfl,rfl,h5,h6,h7⟩ | ⟨rfl,rfl,rfl,h4,v,o,h5,h6⟩ | ⟨rfl,rfl,rfl,rfl,rfl,h6⟩ | ⟨rfl,rfl,h3,rfl,h5,h6⟩,hlen,hok⟩
   ·have HF:=Box.mk (show (f (k+1)).oids=(f k).oids++[xt] from by rw [h7];unfold Sg.oids;rw [List.map_append];rfl)
    clear h2 h5 h6 h7 HST hok hlen
    go_wp2_with (at_builtin;refine wpList_append_O rfl _ _ 44 44 rfl sl_int (.inl sl_int.ht) (O4.out.alloc _) 0 rfl rfl rfl (Src.oneNew _ _ _ rfl) (by omega) (by unfold maxLen;omega) ?_;intro a9 c9 w9 O9 hb9)
    go_roundg (n - (k+1))
    case measure=>omega
    case rel=>exact ⟨k+1,a9,c9,m+1,by omega,by omega,by go_num,rfl,⟨by rw [HF.out,List.length_append,← HM.out];rfl,by rw [HF.out,show intVals ((f k).oids++[xt])=intVals (f k).oids++[.int .i64 xt] from by unfold intVals;rw [List.map_append];rfl];exact O9.drop 1,(B4.out.alloc B4.out.size _).trans hb9⟩⟩
   ·have HF:=Box.mk (show (f (k+1)).oids=(f k).oids.filter fun y=>!decide (y=xt) from by rw [oids_report hok h5,h6];rfl)
    clear h4 h5 h6 HST hok hlen
    have O5:=O4.out
    rw [HM.out] at O5
    have HD:=Box.mk (nDel openF_enters (lb:=#[.pointer (some ⟨gx,0,none⟩)]) (l:=[BlkP gx 84 [.int .i64 2,.int .i64 xt,.int .i64 xs,.slice wa wn wc,.slice ra rn rc]]) (ts:=(f k).oids) (p:=fun y=>decide (y=xt)) O5 (by rw [← HM.out];omega) (fun W a' n' c' xs' hO hB x hx=>openF_any ((hO.blk 1 rfl).1.cellOf (i:=1) rfl) x))
    rw [← HF.out,← HM.out] at HD
    clear O5
    go_wp2_with fail
    refine HD.out.mono ?_
    rintro e w5 ⟨a',c',rfl,O6,hb6⟩
    have O6:=Box.mk (And.intro (O6.drop 1) (B4.out.trans hb6))
    obtain ⟨m2,hm2⟩:∃m2,(f (k+1)).oids.length=m2:=⟨_,rfl⟩
    rw [hm2]
    have HM2:=Box.mk hm2
    clear hb6 HD O4 B4 y0 y1 hm2
    go_wp2_with fail
    go_roundg (n - (k+1))
    case measure=>omega
    case rel=>exact ⟨k+1,a',c',m2,by omega,by omega,by go_num,rfl,⟨HM2.out.symm,by have:=O6.out.1;rw [HM2.out] at this;exact this,O6.out.2⟩⟩
   ·have HF:=Box.mk (show (f (k+1)).oids=[] from by rw [h6];rfl)
    clear h6 HST hok hlen
    go_wp2_with fail
    go_roundg (n - (k+1))
    case measure=>omega
    case rel=>exact ⟨k+1,none,0,0,by omega,by omega,by go_num,rfl,⟨by rw [HF.out];rfl,by rw [HF.out];exact ((O4.out.drop 0).drop 0).nilRow 3 1,B4.out⟩⟩
   ·have HF:=Box.mk (show (f (k+1)).oids=(f k).oids from by rw [h6])
    clear h3 h5 h6 HST hok hlen
    go_wp2_with fail
    go_roundg (n - (k+1))
    case measure=>omega
    case rel=>exact ⟨k+1,a3,c3,m,by omega,by omega,by go_num,rfl,⟨by rw [HF.out];exact HM.out,by rw [HF.out];exact O4.out.drop 1,B4.out⟩⟩
  ·obtain rfl:k=n:=by omega
   go_wp2_with fail
   go_ret
   exact ⟨HI.out.2.2,a3,c3,by rw [← HI.out.1];rfl,by rw [← HI.out.1];exact HI.out.2.1.rowB 0 rfl⟩
end
end Go.Proofs.YtlfghapllmaigaaGreatDoor
