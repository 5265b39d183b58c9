/-
  The walk of the desk's do: Commit. Conditions: each theorem's own hypotheses.
-/
import Derived.Test.YtlfghapllmaigaaGreatDoorK39
import Derived.Test.YtlfghapllmaigaaGreatDoorK32
import Derived.Deep.CutRange
set_option linter.unusedVariables false
set_option linter.unusedSimpArgs false
namespace Go.Proofs.YtlfghapllmaigaaGreatDoor
section
open Go.RowKit Go.Maps
attribute [local go_sem] Oper.semAt_some
theorem nm_ask:(Tryz.f31.name == "runtime.NumGoroutine")=false:=by kernel_rfl
theorem bd_ask:Tryz.f31.body.isNone=false:=by kernel_rfl
theorem nm_next:(Tryz.f32.name == "runtime.NumGoroutine")=false:=by kernel_rfl
theorem bd_next:Tryz.f32.body.isNone=false:=by kernel_rfl
theorem nm_wait:(Tryz.f33.name == "runtime.NumGoroutine")=false:=by kernel_rfl
theorem bd_wait:Tryz.f33.body.isNone=false:=by kernel_rfl
set_option maxRecDepth 20000 in
set_option maxHeartbeats 16000000 in
theorem do_commit {ser:Bool} {m gd B:Nat} {w:World} {com:List (Int×List WrP)} {wt:List Wtx} {X:TxP} {S:Gr.GS} {hs:List HpP} {G:List RdD} {mw:List (Int×WsS)} {mi:List (Int×Int)} {ms:List (Int×SnP)} {n tick:Int} {gx gg bw bi bs:Nat} {a0 a1 ha:Option Addr} {c0 c1 hc:Nat}
  (O:Own B w (DkL gd gx gg bw bi bs n tick com X S hs G mw mi (SeenO bs ms) a0 c0 a1 c1 ha hc)) (j:DkJ ser m com wt X S hs G mw mi ms n tick) (hm:m<60) {mn mt mr mv:Int} (hmn:In64 mn) (hmt:In64 mt) (hmr:In64 mr) (hmv:In64 mv) :
  Calls Tryz.prog 7 #[.pointer (some ⟨gd,0,none⟩),.agg #[.int .i64 1,.int .i64 mn,.int .i64 mt,.int .i64 mr,.int .i64 mv]] w (RetDk ser (m+1) gd B w):=by
 have HJ:=Box.mk j
 have O1:=Box.mk (O.new [.int .i64 1,.int .i64 mn,.int .i64 mt,.int .i64 mr,.int .i64 mv] 38)
 have B1:=Box.mk ((Below.refl B w).alloc O.1 (.cells #[.int .i64 1,.int .i64 mn,.int .i64 mt,.int .i64 mr,.int .i64 mv] 38))
 have HMN:=Box.mk hmn
 have HMM:=Box.mk (And.intro hmt (And.intro hmr hmv))
 have hm100:X.all.length≤100:=j.x.ok.len
 have hna2:X.act.length≤X.all.length:=by unfold TxP.all;rw [List.length_append,List.length_map];omega
 clear O j hmn hmt hmr hmv
 go_enter Tryz.func7,Tryz.ntmps7
 go_upto_region 1 with fail
 generalize w.heap.size=gm at *
 generalize (w.alloc (.cells #[.int .i64 1,.int .i64 mn,.int .i64 mt,.int .i64 mr,.int .i64 mv] 38))=w1 at *
 have y0:w1.cell? ⟨gd,0,none⟩=some (.pointer (some ⟨gx,0,none⟩)):=(O1.out.blk 1 rfl).1.cellOf (i:=0) rfl
 go_wp2_with fail
 refine (active_any (Own.txs O1.out) HJ.out.x.ok).mono ?_
 rintro e w2 ⟨hb,aa,ac,rfl,hrow⟩
 obtain ⟨na,hna⟩:∃na,(X.act.map (·.1)).length=na:=⟨_,rfl⟩
 rw [hna] at hrow ⊢
 have O2:=Box.mk (O1.out.newRow hb hrow (Nat.le_refl _))
 have B2:=Box.mk (B1.out.trans (hb.mono O1.out.1))
 have HNA:=Box.mk hna
 have hnl:na≤100:=by rw [← hna,List.length_map];omega
 clear hrow hb y0 O1 B1 hna hna2 hm100
 have y1:w2.cell? ⟨gm,1,none⟩=some (.int .i64 mn):=(O2.out.blk 10 rfl).1.cellOf (i:=1) rfl
 go_upto_if 23 with fail
 go_cut [6] from 23 (fun s6 wx=>∃tx:Int,s6=.int .i64 tx∧Box (In64 tx∧Own B wx (DkL gd gx gg bw bi bs n tick com X S hs G mw mi (SeenO bs ms) a0 c0 a1 c1 ha hc++[BlkP gm 38 [.int .i64 1,.int .i64 mn,.int .i64 mt,.int .i64 mr,.int .i64 mv]])∧Below B w wx))
 case first =>
  by_cases h0:0<na
  ·obtain ⟨ix,hix⟩:∃ix:Nat,mn % (na:Int)=(ix:Int):=⟨(mn % (na:Int)).toNat,(Int.toNat_of_nonneg (Int.emod_nonneg _ (by omega))).symm⟩
   have hixl:ix<na:=by have:=Int.emod_lt_of_pos mn (show (0:Int)<na by omega);omega
   have HL:=Box.mk (show Calls Tryz.prog 26 #[.int .i64 mn,.int .i64 (na:Int)] w2 (RetV (.int .i64 (ix:Int)) w2) from by have h1:=least_any HMN.out (show (0:Int)<na by omega) (by omega) w2;rw [hix] at h1;exact h1)
   clear hix
   go_wp2_with fail
   refine HL.out.mono ?_
   rintro e w3 ⟨rfl,hb3⟩
   have O3:=Box.mk (O2.out.below hb3)
   have B3:=Box.mk (B2.out.trans (hb3.mono O2.out.1))
   clear hb3 O2 B2 y1 HL
   obtain ⟨ob,ooff,haa,hco⟩:=(Rd.ofOwn (O3.out.row 11 rfl)).intAtD ix hixl
   obtain ⟨tx,htx⟩:∃tx,(X.act.map (·.1)).getD ix 0=tx:=⟨_,rfl⟩
   rw [htx] at hco
   have HT:=Box.mk (show In64 tx from by
    have h1:tx∈X.act.map (·.1):=by rw [← htx,List.getD_eq_getElem?_getD,List.getElem?_eq_getElem (by rw [HNA.out];exact hixl)];exact List.getElem_mem _
    obtain ⟨q,hq,rfl⟩:=List.mem_map.1 h1
    exact HJ.out.x.ok.i64 q hq)
   clear htx
   subst haa
   go_wp2_with fail
   go_meet
   case rel=>exact ⟨tx,rfl,⟨HT.out,O3.out.drop 11,B3.out⟩⟩
  ·obtain rfl:na=0:=by omega
   go_wp2_with fail
   go_meet
   case rel=>exact ⟨0,rfl,⟨by unfold In64;omega,O2.out.drop 11,B2.out⟩⟩
 case rest =>
  obtain ⟨tx,rfl,HC⟩:=hcut
  clear O2 B2 y1 HNA hnl
  have O3:=Box.mk HC.out.2.1
  have B3:=Box.mk HC.out.2.2
  have HTX:=Box.mk HC.out.1
  clear HC
  have m0:wc.cell? ⟨gm,0,none⟩=some (.int .i64 1):=(O3.out.blk 10 rfl).1.cellOf (i:=0) rfl
  have y0:wc.cell? ⟨gd,0,none⟩=some (.pointer (some ⟨gx,0,none⟩)):=(O3.out.blk 1 rfl).1.cellOf (i:=0) rfl
  cases hf:X.find tx with
  | none =>
   have HF:=Box.mk hf
   clear hf
   go_wp2_with fail
   refine (commit_no (show Own B wc (TxsO gx X::_) from O3.out) HTX.out HF.out).mono ?_
   rintro e w4 ⟨rfl,hO4,hb4⟩
   have O4:=Box.mk (And.intro hO4 (B3.out.trans hb4))
   clear hO4 hb4 O3 B3 y0 m0
   have y9:w4.cell? ⟨gd,9,none⟩=some (.map (some bs)):=(O4.out.1.blk 1 rfl).1.cellOf (i:=9) rfl
   have HND:=Box.mk ((O4.out.1.map 9 rfl).1.nodup)
   obtain ⟨w8,hrun,hO8,hb8,_⟩:=O4.out.1.delMap K_int kI_inj und_seen 9 rfl (keyI HTX.out) 0
   simp only [kI] at hrun
   have O8:=Box.mk (And.intro hO8 (O4.out.2.trans hb8))
   clear hO8 hb8 O4
   go_wp2_with fail
   go_ret
   exact ⟨rfl,O8.out.2,com,wt,X,S,hs,G,mw,mi,delA ms tx,n,tick,gx,gg,bw,bi,bs,a0,c0,a1,c1,ha,hc,O8.out.1.drop 10,HJ.out.delS HND.out tx⟩
  | some t =>
   have HF:=Box.mk hf
   have HMT:=Box.mk (TxP.find_mem hf)
   clear hf
   have HDN:=Box.mk (show t.done=false from HJ.out.x.act _ HMT.out.1)
   go_wp2_with fail
   refine (commit_any (show Own B wc (TxsO gx X::_) from O3.out) HJ.out.x.ok HTX.out HF.out HDN.out (fun h hh=>HJ.out.x.hok (by rw [HJ.out.d.last];have:=HJ.out.b1;omega) hh)).mono ?_
   rintro e w4 ⟨hb4,hr4⟩
   rcases hr4 with ⟨er,k,ka,kc,her,rfl,hk1,hk2,hO4⟩ | ⟨s,k,fa,fc,ka,kc,wa,wc9,h,i,rfl,hh,hi,hit,had,hk1,hk2,hO4⟩
   ·have O4:=Box.mk (And.intro hO4 (B3.out.trans hb4))
    have HK:=Box.mk (And.intro hk1 hk2)
    have he1:(er != 0)=true:=by simp [her]
    have he2:(er==0)=false:=by simp [her]
    clear hO4 hb4 hk1 hk2 O3 B3 y0 m0
    have y9:w4.cell? ⟨gd,9,none⟩=some (.map (some bs)):=(O4.out.1.blk 1 rfl).1.cellOf (i:=9) rfl
    have HND:=Box.mk ((O4.out.1.map 9 rfl).1.nodup)
    obtain ⟨w8,hrun,hO8,hb8,_⟩:=O4.out.1.delMap K_int kI_inj und_seen 9 rfl (keyI HTX.out) 0
    simp only [kI] at hrun
    have O8:=Box.mk (And.intro hO8 (O4.out.2.trans hb8))
    clear hO8 hb8 O4
    go_wp2_with fail
    go_ret
    exact ⟨rfl,O8.out.2,com,wt,(X.drop tx).less k ka kc,S,hs,G,mw,mi,delA ms tx,n,tick,gx,gg,bw,bi,bs,a0,c0,a1,c1,ha,hc,O8.out.1.drop 10,HJ.out.drop HND.out tx HK.out.1 HK.out.2 ka kc⟩
   ·have HW:=Box.mk (And.intro hh (And.intro hi (And.intro hit (And.intro had (And.intro hk1 hk2)))))
    have hO4:=Own.immSecond hO4 8 rfl
    have O4:=Box.mk (And.intro (show Own B w4 (DkL gd gx gg bw bi bs n tick com ((X.fin tx t s fa fc).less k ka kc) S hs (⟨wa,(wsOf t.log).length,wc9,4,recC WrP.enc (wsOf t.log)⟩::G) mw mi (SeenO bs ms) a0 c0 a1 c1 ha hc++[BlkP gm 38 [.int .i64 1,.int .i64 mn,.int .i64 mt,.int .i64 mr,.int .i64 mv]]) from hO4) (B3.out.trans hb4))
    clear hO4 hb4 hh hi hit had hk1 hk2 O3 B3 y0 m0
    have y9:w4.cell? ⟨gd,9,none⟩=some (.map (some bs)):=(O4.out.1.blk 1 rfl).1.cellOf (i:=9) rfl
    have HND:=Box.mk ((O4.out.1.map 9 rfl).1.nodup)
    obtain ⟨w8,hrun,hO8,hb8,_⟩:=O4.out.1.delMap K_int kI_inj und_seen 9 rfl (keyI HTX.out) 0
    simp only [kI] at hrun
    have O8:=Box.mk (And.intro hO8 (O4.out.2.trans hb8))
    clear hO8 hb8 O4
    obtain ⟨wl,hwl⟩:∃wl,wsOf t.log=wl:=⟨_,rfl⟩
    by_cases hw0:wsOf t.log=[]
    ·have HW0:=Box.mk hw0
     have hwz:(wsOf t.log).length=0:=by rw [hw0];rfl
     clear hw0 hwl
     go_wp2_with fail
     go_ret
     have hj:=HJ.out.finR HND.out HF.out HW.out.1 HW.out.2.1 HW.out.2.2.1 HW.out.2.2.2.1 HW0.out HW.out.2.2.2.2.1 HW.out.2.2.2.2.2 fa ka fc kc
     have hj2:=hj.moreG (G':=(⟨wa,(wsOf t.log).length,wc9,4,recC WrP.enc (wsOf t.log)⟩::G)) fun r hr=>List.mem_cons_of_mem _ hr
     exact ⟨rfl,O8.out.2,com,wt,((X.fin tx t s fa fc).less k ka kc),S,hs,(⟨wa,(wsOf t.log).length,wc9,4,recC WrP.enc (wsOf t.log)⟩::G),mw,mi,delA ms tx,n,tick,gx,gg,bw,bi,bs,a0,c0,a1,c1,ha,hc,O8.out.1.drop 10,hj2⟩
    ·have HW0:=Box.mk hw0
     have hwz:0<(wsOf t.log).length:=List.length_pos_iff.2 hw0
     have HN:=Box.mk (HJ.out.finW hm HND.out HF.out HW.out.1 HW.out.2.1 HW.out.2.2.1 HW.out.2.2.2.1 HW0.out HW.out.2.2.2.2.1 HW.out.2.2.2.2.2 fa ka fc kc wa wc9)
     have HAK:=Box.mk (HJ.out.ask (by omega) HF.out HW0.out)
     have hn0:=HJ.out.n0
     have hw1:IntKind.i64.wrap (n+1)=n+1:=IntWalk.i64_in _ (by omega)
     have hhl:hs.length≤200:=by have:=HJ.out.b2;omega
     have HHL:=Box.mk hhl
     have HWL:=Box.mk (wsOf_len t.log)
     obtain ⟨wn,hwn⟩:∃wn,(wsOf t.log).length=wn:=⟨_,rfl⟩
     have HWN:=Box.mk hwn
     rw [hwn] at hwz HWL ⊢
     clear hw0 hwl hwn hn0
     have y6:w8.cell? ⟨gd,6,none⟩=some (.int .i64 n):=(O8.out.1.blk 1 rfl).1.cellOf (i:=6) rfl
     have HST:=Box.mk (O8.out.1.setRow 1 rfl (splice (dkC gx gg ⟨a0,(verT (cwOf com) 0).length,c0⟩ ⟨a1,(verT (cwOf com) 1).length,c1⟩ bw bi n tick ⟨ha,hs.length,hc⟩ bs) 6 [.int .i64 (n+1)]))
     go_upto_region 22 with ((with_reducible show wpList _ _ _ _ _ _);refine wpList_store_part rfl 3 (.tmp 146) (.tmp 144) rfl rfl (size:=1) (off:=6) (by kernel_rfl) (O8.out.1.blk 1 rfl).1 (by simp [dkC]) rfl (cs:=[.int .i64 (n+1)]) rfl rfl (by simp [Value.oneCell']) ?_)
     refine wp_own (show Own B _ (DkL gd gx gg bw bi bs (n+1) tick com ((X.fin tx t s fa fc).less k ka kc) S hs (⟨wa,(wsOf t.log).length,wc9,4,recC WrP.enc (wsOf t.log)⟩::G) mw mi (SeenO bs (delA ms tx)) a0 c0 a1 c1 ha hc++[BlkP gm 38 [.int .i64 1,.int .i64 mn,.int .i64 mt,.int .i64 mr,.int .i64 mv]]) from HST.out.1) (O8.out.2.trans HST.out.2) (fun w5 hO5 hb5=>?_)
     have O5:=Box.mk (And.intro hO5 hb5)
     clear HST O8 y6 y9 hrun hO5 hb5
     have HF0:=Box.mk (And.intro O5.out.1.drew O5.out.2.drew)
     have HS0:(Own B w5.drew [BlkP gd 36 (dkC gx gg ⟨a0,(verT (cwOf com) 0).length,c0⟩ ⟨a1,(verT (cwOf com) 1).length,c1⟩ bw bi (n+1) tick ⟨ha,hs.length,hc⟩ bs)]∧Below B w w5.drew):=⟨HF0.out.1.only 1 rfl,HF0.out.2⟩
     clear O5
     refine wp_region_held_drew (S:=fun w'=>(Own B w' [BlkP gd 36 (dkC gx gg ⟨a0,(verT (cwOf com) 0).length,c0⟩ ⟨a1,(verT (cwOf com) 1).length,c1⟩ bw bi (n+1) tick ⟨ha,hs.length,hc⟩ bs)]∧Below B w w')) (by kernel_rfl) HS0 (fun _=>?_)
     generalize w5.drew=wd5 at *
     refine tw 0 rfl HS0 ?_
     conv=>arg 8;simp [go_sem]
     refine tw 1 rfl HS0 ?_
     conv=>arg 8;simp [go_sem]
     refine tw 2 rfl HS0 ?_
     conv=>arg 8;simp [go_sem]
     refine tv 3 rfl (fun w' hS=>by have e:w'.cell? ⟨gd,5,none⟩=some (.map (some bi)):=(hS.1.blk 0 rfl).1.cellOf (i:=5) rfl;go_simp;all_goals with_reducible rfl) HS0 ?_
     conv=>arg 8;simp [go_sem]
     refine tw 4 rfl HS0 ?_
     conv=>arg 8;simp [go_sem]
     refine tw 5 rfl HS0 ?_
     conv=>arg 8;simp [go_sem]
     refine tw 6 rfl HS0 ?_
     conv=>arg 8;simp [go_sem]
     refine tw 7 rfl HS0 ?_
     conv=>arg 8;simp [go_sem]
     refine tv 8 rfl (fun w' hS=>by have e:w'.cell? ⟨gd,4,none⟩=some (.map (some bw)):=(hS.1.blk 0 rfl).1.cellOf (i:=4) rfl;go_simp;all_goals with_reducible rfl) HS0 ?_
     conv=>arg 8;simp [go_sem]
     refine tw 9 rfl HS0 ?_
     conv=>arg 8;simp [go_sem]
     refine tw 10 rfl HS0 ?_
     conv=>arg 8;simp [go_sem]
     refine tw 11 rfl HS0 ?_
     conv=>arg 8;simp [go_sem]
     refine tw 12 rfl HS0 ?_
     conv=>arg 8;simp [go_sem]
     refine tv 13 rfl (fun w' hS=>by have e:w'.cell? ⟨gd,6,none⟩=some (.int .i64 (n+1)):=(hS.1.blk 0 rfl).1.cellOf (i:=6) rfl;go_simp;all_goals with_reducible rfl) HS0 ?_
     conv=>arg 8;simp [go_sem]
     refine tw 14 rfl HS0 ?_
     conv=>arg 8;simp [go_sem]
     refine ar 15 rfl fun K' hK'=>?_
     obtain ⟨st1,w9,hrun,hO9,hb9⟩:=HF0.out.1.entryMap K_int kI_inj und_mii (z:=0) z_int 7 rfl (keyI HTX.out)
     try simp only [kI] at hrun
     have HF1:=Box.mk (And.intro hO9 (HF0.out.2.trans hb9))
     clear hO9 hb9
     refine oper_entry (by rfl) _ _ _ rfl rfl rfl hrun ?_
     clear hrun
     have HT2:=(show Own B _ [BlkP gd 36 (dkC gx gg ⟨a0,(verT (cwOf com) 0).length,c0⟩ ⟨a1,(verT (cwOf com) 1).length,c1⟩ bw bi (n+1) tick ⟨ha,hs.length,hc⟩ bs)]∧Below B w _ from And.intro (HF1.out.1.only 1 rfl) HF1.out.2)
     refine hK'.out _ _ HT2 (fun _=>?_)
     clear hK' K'
     conv=>arg 8;simp [go_sem]
     refine tw 16 rfl HT2 ?_
     conv=>arg 8;simp [go_sem]
     refine ar 17 rfl fun K' hK'=>?_
     obtain ⟨w9,hrun,hO9,hb9⟩:=HF1.out.1.storeE 7 rfl 30 (n+1)
     try simp only [kI,WsS.v,HWN.out] at hrun
     have HF3:=Box.mk (And.intro hO9 (HF1.out.2.trans hb9))
     clear hO9 hb9
     refine oper_storeE (by rfl) _ _ _ _ rfl rfl rfl rfl hrun ?_
     clear hrun
     have HT4:=(show Own B _ [BlkP gd 36 (dkC gx gg ⟨a0,(verT (cwOf com) 0).length,c0⟩ ⟨a1,(verT (cwOf com) 1).length,c1⟩ bw bi (n+1) tick ⟨ha,hs.length,hc⟩ bs)]∧Below B w _ from And.intro (HF3.out.1.only 1 rfl) HF3.out.2)
     refine hK'.out _ _ HT4 (fun _=>?_)
     clear hK' K'
     conv=>arg 8;simp [go_sem]
     refine ar 18 rfl fun K' hK'=>?_
     obtain ⟨st2,w9,hrun,hO9,hb9⟩:=HF3.out.1.entryMap K_int kI_inj und_miw (z:=(⟨none,0,[]⟩:WsS)) z_wrs 6 rfl (keyI HTX.out)
     try simp only [kI] at hrun
     have HF5:=Box.mk (And.intro hO9 (HF3.out.2.trans hb9))
     clear hO9 hb9
     refine oper_entry (by rfl) _ _ _ rfl rfl rfl hrun ?_
     clear hrun
     have HT6:=(show Own B _ [BlkP gd 36 (dkC gx gg ⟨a0,(verT (cwOf com) 0).length,c0⟩ ⟨a1,(verT (cwOf com) 1).length,c1⟩ bw bi (n+1) tick ⟨ha,hs.length,hc⟩ bs)]∧Below B w _ from And.intro (HF5.out.1.only 1 rfl) HF5.out.2)
     refine hK'.out _ _ HT6 (fun _=>?_)
     clear hK' K'
     conv=>arg 8;simp [go_sem]
     refine tw 19 rfl HT6 ?_
     conv=>arg 8;simp [go_sem]
     refine ar 20 rfl fun K' hK'=>?_
     obtain ⟨w9,hrun,hO9,hb9⟩:=HF5.out.1.storeE 6 rfl 29 (⟨wa,wc9,wsOf t.log⟩:WsS)
     try simp only [kI,WsS.v,HWN.out] at hrun
     have HF7:=Box.mk (And.intro hO9 (HF5.out.2.trans hb9))
     clear hO9 hb9
     refine oper_storeE (by rfl) _ _ _ _ rfl rfl rfl rfl hrun ?_
     clear hrun
     have HT8:=(show Own B _ [BlkP gd 36 (dkC gx gg ⟨a0,(verT (cwOf com) 0).length,c0⟩ ⟨a1,(verT (cwOf com) 1).length,c1⟩ bw bi (n+1) tick ⟨ha,hs.length,hc⟩ bs)]∧Below B w _ from And.intro (HF7.out.1.only 1 rfl) HF7.out.2)
     refine hK'.out _ _ HT8 (fun _=>?_)
     clear hK' K'
     conv=>arg 8;simp [go_sem]
     refine ⟨by kernel_rfl,?_⟩
     conv =>
      arg 5
      simp [go_sem]
     go_upto_region 23 with fail
     refine wp_own (show Own B _ (DkL gd gx gg bw bi bs (n+1) tick com ((X.fin tx t s fa fc).less k ka kc) S hs (⟨wa,(wsOf t.log).length,wc9,4,recC WrP.enc (wsOf t.log)⟩::G) (putA mw tx ⟨wa,wc9,wsOf t.log⟩) (putA mi tx (n+1)) (SeenO bs (delA ms tx)) a0 c0 a1 c1 ha hc++[BlkP gm 38 [.int .i64 1,.int .i64 mn,.int .i64 mt,.int .i64 mr,.int .i64 mv]]) from HF7.out.1) HF7.out.2 (fun w6 hO6 hb6=>?_)
     have O6:=Box.mk (And.intro hO6 hb6)
     clear hO6 hb6
     have HF0:=Box.mk (And.intro O6.out.1.drew O6.out.2.drew)
     have HS0:((∃hv:Sl,Own B w6.drew [BlkP gd 36 (dkC gx gg ⟨a0,(verT (cwOf com) 0).length,c0⟩ ⟨a1,(verT (cwOf com) 1).length,c1⟩ bw bi (n+1) tick hv bs)])∧Below B w w6.drew):=⟨⟨⟨ha,hs.length,hc⟩,HF0.out.1.only 1 rfl⟩,HF0.out.2⟩
     clear O6
     refine wp_region_held_drew (S:=fun w'=>((∃hv:Sl,Own B w' [BlkP gd 36 (dkC gx gg ⟨a0,(verT (cwOf com) 0).length,c0⟩ ⟨a1,(verT (cwOf com) 1).length,c1⟩ bw bi (n+1) tick hv bs)])∧Below B w w')) (by kernel_rfl) HS0 (fun _=>?_)
     generalize w6.drew=wd6 at *
     refine tw 0 rfl HS0 ?_
     conv=>arg 8;simp [go_sem]
     refine tw 1 rfl HS0 ?_
     conv=>arg 8;simp [go_sem]
     refine tw 2 rfl HS0 ?_
     conv=>arg 8;simp [go_sem]
     refine tw 3 rfl HS0 ?_
     conv=>arg 8;simp [go_sem]
     refine tw 5 rfl HS0 ?_
     conv=>arg 8;simp [go_sem]
     refine tw 6 rfl HS0 ?_
     conv=>arg 8;simp [go_sem]
     refine tw 7 rfl HS0 ?_
     conv=>arg 8;simp [go_sem]
     refine tv 8 rfl (fun w' hS=>by obtain ⟨⟨hv,hO⟩,_⟩:=hS;have e:w'.cell? ⟨gd,6,none⟩=some (.int .i64 (n+1)):=(hO.blk 0 rfl).1.cellOf (i:=6) rfl;clear hO;go_simp;all_goals with_reducible rfl) HS0 ?_
     conv=>arg 8;simp [go_sem]
     refine tw 9 rfl HS0 ?_
     conv=>arg 8;simp [go_sem]
     refine tw 10 rfl HS0 ?_
     conv=>arg 8;simp [go_sem]
     refine wpAnyH_ready (rs:=[4,11]) (by kernel_rfl) (by simp) ?_
     refine AllReadyH.cons rfl (fun K' hK'=>?_) (AllReadyH.cons rfl (fun K' hK'=>?_) AllReadyH.nil)
     ·refine oper_load1 (by rfl) 34 (.tmp 169) rfl (by kernel_rfl) rfl (v:=.slice ha hs.length hc) ((HF0.out.1.blk 1 rfl).1.cellOf (i:=8) rfl) ?_
      have HT9:=HS0
      refine hK'.out _ _ HT9 (fun _=>?_)
      clear hK' K'
      conv=>arg 8;simp [go_sem]
      refine ar 11 rfl fun K' hK'=>?_
      refine oper_litA (by rfl) 34 (.tmp 176) rfl sl_hp (cs:=[.int .i64 1,.int .i64 (n+1),.int .i64 0,.slice wa wn wc9,.slice none 0 0]) rfl rfl (by omega) (by omega) ?_
      have HF10:=Box.mk (And.intro (HF0.out.1.alloc (.cells #[.int .i64 1,.int .i64 (n+1),.int .i64 0,.slice wa wn wc9,.slice none 0 0] 84)) (HF0.out.2.alloc HF0.out.1.1 (.cells #[.int .i64 1,.int .i64 (n+1),.int .i64 0,.slice wa wn wc9,.slice none 0 0] 84)))
      have HT11:=(show ((∃hv:Sl,Own B _ [BlkP gd 36 (dkC gx gg ⟨a0,(verT (cwOf com) 0).length,c0⟩ ⟨a1,(verT (cwOf com) 1).length,c1⟩ bw bi (n+1) tick hv bs)])∧Below B w _) from let ⟨⟨hv,h1⟩,h2⟩:=HT9;⟨⟨hv,h1.alloc (.cells #[.int .i64 1,.int .i64 (n+1),.int .i64 0,.slice wa wn wc9,.slice none 0 0] 84)⟩,h2.alloc h1.1 (.cells #[.int .i64 1,.int .i64 (n+1),.int .i64 0,.slice wa wn wc9,.slice none 0 0] 84)⟩)
      refine hK'.out _ _ HT11 (fun _=>?_)
      clear hK' K'
      conv=>arg 8;simp [go_sem]
      refine ar 12 rfl fun K' hK'=>?_
      refine oper_append_O (by rfl) (.tmp 170) (.tmp 177) 34 34 rfl sl_hp (.inl sl_hp.ht) HF10.out.1 4 rfl rfl rfl (Src.lone _ [.int .i64 1,.int .i64 (n+1),.int .i64 0,.slice wa wn wc9,.slice none 0 0] _ rfl (by simp [Value.oneCell'])) (by have:=HHL.out;omega) (by have:=HHL.out;unfold maxLen;omega) ?_
      intro a9 c9 w9 hO9 hb9
      have O9:=Box.mk (And.intro hO9 (HF10.out.2.trans hb9))
      clear hO9 hb9
      have HT12:=(show ((∃hv:Sl,Own B _ [BlkP gd 36 (dkC gx gg ⟨a0,(verT (cwOf com) 0).length,c0⟩ ⟨a1,(verT (cwOf com) 1).length,c1⟩ bw bi (n+1) tick hv bs)])∧Below B w _) from ⟨⟨⟨ha,hs.length,hc⟩,O9.out.1.only 1 rfl⟩,O9.out.2⟩)
      refine hK'.out _ _ HT12 (fun _=>?_)
      clear hK' K'
      conv=>arg 8;simp [go_sem]
      refine tw 13 rfl HT12 ?_
      conv=>arg 8;simp [go_sem]
      refine tw 14 rfl HT12 ?_
      conv=>arg 8;simp [go_sem]
      refine ar 15 rfl fun K' hK'=>?_
      have HF9:=Box.mk (O9.out.1.setRow 1 rfl (splice (dkC gx gg ⟨a0,(verT (cwOf com) 0).length,c0⟩ ⟨a1,(verT (cwOf com) 1).length,c1⟩ bw bi (n+1) tick ⟨ha,hs.length,hc⟩ bs) 8 [.slice a9 (hs.length+1) c9]))
      refine oper_store_part (by rfl) 34 (.tmp 180) (.tmp 178) rfl rfl (size:=1) (off:=8) (by kernel_rfl) (O9.out.1.blk 1 rfl).1 (by simp [dkC]) rfl (cs:=[.slice a9 (hs.length+1) c9]) rfl rfl (by simp [Value.oneCell']) ?_
      have HT13:=(show ((∃hv:Sl,Own B _ [BlkP gd 36 (dkC gx gg ⟨a0,(verT (cwOf com) 0).length,c0⟩ ⟨a1,(verT (cwOf com) 1).length,c1⟩ bw bi (n+1) tick hv bs)])∧Below B w _) from ⟨⟨⟨a9,hs.length+1,c9⟩,HF9.out.1.only 1 rfl⟩,O9.out.2.trans HF9.out.2⟩)
      refine hK'.out _ _ HT13 (fun _=>?_)
      clear hK' K'
      conv=>arg 8;simp [go_sem]
      refine ⟨by kernel_rfl,?_⟩
      conv =>
       arg 5
       simp [go_sem]
      have hhx:(hs++[(⟨1,n+1,0,wa,wc9,wsOf t.log,none,0,[]⟩:HpP)]).length=hs.length+1:=by rw [List.length_append];rfl
      have hrx:recC HpP.enc (hs++[(⟨1,n+1,0,wa,wc9,wsOf t.log,none,0,[]⟩:HpP)])=recC HpP.enc hs++[.int .i64 1,.int .i64 (n+1),.int .i64 0,.slice wa wn wc9,.slice none 0 0]:=by rw [recC_append];simp [recC,HpP.enc,HWN.out]
      obtain ⟨hx,hhx2⟩:∃hx,hs++[(⟨1,n+1,0,wa,wc9,wsOf t.log,none,0,[]⟩:HpP)]=hx:=⟨_,rfl⟩
      rw [hhx2] at hhx hrx
      go_upto_region 24 with fail
      refine wp_own (show Own B _ (DkL gd gx gg bw bi bs (n+1) tick com ((X.fin tx t s fa fc).less k ka kc) S hx (⟨wa,(wsOf t.log).length,wc9,4,recC WrP.enc (wsOf t.log)⟩::G) (putA mw tx ⟨wa,wc9,wsOf t.log⟩) (putA mi tx (n+1)) (SeenO bs (delA ms tx)) a0 c0 a1 c1 a9 c9++[BlkP gm 38 [.int .i64 1,.int .i64 mn,.int .i64 mt,.int .i64 mr,.int .i64 mv]]) from by simp only [DkL,DkL2];rw [hhx,hrx];exact HF9.out.1) (O9.out.2.trans HF9.out.2) (fun w7 hO7 hb7=>?_)
      have O7:=Box.mk (And.intro hO7 hb7)
      have HHX:=Box.mk hhx2
      clear hhx hrx hhx2 HF9 O9 hO7 hb7
      have HF0:=Box.mk (And.intro O7.out.1.drew O7.out.2.drew)
      have HS0:(Own B w7.drew [BlkP gd 36 (dkC gx gg ⟨a0,(verT (cwOf com) 0).length,c0⟩ ⟨a1,(verT (cwOf com) 1).length,c1⟩ bw bi (n+1) tick ⟨a9,hx.length,c9⟩ bs)]∧Below B w w7.drew):=⟨HF0.out.1.only 1 rfl,HF0.out.2⟩
      clear O7
      refine wp_region_held_drew (S:=fun w'=>(Own B w' [BlkP gd 36 (dkC gx gg ⟨a0,(verT (cwOf com) 0).length,c0⟩ ⟨a1,(verT (cwOf com) 1).length,c1⟩ bw bi (n+1) tick ⟨a9,hx.length,c9⟩ bs)]∧Below B w w')) (by kernel_rfl) HS0 (fun _=>?_)
      generalize w7.drew=wd7 at *
      refine tw 0 rfl HS0 ?_
      conv=>arg 8;simp [go_sem]
      refine tw 1 rfl HS0 ?_
      conv=>arg 8;simp [go_sem]
      refine tw 2 rfl HS0 ?_
      conv=>arg 8;simp [go_sem]
      refine tv 3 rfl (fun w' hS=>by have e:w'.cell? ⟨gd,1,none⟩=some (.pointer (some ⟨gg,0,none⟩)):=(hS.1.blk 0 rfl).1.cellOf (i:=1) rfl;go_simp;all_goals with_reducible rfl) HS0 ?_
      conv=>arg 8;simp [go_sem]
      refine tw 4 rfl HS0 ?_
      conv=>arg 8;simp [go_sem]
      refine tw 5 rfl HS0 ?_
      conv=>arg 8;simp [go_sem]
      refine tw 6 rfl HS0 ?_
      conv=>arg 8;simp [go_sem]
      refine tw 7 rfl HS0 ?_
      conv=>arg 8;simp [go_sem]
      refine tw 8 rfl HS0 ?_
      conv=>arg 8;simp [go_sem]
      refine tw 9 rfl HS0 ?_
      conv=>arg 8;simp [go_sem]
      refine tv 10 rfl (fun w' hS=>by have e:w'.cell? ⟨gd,7,none⟩=some (.int .i64 tick):=(hS.1.blk 0 rfl).1.cellOf (i:=7) rfl;go_simp;all_goals with_reducible rfl) HS0 ?_
      conv=>arg 8;simp [go_sem]
      refine ar 11 rfl fun K' hK'=>?_
      refine oper_call (by rfl) 31 [.tmp 184,.tmp 185,.tmp 187,.tmp 191] #[27,3,3,3] rfl (vs:=[.pointer (some ⟨gg,0,none⟩),.int .i64 tx,.int .i64 (wn:Int),.int .i64 tick]) rfl Tryz.func31 nm_ask bd_ask (Gr.ask_own HF0.out.1 5 rfl tx wn tick HTX.out) ?_
      rintro e w9 ⟨rfl,hO9,hb9⟩
      rw [← HWN.out] at hO9 ⊢
      rw [HAK.out] at hO9 ⊢
      have HF14:=Box.mk (And.intro hO9 (HF0.out.2.trans hb9))
      clear hO9 hb9
      have HT15:=(show Own B _ [BlkP gd 36 (dkC gx gg ⟨a0,(verT (cwOf com) 0).length,c0⟩ ⟨a1,(verT (cwOf com) 1).length,c1⟩ bw bi (n+1) tick ⟨a9,hx.length,c9⟩ bs)]∧Below B w _ from And.intro (HF14.out.1.only 1 rfl) HF14.out.2)
      refine ⟨_,rfl,hK'.out _ _ HT15 (fun _=>?_)⟩
      clear hK' K'
      conv=>arg 8;simp [go_sem]
      refine tk 12 (v:=.bool true) rfl (yieldsIf_val (by rfl) (fun w' hS=>by go_simp)) (HT15) ?_
      conv=>arg 8;simp [go_sem]
      refine tw 13 rfl HT15 ?_
      conv=>arg 8;simp [go_sem]
      refine tw 14 rfl HT15 ?_
      conv=>arg 8;simp [go_sem]
      refine tw 15 rfl HT15 ?_
      conv=>arg 8;simp [go_sem]
      refine tw 16 rfl HT15 ?_
      conv=>arg 8;simp [go_sem]
      refine tw 17 rfl HT15 ?_
      conv=>arg 8;simp [go_sem]
      refine tv 18 rfl (fun w' hS=>by have e:w'.cell? ⟨gd,1,none⟩=some (.pointer (some ⟨gg,0,none⟩)):=(hS.1.blk 0 rfl).1.cellOf (i:=1) rfl;go_simp;all_goals with_reducible rfl) HT15 ?_
      conv=>arg 8;simp [go_sem]
      refine tw 20 rfl HT15 ?_
      conv=>arg 8;simp [go_sem]
      refine tw 21 rfl HT15 ?_
      conv=>arg 8;simp [go_sem]
      refine tw 22 rfl HT15 ?_
      conv=>arg 8;simp [go_sem]
      refine tv 23 rfl (fun w' hS=>by have e:w'.cell? ⟨gd,1,none⟩=some (.pointer (some ⟨gg,0,none⟩)):=(hS.1.blk 0 rfl).1.cellOf (i:=1) rfl;go_simp;all_goals with_reducible rfl) HT15 ?_
      conv=>arg 8;simp [go_sem]
      refine ar 19 rfl fun K' hK'=>?_
      refine oper_call (by rfl) 32 [.tmp 199] #[27] rfl (vs:=[.pointer (some ⟨gg,0,none⟩)]) rfl Tryz.func32 nm_next bd_next (Gr.next_own HF14.out.1 5 rfl) ?_
      rintro e w9 ⟨rfl,rfl⟩
      have HT16:=HT15
      refine ⟨_,rfl,hK'.out _ _ HT16 (fun _=>?_)⟩
      clear hK' K'
      conv=>arg 8;simp [go_sem]
      refine ar 24 rfl fun K' hK'=>?_
      refine oper_call (by rfl) 33 [.tmp 204] #[27] rfl (vs:=[.pointer (some ⟨gg,0,none⟩)]) rfl Tryz.func33 nm_wait bd_wait (Gr.waiting_own HF14.out.1 5 rfl) ?_
      rintro e w9 ⟨qa,qc,rfl,hO9,hb9⟩
      have HF17:=Box.mk (And.intro hO9 (HF14.out.2.trans hb9))
      clear hO9 hb9
      have HT18:=(show Own B _ [BlkP gd 36 (dkC gx gg ⟨a0,(verT (cwOf com) 0).length,c0⟩ ⟨a1,(verT (cwOf com) 1).length,c1⟩ bw bi (n+1) tick ⟨a9,hx.length,c9⟩ bs)]∧Below B w _ from And.intro (HF17.out.1.only 1 rfl) HF17.out.2)
      refine ⟨_,rfl,hK'.out _ _ HT18 (fun _=>?_)⟩
      clear hK' K'
      conv=>arg 8;simp [go_sem]
      refine tw 25 rfl HT18 ?_
      conv=>arg 8;simp [go_sem]
      refine tw 26 rfl HT18 ?_
      conv=>arg 8;simp [go_sem]
      refine tw 27 rfl HT18 ?_
      conv=>arg 8;simp [go_sem]
      refine tw 28 rfl HT18 ?_
      conv=>arg 8;simp [go_sem]
      refine tw 29 rfl HT18 ?_
      conv=>arg 8;simp [go_sem]
      refine tw 30 rfl HT18 ?_
      conv=>arg 8;simp [go_sem]
      refine ⟨by kernel_rfl,?_⟩
      conv =>
       arg 5
       simp [go_sem]
      have hv:(s==IntKind.i64.wrap (IntKind.i64.wrap ((GSask S tx (wsOf t.log).length tick).stamp+((GSask S tx (wsOf t.log).length tick).q.length:Int)) - 1))=true:=by
       have h1:(GSask S tx (wsOf t.log).length tick).stamp=(com.length:Int)+1:=HJ.out.d.stamp
       have h2:(GSask S tx (wsOf t.log).length tick).q.length=wt.length+1:=by show (S.q++[_]).length=_;rw [List.length_append,HJ.out.d.qlen];rfl
       have h3:=HN.out.1
       have h4:=HJ.out.b1
       rw [h1,h2,IntWalk.i64_in ((com.length:Int)+1+((wt.length+1:Nat):Int)) (by omega),IntWalk.i64_in _ (by omega),h3,beq_iff_eq]
       omega
      have HV:=Box.mk hv
      clear hv
      go_wp2_with fail
      go_ret
      exact ⟨congrArg (fun b=>Ending.returned (.bool b)) HV.out,HF17.out.2,com,wt++[⟨tx,n+1,wsOf t.log,wa,wc9⟩],((X.fin tx t s fa fc).less k ka kc),(GSask S tx (wsOf t.log).length tick),hx,(⟨wa,(wsOf t.log).length,wc9,4,recC WrP.enc (wsOf t.log)⟩::G),(putA mw tx ⟨wa,wc9,wsOf t.log⟩),(putA mi tx (n+1)),delA ms tx,n+1,tick,gx,gg,bw,bi,bs,a0,c0,a1,c1,a9,c9,Own.keep10 HF17.out.1,(by rw [← HHX.out];exact HN.out.2)⟩
     ·refine oper_litA (by rfl) 34 (.tmp 176) rfl sl_hp (cs:=[.int .i64 1,.int .i64 (n+1),.int .i64 0,.slice wa wn wc9,.slice none 0 0]) rfl rfl (by omega) (by omega) ?_
      have HF19:=Box.mk (And.intro (HF0.out.1.alloc (.cells #[.int .i64 1,.int .i64 (n+1),.int .i64 0,.slice wa wn wc9,.slice none 0 0] 84)) (HF0.out.2.alloc HF0.out.1.1 (.cells #[.int .i64 1,.int .i64 (n+1),.int .i64 0,.slice wa wn wc9,.slice none 0 0] 84)))
      have HT20:=(show ((∃hv:Sl,Own B _ [BlkP gd 36 (dkC gx gg ⟨a0,(verT (cwOf com) 0).length,c0⟩ ⟨a1,(verT (cwOf com) 1).length,c1⟩ bw bi (n+1) tick hv bs)])∧Below B w _) from let ⟨⟨hv,h1⟩,h2⟩:=HS0;⟨⟨hv,h1.alloc (.cells #[.int .i64 1,.int .i64 (n+1),.int .i64 0,.slice wa wn wc9,.slice none 0 0] 84)⟩,h2.alloc h1.1 (.cells #[.int .i64 1,.int .i64 (n+1),.int .i64 0,.slice wa wn wc9,.slice none 0 0] 84)⟩)
      refine hK'.out _ _ HT20 (fun _=>?_)
      clear hK' K'
      conv=>arg 8;simp [go_sem]
      refine ar 4 rfl fun K' hK'=>?_
      refine oper_load1 (by rfl) 34 (.tmp 169) rfl (by kernel_rfl) rfl (v:=.slice ha hs.length hc) ((HF19.out.1.blk 1 rfl).1.cellOf (i:=8) rfl) ?_
      have HT21:=HT20
      refine hK'.out _ _ HT21 (fun _=>?_)
      clear hK' K'
      conv=>arg 8;simp [go_sem]
      refine ar 12 rfl fun K' hK'=>?_
      refine oper_append_O (by rfl) (.tmp 170) (.tmp 177) 34 34 rfl sl_hp (.inl sl_hp.ht) HF19.out.1 4 rfl rfl rfl (Src.lone _ [.int .i64 1,.int .i64 (n+1),.int .i64 0,.slice wa wn wc9,.slice none 0 0] _ rfl (by simp [Value.oneCell'])) (by have:=HHL.out;omega) (by have:=HHL.out;unfold maxLen;omega) ?_
      intro a9 c9 w9 hO9 hb9
      have O9:=Box.mk (And.intro hO9 (HF19.out.2.trans hb9))
      clear hO9 hb9
      have HT22:=(show ((∃hv:Sl,Own B _ [BlkP gd 36 (dkC gx gg ⟨a0,(verT (cwOf com) 0).length,c0⟩ ⟨a1,(verT (cwOf com) 1).length,c1⟩ bw bi (n+1) tick hv bs)])∧Below B w _) from ⟨⟨⟨ha,hs.length,hc⟩,O9.out.1.only 1 rfl⟩,O9.out.2⟩)
      refine hK'.out _ _ HT22 (fun _=>?_)
      clear hK' K'
      conv=>arg 8;simp [go_sem]
      refine tw 13 rfl HT22 ?_
      conv=>arg 8;simp [go_sem]
      refine tw 14 rfl HT22 ?_
      conv=>arg 8;simp [go_sem]
      refine ar 15 rfl fun K' hK'=>?_
      have HF9:=Box.mk (O9.out.1.setRow 1 rfl (splice (dkC gx gg ⟨a0,(verT (cwOf com) 0).length,c0⟩ ⟨a1,(verT (cwOf com) 1).length,c1⟩ bw bi (n+1) tick ⟨ha,hs.length,hc⟩ bs) 8 [.slice a9 (hs.length+1) c9]))
      refine oper_store_part (by rfl) 34 (.tmp 180) (.tmp 178) rfl rfl (size:=1) (off:=8) (by kernel_rfl) (O9.out.1.blk 1 rfl).1 (by simp [dkC]) rfl (cs:=[.slice a9 (hs.length+1) c9]) rfl rfl (by simp [Value.oneCell']) ?_
      have HT23:=(show ((∃hv:Sl,Own B _ [BlkP gd 36 (dkC gx gg ⟨a0,(verT (cwOf com) 0).length,c0⟩ ⟨a1,(verT (cwOf com) 1).length,c1⟩ bw bi (n+1) tick hv bs)])∧Below B w _) from ⟨⟨⟨a9,hs.length+1,c9⟩,HF9.out.1.only 1 rfl⟩,O9.out.2.trans HF9.out.2⟩)
      refine hK'.out _ _ HT23 (fun _=>?_)
      clear hK' K'
      conv=>arg 8;simp [go_sem]
      refine ⟨by kernel_rfl,?_⟩
      conv =>
       arg 5
       simp [go_sem]
      have hhx:(hs++[(⟨1,n+1,0,wa,wc9,wsOf t.log,none,0,[]⟩:HpP)]).length=hs.length+1:=by rw [List.length_append];rfl
      have hrx:recC HpP.enc (hs++[(⟨1,n+1,0,wa,wc9,wsOf t.log,none,0,[]⟩:HpP)])=recC HpP.enc hs++[.int .i64 1,.int .i64 (n+1),.int .i64 0,.slice wa wn wc9,.slice none 0 0]:=by rw [recC_append];simp [recC,HpP.enc,HWN.out]
      obtain ⟨hx,hhx2⟩:∃hx,hs++[(⟨1,n+1,0,wa,wc9,wsOf t.log,none,0,[]⟩:HpP)]=hx:=⟨_,rfl⟩
      rw [hhx2] at hhx hrx
      go_upto_region 24 with fail
      refine wp_own (show Own B _ (DkL gd gx gg bw bi bs (n+1) tick com ((X.fin tx t s fa fc).less k ka kc) S hx (⟨wa,(wsOf t.log).length,wc9,4,recC WrP.enc (wsOf t.log)⟩::G) (putA mw tx ⟨wa,wc9,wsOf t.log⟩) (putA mi tx (n+1)) (SeenO bs (delA ms tx)) a0 c0 a1 c1 a9 c9++[BlkP gm 38 [.int .i64 1,.int .i64 mn,.int .i64 mt,.int .i64 mr,.int .i64 mv]]) from by simp only [DkL,DkL2];rw [hhx,hrx];exact HF9.out.1) (O9.out.2.trans HF9.out.2) (fun w7 hO7 hb7=>?_)
      have O7:=Box.mk (And.intro hO7 hb7)
      have HHX:=Box.mk hhx2
      clear hhx hrx hhx2 HF9 O9 hO7 hb7
      have HF0:=Box.mk (And.intro O7.out.1.drew O7.out.2.drew)
      have HS0:(Own B w7.drew [BlkP gd 36 (dkC gx gg ⟨a0,(verT (cwOf com) 0).length,c0⟩ ⟨a1,(verT (cwOf com) 1).length,c1⟩ bw bi (n+1) tick ⟨a9,hx.length,c9⟩ bs)]∧Below B w w7.drew):=⟨HF0.out.1.only 1 rfl,HF0.out.2⟩
      clear O7
      refine wp_region_held_drew (S:=fun w'=>(Own B w' [BlkP gd 36 (dkC gx gg ⟨a0,(verT (cwOf com) 0).length,c0⟩ ⟨a1,(verT (cwOf com) 1).length,c1⟩ bw bi (n+1) tick ⟨a9,hx.length,c9⟩ bs)]∧Below B w w')) (by kernel_rfl) HS0 (fun _=>?_)
      generalize w7.drew=wd7 at *
      refine tw 0 rfl HS0 ?_
      conv=>arg 8;simp [go_sem]
      refine tw 1 rfl HS0 ?_
      conv=>arg 8;simp [go_sem]
      refine tw 2 rfl HS0 ?_
      conv=>arg 8;simp [go_sem]
      refine tv 3 rfl (fun w' hS=>by have e:w'.cell? ⟨gd,1,none⟩=some (.pointer (some ⟨gg,0,none⟩)):=(hS.1.blk 0 rfl).1.cellOf (i:=1) rfl;go_simp;all_goals with_reducible rfl) HS0 ?_
      conv=>arg 8;simp [go_sem]
      refine tw 4 rfl HS0 ?_
      conv=>arg 8;simp [go_sem]
      refine tw 5 rfl HS0 ?_
      conv=>arg 8;simp [go_sem]
      refine tw 6 rfl HS0 ?_
      conv=>arg 8;simp [go_sem]
      refine tw 7 rfl HS0 ?_
      conv=>arg 8;simp [go_sem]
      refine tw 8 rfl HS0 ?_
      conv=>arg 8;simp [go_sem]
      refine tw 9 rfl HS0 ?_
      conv=>arg 8;simp [go_sem]
      refine tv 10 rfl (fun w' hS=>by have e:w'.cell? ⟨gd,7,none⟩=some (.int .i64 tick):=(hS.1.blk 0 rfl).1.cellOf (i:=7) rfl;go_simp;all_goals with_reducible rfl) HS0 ?_
      conv=>arg 8;simp [go_sem]
      refine ar 11 rfl fun K' hK'=>?_
      refine oper_call (by rfl) 31 [.tmp 184,.tmp 185,.tmp 187,.tmp 191] #[27,3,3,3] rfl (vs:=[.pointer (some ⟨gg,0,none⟩),.int .i64 tx,.int .i64 (wn:Int),.int .i64 tick]) rfl Tryz.func31 nm_ask bd_ask (Gr.ask_own HF0.out.1 5 rfl tx wn tick HTX.out) ?_
      rintro e w9 ⟨rfl,hO9,hb9⟩
      rw [← HWN.out] at hO9 ⊢
      rw [HAK.out] at hO9 ⊢
      have HF24:=Box.mk (And.intro hO9 (HF0.out.2.trans hb9))
      clear hO9 hb9
      have HT25:=(show Own B _ [BlkP gd 36 (dkC gx gg ⟨a0,(verT (cwOf com) 0).length,c0⟩ ⟨a1,(verT (cwOf com) 1).length,c1⟩ bw bi (n+1) tick ⟨a9,hx.length,c9⟩ bs)]∧Below B w _ from And.intro (HF24.out.1.only 1 rfl) HF24.out.2)
      refine ⟨_,rfl,hK'.out _ _ HT25 (fun _=>?_)⟩
      clear hK' K'
      conv=>arg 8;simp [go_sem]
      refine tk 12 (v:=.bool true) rfl (yieldsIf_val (by rfl) (fun w' hS=>by go_simp)) (HT25) ?_
      conv=>arg 8;simp [go_sem]
      refine tw 13 rfl HT25 ?_
      conv=>arg 8;simp [go_sem]
      refine tw 14 rfl HT25 ?_
      conv=>arg 8;simp [go_sem]
      refine tw 15 rfl HT25 ?_
      conv=>arg 8;simp [go_sem]
      refine tw 16 rfl HT25 ?_
      conv=>arg 8;simp [go_sem]
      refine tw 17 rfl HT25 ?_
      conv=>arg 8;simp [go_sem]
      refine tv 18 rfl (fun w' hS=>by have e:w'.cell? ⟨gd,1,none⟩=some (.pointer (some ⟨gg,0,none⟩)):=(hS.1.blk 0 rfl).1.cellOf (i:=1) rfl;go_simp;all_goals with_reducible rfl) HT25 ?_
      conv=>arg 8;simp [go_sem]
      refine tw 20 rfl HT25 ?_
      conv=>arg 8;simp [go_sem]
      refine tw 21 rfl HT25 ?_
      conv=>arg 8;simp [go_sem]
      refine tw 22 rfl HT25 ?_
      conv=>arg 8;simp [go_sem]
      refine tv 23 rfl (fun w' hS=>by have e:w'.cell? ⟨gd,1,none⟩=some (.pointer (some ⟨gg,0,none⟩)):=(hS.1.blk 0 rfl).1.cellOf (i:=1) rfl;go_simp;all_goals with_reducible rfl) HT25 ?_
      conv=>arg 8;simp [go_sem]
      refine ar 19 rfl fun K' hK'=>?_
      refine oper_call (by rfl) 32 [.tmp 199] #[27] rfl (vs:=[.pointer (some ⟨gg,0,none⟩)]) rfl Tryz.func32 nm_next bd_next (Gr.next_own HF24.out.1 5 rfl) ?_
      rintro e w9 ⟨rfl,rfl⟩
      have HT26:=HT25
      refine ⟨_,rfl,hK'.out _ _ HT26 (fun _=>?_)⟩
      clear hK' K'
      conv=>arg 8;simp [go_sem]
      refine ar 24 rfl fun K' hK'=>?_
      refine oper_call (by rfl) 33 [.tmp 204] #[27] rfl (vs:=[.pointer (some ⟨gg,0,none⟩)]) rfl Tryz.func33 nm_wait bd_wait (Gr.waiting_own HF24.out.1 5 rfl) ?_
      rintro e w9 ⟨qa,qc,rfl,hO9,hb9⟩
      have HF27:=Box.mk (And.intro hO9 (HF24.out.2.trans hb9))
      clear hO9 hb9
      have HT28:=(show Own B _ [BlkP gd 36 (dkC gx gg ⟨a0,(verT (cwOf com) 0).length,c0⟩ ⟨a1,(verT (cwOf com) 1).length,c1⟩ bw bi (n+1) tick ⟨a9,hx.length,c9⟩ bs)]∧Below B w _ from And.intro (HF27.out.1.only 1 rfl) HF27.out.2)
      refine ⟨_,rfl,hK'.out _ _ HT28 (fun _=>?_)⟩
      clear hK' K'
      conv=>arg 8;simp [go_sem]
      refine tw 25 rfl HT28 ?_
      conv=>arg 8;simp [go_sem]
      refine tw 26 rfl HT28 ?_
      conv=>arg 8;simp [go_sem]
      refine tw 27 rfl HT28 ?_
      conv=>arg 8;simp [go_sem]
      refine tw 28 rfl HT28 ?_
      conv=>arg 8;simp [go_sem]
      refine tw 29 rfl HT28 ?_
      conv=>arg 8;simp [go_sem]
      refine tw 30 rfl HT28 ?_
      conv=>arg 8;simp [go_sem]
      refine ⟨by kernel_rfl,?_⟩
      conv =>
       arg 5
       simp [go_sem]
      have hv:(s==IntKind.i64.wrap (IntKind.i64.wrap ((GSask S tx (wsOf t.log).length tick).stamp+((GSask S tx (wsOf t.log).length tick).q.length:Int)) - 1))=true:=by
       have h1:(GSask S tx (wsOf t.log).length tick).stamp=(com.length:Int)+1:=HJ.out.d.stamp
       have h2:(GSask S tx (wsOf t.log).length tick).q.length=wt.length+1:=by show (S.q++[_]).length=_;rw [List.length_append,HJ.out.d.qlen];rfl
       have h3:=HN.out.1
       have h4:=HJ.out.b1
       rw [h1,h2,IntWalk.i64_in ((com.length:Int)+1+((wt.length+1:Nat):Int)) (by omega),IntWalk.i64_in _ (by omega),h3,beq_iff_eq]
       omega
      have HV:=Box.mk hv
      clear hv
      go_wp2_with fail
      go_ret
      exact ⟨congrArg (fun b=>Ending.returned (.bool b)) HV.out,HF27.out.2,com,wt++[⟨tx,n+1,wsOf t.log,wa,wc9⟩],((X.fin tx t s fa fc).less k ka kc),(GSask S tx (wsOf t.log).length tick),hx,(⟨wa,(wsOf t.log).length,wc9,4,recC WrP.enc (wsOf t.log)⟩::G),(putA mw tx ⟨wa,wc9,wsOf t.log⟩),(putA mi tx (n+1)),delA ms tx,n+1,tick,gx,gg,bw,bi,bs,a0,c0,a1,c1,a9,c9,Own.keep10 HF27.out.1,(by rw [← HHX.out];exact HN.out.2)⟩
end
end Go.Proofs.YtlfghapllmaigaaGreatDoor
