/-
  The walk of the desk's do: Read and Write; A step of the script, whatever it is. Conditions: each theorem's own hypotheses.
-/
import Derived.Test.YtlfghapllmaigaaGreatDoorK39
import Derived.Test.YtlfghapllmaigaaGreatDoorK38
import Derived.Test.YtlfghapllmaigaaGreatDoorK40
set_option linter.unusedVariables false
set_option linter.unusedSimpArgs false
namespace Go.Proofs.YtlfghapllmaigaaGreatDoor
section
open Go.RowKit Go.Maps
attribute [local go_sem] Oper.semAt_some
theorem nm_readF:(Tryz.f35.name == "runtime.NumGoroutine")=false:=by kernel_rfl
theorem bd_readF:Tryz.f35.body.isNone=false:=by kernel_rfl
theorem nm_write:(Tryz.f36.name == "runtime.NumGoroutine")=false:=by kernel_rfl
theorem bd_write:Tryz.f36.body.isNone=false:=by kernel_rfl
theorem Rd.one {w:World} {g:Nat} {ty:TypeId} {cs:List Value} (h:Blk w g ty cs) {size:Nat} (hl:cs.length=size):Rd w (some ⟨g,0,none⟩) 1 1 size cs :=
 ⟨by rw [hl,Nat.one_mul],Nat.le_refl _,by unfold maxLen;omega,(fun h=>by cases h),fun ad had j u hu=>by
  simp only [Option.some.injEq] at had;subst had;rw [add0];exact h.cellOf hu⟩
set_option maxRecDepth 20000 in
set_option maxHeartbeats 16000000 in
theorem do_write {ser:Bool} {m gd B:Nat} {w:World} {com:List (Int×List WrP)} {wt:List Wtx} {X:TxP} {S:Gr.GS} {hs:List HpP} {G:List RdD} {mw:List (Int×WsS)} {mi:List (Int×Int)} {ms:List (Int×SnP)} {n tick:Int} {gx gg bw bi bs:Nat} {a0 a1 ha:Option Addr} {c0 c1 hc:Nat}
  (O:Own B w (DkL gd gx gg bw bi bs n tick com X S hs G mw mi (SeenO bs ms) a0 c0 a1 c1 ha hc)) (j:DkJ ser m com wt X S hs G mw mi ms n tick) (hm:m<60) {mk mn mt mr mv:Int} (hmn:In64 mn) (hmt:In64 mt) (hmr:In64 mr) (hmv:In64 mv) (hk:mk≠0∧mk≠1∧mk≠2∧mk≠3∧mk≠4∧mk≠5) :
  Calls Tryz.prog 7 #[.pointer (some ⟨gd,0,none⟩),.agg #[.int .i64 mk,.int .i64 mn,.int .i64 mt,.int .i64 mr,.int .i64 mv]] w (RetDk ser (m+1) gd B w):=by
 have t9:(mk==0)=false∧(mk==1)=false∧(mk==2)=false∧(mk==3)=false∧(mk==4)=false∧(mk==5)=false:=by simp [hk]
 have HT9:=Box.mk t9
 clear hk t9
 have HJ:=Box.mk j
 have O1:=Box.mk (O.new [.int .i64 mk,.int .i64 mn,.int .i64 mt,.int .i64 mr,.int .i64 mv] 38)
 have B1:=Box.mk ((Below.refl B w).alloc O.1 (.cells #[.int .i64 mk,.int .i64 mn,.int .i64 mt,.int .i64 mr,.int .i64 mv] 38))
 have HMN:=Box.mk hmn
 have HMM:=Box.mk (And.intro hmt (And.intro hmr hmv))
 have hm100:X.all.length≤100:=j.x.ok.len
 have hna2:X.act.length≤X.all.length:=by unfold TxP.all;rw [List.length_append,List.length_map];omega
 clear O j hmn hmt hmr hmv
 go_enter Tryz.func7,Tryz.ntmps7
 go_upto_region 1 with fail
 generalize w.heap.size=gm at *
 generalize (w.alloc (.cells #[.int .i64 mk,.int .i64 mn,.int .i64 mt,.int .i64 mr,.int .i64 mv] 38))=w1 at *
 have y0:w1.cell? ⟨gd,0,none⟩=some (.pointer (some ⟨gx,0,none⟩)):=(O1.out.blk 1 rfl).1.cellOf (i:=0) rfl
 go_wp2_with fail
 refine (active_any (Own.txs O1.out) HJ.out.x.ok).mono ?_
 rintro e w2 ⟨hb,aa,ac,rfl,hrow⟩
 obtain ⟨na,hna⟩:∃na,(X.act.map (·.1)).length=na:=⟨_,rfl⟩
 rw [hna] at hrow ⊢
 have O2:=Box.mk (O1.out.newRow hb hrow (Nat.le_refl _))
 have B2:=Box.mk (B1.out.trans (hb.mono O1.out.1))
 have HNA:=Box.mk hna
 have hnl:na≤100:=by rw [← hna,List.length_map];omega
 clear hrow hb y0 O1 B1 hna hna2 hm100
 have y1:w2.cell? ⟨gm,1,none⟩=some (.int .i64 mn):=(O2.out.blk 10 rfl).1.cellOf (i:=1) rfl
 go_upto_if 23 with fail
 go_cut [6] from 23 (fun s6 wx=>∃tx:Int,s6=.int .i64 tx∧Box (In64 tx∧Own B wx (DkL gd gx gg bw bi bs n tick com X S hs G mw mi (SeenO bs ms) a0 c0 a1 c1 ha hc++[BlkP gm 38 [.int .i64 mk,.int .i64 mn,.int .i64 mt,.int .i64 mr,.int .i64 mv]])∧Below B w wx))
 case first =>
  by_cases h0:0<na
  ·obtain ⟨ix,hix⟩:∃ix:Nat,mn % (na:Int)=(ix:Int):=⟨(mn % (na:Int)).toNat,(Int.toNat_of_nonneg (Int.emod_nonneg _ (by omega))).symm⟩
   have hixl:ix<na:=by have:=Int.emod_lt_of_pos mn (show (0:Int)<na by omega);omega
   have HL:=Box.mk (show Calls Tryz.prog 26 #[.int .i64 mn,.int .i64 (na:Int)] w2 (RetV (.int .i64 (ix:Int)) w2) from by have h1:=least_any HMN.out (show (0:Int)<na by omega) (by omega) w2;rw [hix] at h1;exact h1)
   clear hix
   go_wp2_with fail
   refine HL.out.mono ?_
   rintro e w3 ⟨rfl,hb3⟩
   have O3:=Box.mk (O2.out.below hb3)
   have B3:=Box.mk (B2.out.trans (hb3.mono O2.out.1))
   clear hb3 O2 B2 y1 HL
   obtain ⟨ob,ooff,haa,hco⟩:=(Rd.ofOwn (O3.out.row 11 rfl)).intAtD ix hixl
   obtain ⟨tx,htx⟩:∃tx,(X.act.map (·.1)).getD ix 0=tx:=⟨_,rfl⟩
   rw [htx] at hco
   have HT:=Box.mk (show In64 tx from by
    have h1:tx∈X.act.map (·.1):=by rw [← htx,List.getD_eq_getElem?_getD,List.getElem?_eq_getElem (by rw [HNA.out];exact hixl)];exact List.getElem_mem _
    obtain ⟨q,hq,rfl⟩:=List.mem_map.1 h1
    exact HJ.out.x.ok.i64 q hq)
   clear htx
   subst haa
   go_wp2_with fail
   go_meet
   case rel=>exact ⟨tx,rfl,⟨HT.out,O3.out.drop 11,B3.out⟩⟩
  ·obtain rfl:na=0:=by omega
   go_wp2_with fail
   go_meet
   case rel=>exact ⟨0,rfl,⟨by unfold In64;omega,O2.out.drop 11,B2.out⟩⟩
 case rest =>
  obtain ⟨tx,rfl,HC⟩:=hcut
  clear O2 B2 y1 HNA hnl
  have O3:=Box.mk HC.out.2.1
  have B3:=Box.mk HC.out.2.2
  have HTX:=Box.mk HC.out.1
  clear HC
  have m0:wc.cell? ⟨gm,0,none⟩=some (.int .i64 mk):=(O3.out.blk 10 rfl).1.cellOf (i:=0) rfl
  obtain ⟨k0,k1,k2,k3,k4,k5⟩:=HT9.out
  clear HT9
  obtain ⟨rt,hrt⟩:∃rt,bits BinOp.and IntKind.i64 mt 1=rt:=⟨_,rfl⟩
  obtain ⟨rr,hrr⟩:∃rr,bits BinOp.and IntKind.i64 mr 3=rr - 1:=⟨bits BinOp.and IntKind.i64 mr 3+1,by omega⟩
  obtain ⟨rd,hrd⟩:∃rd,bits BinOp.and IntKind.i64 mv 3=rd:=⟨_,rfl⟩
  obtain ⟨rv,hrv⟩:∃rv,bits BinOp.and IntKind.i64 mv 255=rv:=⟨_,rfl⟩
  have hb1:=and_le mt (m:=1) (by omega) (by omega)
  have hb2:=and_le mr (m:=3) (by omega) (by omega)
  rw [hrt] at hb1
  rw [hrr] at hb2
  have HSP:=Box.mk (show (rt,rr)∈spots from spots_iff.2 (by simp only;omega))
  have hw1:IntKind.i64.wrap (1+(rr - 1))=rr:=by rw [IntWalk.i64_in _ (by omega)];omega
  clear hb1 hb2
  have m2:wc.cell? ⟨gm,2,none⟩=some (.int .i64 mt):=(O3.out.blk 10 rfl).1.cellOf (i:=2) rfl
  have m3:wc.cell? ⟨gm,3,none⟩=some (.int .i64 mr):=(O3.out.blk 10 rfl).1.cellOf (i:=3) rfl
  have m4:wc.cell? ⟨gm,4,none⟩=some (.int .i64 mv):=(O3.out.blk 10 rfl).1.cellOf (i:=4) rfl
  by_cases hd:rd=0
  ·have t5:(rd==0)=true:=by simp [hd]
   clear hd
   go_upto_region 7 with fail
   have O4:=Box.mk (O3.out.new [.int .i64 rt,.int .i64 rr,.bool true,.slice none 0 0] 90)
   have B4:=Box.mk (B3.out.alloc O3.out.1 (.cells #[.int .i64 rt,.int .i64 rr,.bool true,.slice none 0 0] 90))
   clear O3 B3 m0 m2 m3 m4 t5 hrt hrr hrd
   generalize wc.heap.size=gw at *
   generalize (wc.alloc (.cells #[.int .i64 rt,.int .i64 rr,.bool true,.slice none 0 0] 90))=w4 at *
   have y2:w4.cell? ⟨gw,2,none⟩=some (.bool true):=(O4.out.blk 11 rfl).1.cellOf (i:=2) rfl
   go_upto_region 9 with fail
   have O5:=Box.mk (And.intro O4.out B4.out)
   clear O4 B4 y2
   cases hf:X.find tx with
   | none =>
    have HF:=Box.mk hf
    clear hf
    have HF0:=Box.mk (And.intro O5.out.1.drew O5.out.2.drew)
    have HS0:(Own B w4.drew [BlkP gd 36 (dkC gx gg ⟨a0,(verT (cwOf com) 0).length,c0⟩ ⟨a1,(verT (cwOf com) 1).length,c1⟩ bw bi n tick ⟨ha,hs.length,hc⟩ bs),BlkP gw 90 [.int .i64 rt,.int .i64 rr,.bool true,.slice none 0 0]]∧Below B w w4.drew):=⟨(((HF0.out.1.front 11 rfl).front 2 rfl).head2),HF0.out.2⟩
    clear O5
    refine wp_region_held_drew (S:=fun w'=>(Own B w' [BlkP gd 36 (dkC gx gg ⟨a0,(verT (cwOf com) 0).length,c0⟩ ⟨a1,(verT (cwOf com) 1).length,c1⟩ bw bi n tick ⟨ha,hs.length,hc⟩ bs),BlkP gw 90 [.int .i64 rt,.int .i64 rr,.bool true,.slice none 0 0]]∧Below B w w')) (by kernel_rfl) HS0 (fun _=>?_)
    generalize w4.drew=wd8 at *
    refine tw 0 rfl HS0 ?_
    conv=>arg 8;simp [go_sem]
    refine tw 1 rfl HS0 ?_
    conv=>arg 8;simp [go_sem]
    refine tw 2 rfl HS0 ?_
    conv=>arg 8;simp [go_sem]
    refine tv 3 rfl (fun w' hS=>by have e:w'.cell? ⟨gd,0,none⟩=some (.pointer (some ⟨gx,0,none⟩)):=(hS.1.blk 0 rfl).1.cellOf (i:=0) rfl;go_simp;all_goals with_reducible rfl) HS0 ?_
    conv=>arg 8;simp [go_sem]
    refine tw 4 rfl HS0 ?_
    conv=>arg 8;simp [go_sem]
    refine tw 5 rfl HS0 ?_
    conv=>arg 8;simp [go_sem]
    refine tv 6 rfl (fun w' hS=>by have e:w'.cell? ⟨gw,0,none⟩=some (.int .i64 rt):=(hS.1.blk 1 rfl).1.cellOf (i:=0) rfl;go_simp;all_goals with_reducible rfl) HS0 ?_
    conv=>arg 8;simp [go_sem]
    refine tw 7 rfl HS0 ?_
    conv=>arg 8;simp [go_sem]
    refine tv 8 rfl (fun w' hS=>by have e:w'.cell? ⟨gw,1,none⟩=some (.int .i64 rr):=(hS.1.blk 1 rfl).1.cellOf (i:=1) rfl;go_simp;all_goals with_reducible rfl) HS0 ?_
    conv=>arg 8;simp [go_sem]
    refine ar 9 rfl fun K' hK'=>?_
    refine oper_call (by rfl) 35 [.tmp 58,.tmp 59,.tmp 61,.tmp 63] #[25,3,3,3] rfl (vs:=[.pointer (some ⟨gx,0,none⟩),.int .i64 tx,.int .i64 rt,.int .i64 rr]) rfl Tryz.func35 nm_readF bd_readF (read_no (show Own B _ (TxsO gx X::_) from HF0.out.1) HTX.out HF.out _ _) ?_
    rintro e w9 ⟨rfl,hO9,hb9⟩
    have O9:=Box.mk (And.intro hO9 (HF0.out.2.trans hb9))
    have HBR:=Box.mk (And.intro HF0.out.1.1 hb9)
    clear hO9 hb9
    have HT1:=(show Own B _ [BlkP gd 36 (dkC gx gg ⟨a0,(verT (cwOf com) 0).length,c0⟩ ⟨a1,(verT (cwOf com) 1).length,c1⟩ bw bi n tick ⟨ha,hs.length,hc⟩ bs),BlkP gw 90 [.int .i64 rt,.int .i64 rr,.bool true,.slice none 0 0]]∧Below B w _ from And.intro (((O9.out.1.front 11 rfl).front 2 rfl).head2) O9.out.2)
    refine ⟨_,rfl,hK'.out _ _ HT1 (fun _=>?_)⟩
    clear hK' K'
    conv=>arg 8;simp [go_sem]
    refine ⟨by kernel_rfl,?_⟩
    conv =>
     arg 5
     simp [go_sem]
    go_upto_region 10 with fail
    have HF0:=Box.mk (And.intro O9.out.1.drew O9.out.2.drew)
    have HS0:(Own B w9.drew [BlkP gd 36 (dkC gx gg ⟨a0,(verT (cwOf com) 0).length,c0⟩ ⟨a1,(verT (cwOf com) 1).length,c1⟩ bw bi n tick ⟨ha,hs.length,hc⟩ bs),BlkP gw 90 [.int .i64 rt,.int .i64 rr,.bool true,.slice none 0 0]]∧Below B w w9.drew):=⟨(((HF0.out.1.front 11 rfl).front 2 rfl).head2),HF0.out.2⟩
    clear O9
    refine wp_region_held_drew (S:=fun w'=>(Own B w' [BlkP gd 36 (dkC gx gg ⟨a0,(verT (cwOf com) 0).length,c0⟩ ⟨a1,(verT (cwOf com) 1).length,c1⟩ bw bi n tick ⟨ha,hs.length,hc⟩ bs),BlkP gw 90 [.int .i64 rt,.int .i64 rr,.bool true,.slice none 0 0]]∧Below B w w')) (by kernel_rfl) HS0 (fun _=>?_)
    generalize w9.drew=wd9 at *
    refine tw 0 rfl HS0 ?_
    conv=>arg 8;simp [go_sem]
    refine tw 1 rfl HS0 ?_
    conv=>arg 8;simp [go_sem]
    refine tw 2 rfl HS0 ?_
    conv=>arg 8;simp [go_sem]
    refine tv 3 rfl (fun w' hS=>by have e:w'.cell? ⟨gd,0,none⟩=some (.pointer (some ⟨gx,0,none⟩)):=(hS.1.blk 0 rfl).1.cellOf (i:=0) rfl;go_simp;all_goals with_reducible rfl) HS0 ?_
    conv=>arg 8;simp [go_sem]
    refine tw 4 rfl HS0 ?_
    conv=>arg 8;simp [go_sem]
    refine tk 5 (v:=.agg #[.int .i64 rt,.int .i64 rr,.bool true,.slice none 0 0]) rfl (yieldsIf_load_agg (by rfl) 90 (.tmp 15) rfl aggWr rfl (cs:=[.int .i64 rt,.int .i64 rr,.bool true,.slice none 0 0]) rfl (fun w' hS j u h=>by rw [add0];exact (hS.1.blk 1 rfl).1.cellOf h)) (HS0) ?_
    conv=>arg 8;simp [go_sem]
    refine ar 6 rfl fun K' hK'=>?_
    refine oper_call (by rfl) 36 [.tmp 68,.tmp 69,.tmp 70] #[25,3,90] rfl (vs:=[.pointer (some ⟨gx,0,none⟩),.int .i64 tx,.agg #[.int .i64 rt,.int .i64 rr,.bool true,.slice none 0 0]]) rfl Tryz.func36 nm_write bd_write (write_no (show Own B _ (TxsO gx X::_) from HF0.out.1) HTX.out HF.out (⟨rt,rr,true,none,0,[]⟩:WrP)) ?_
    rintro e w8 ⟨rfl,hO8,hb8⟩
    have O8:=Box.mk (And.intro hO8 (HF0.out.2.trans hb8))
    clear hO8 hb8
    have HT2:=(show Own B _ [BlkP gd 36 (dkC gx gg ⟨a0,(verT (cwOf com) 0).length,c0⟩ ⟨a1,(verT (cwOf com) 1).length,c1⟩ bw bi n tick ⟨ha,hs.length,hc⟩ bs),BlkP gw 90 [.int .i64 rt,.int .i64 rr,.bool true,.slice none 0 0]]∧Below B w _ from And.intro (((O8.out.1.front 11 rfl).front 2 rfl).head2) O8.out.2)
    refine ⟨_,rfl,hK'.out _ _ HT2 (fun _=>?_)⟩
    clear hK' K'
    conv=>arg 8;simp [go_sem]
    refine ⟨by kernel_rfl,?_⟩
    conv =>
     arg 5
     simp [go_sem]
    go_wp2_with fail
    go_ret
    exact ⟨rfl,O8.out.2,com,wt,X,S,hs,G,mw,mi,ms,n,tick,gx,gg,bw,bi,bs,a0,c0,a1,c1,ha,hc,Own.keep10 O8.out.1,HJ.out.step1⟩
   | some t =>
    have HF:=Box.mk hf
    clear hf
    have HND:=Box.mk ((Own.txs (show Own B w4 (TxsO gx X::_) from O5.out.1)).tn t (TxP.find_mem HF.out).2).rows.nodup
    have HF0:=Box.mk (And.intro O5.out.1.drew O5.out.2.drew)
    have HS0:(Own B w4.drew [BlkP gd 36 (dkC gx gg ⟨a0,(verT (cwOf com) 0).length,c0⟩ ⟨a1,(verT (cwOf com) 1).length,c1⟩ bw bi n tick ⟨ha,hs.length,hc⟩ bs),BlkP gw 90 [.int .i64 rt,.int .i64 rr,.bool true,.slice none 0 0]]∧Below B w w4.drew):=⟨(((HF0.out.1.front 11 rfl).front 2 rfl).head2),HF0.out.2⟩
    clear O5
    refine wp_region_held_drew (S:=fun w'=>(Own B w' [BlkP gd 36 (dkC gx gg ⟨a0,(verT (cwOf com) 0).length,c0⟩ ⟨a1,(verT (cwOf com) 1).length,c1⟩ bw bi n tick ⟨ha,hs.length,hc⟩ bs),BlkP gw 90 [.int .i64 rt,.int .i64 rr,.bool true,.slice none 0 0]]∧Below B w w')) (by kernel_rfl) HS0 (fun _=>?_)
    generalize w4.drew=wd8 at *
    refine tw 0 rfl HS0 ?_
    conv=>arg 8;simp [go_sem]
    refine tw 1 rfl HS0 ?_
    conv=>arg 8;simp [go_sem]
    refine tw 2 rfl HS0 ?_
    conv=>arg 8;simp [go_sem]
    refine tv 3 rfl (fun w' hS=>by have e:w'.cell? ⟨gd,0,none⟩=some (.pointer (some ⟨gx,0,none⟩)):=(hS.1.blk 0 rfl).1.cellOf (i:=0) rfl;go_simp;all_goals with_reducible rfl) HS0 ?_
    conv=>arg 8;simp [go_sem]
    refine tw 4 rfl HS0 ?_
    conv=>arg 8;simp [go_sem]
    refine tw 5 rfl HS0 ?_
    conv=>arg 8;simp [go_sem]
    refine tv 6 rfl (fun w' hS=>by have e:w'.cell? ⟨gw,0,none⟩=some (.int .i64 rt):=(hS.1.blk 1 rfl).1.cellOf (i:=0) rfl;go_simp;all_goals with_reducible rfl) HS0 ?_
    conv=>arg 8;simp [go_sem]
    refine tw 7 rfl HS0 ?_
    conv=>arg 8;simp [go_sem]
    refine tv 8 rfl (fun w' hS=>by have e:w'.cell? ⟨gw,1,none⟩=some (.int .i64 rr):=(hS.1.blk 1 rfl).1.cellOf (i:=1) rfl;go_simp;all_goals with_reducible rfl) HS0 ?_
    conv=>arg 8;simp [go_sem]
    refine ar 9 rfl fun K' hK'=>?_
    refine oper_call (by rfl) 35 [.tmp 58,.tmp 59,.tmp 61,.tmp 63] #[25,3,3,3] rfl (vs:=[.pointer (some ⟨gx,0,none⟩),.int .i64 tx,.int .i64 rt,.int .i64 rr]) rfl Tryz.func35 nm_readF bd_readF (read_any (s:=(rt,rr)) (show Own B _ (TxsO gx X::_) from HF0.out.1) HJ.out.x.ok HTX.out HF.out HSP.out) ?_
    rintro e w9 ⟨rfl,hO9,hb9⟩
    have O9:=Box.mk (And.intro hO9 (HF0.out.2.trans hb9))
    have HBR:=Box.mk (And.intro HF0.out.1.1 hb9)
    clear hO9 hb9
    have HT3:=(show Own B _ [BlkP gd 36 (dkC gx gg ⟨a0,(verT (cwOf com) 0).length,c0⟩ ⟨a1,(verT (cwOf com) 1).length,c1⟩ bw bi n tick ⟨ha,hs.length,hc⟩ bs),BlkP gw 90 [.int .i64 rt,.int .i64 rr,.bool true,.slice none 0 0]]∧Below B w _ from And.intro (((O9.out.1.front 11 rfl).front 2 rfl).head2) O9.out.2)
    refine ⟨_,rfl,hK'.out _ _ HT3 (fun _=>?_)⟩
    clear hK' K'
    conv=>arg 8;simp [go_sem]
    refine ⟨by kernel_rfl,?_⟩
    conv =>
     arg 5
     simp [go_sem]
    have HJ2:=Box.mk (HJ.out.read (Nat.le_refl _) HF.out HND.out HSP.out)
    have HF2:=Box.mk (show (X.upd tx (t.read (rt,rr))).find tx=some (t.read (rt,rr)) from by rw [find_upd HF.out,if_pos rfl])
    have HMO:=Box.mk (show (t.read (rt,rr)).mode≠2 from by have h1:=(HJ.out.x.tn t (TxP.find_mem HF.out).2).mode;show t.mode≠2;omega)
    have HLG:=Box.mk (show (t.read (rt,rr)).log.length<1000 from by have h1:=(HJ.out.lg t (TxP.find_mem HF.out).2).1;show t.log.length<1000;omega)
    go_upto_region 10 with fail
    have HF0:=Box.mk (And.intro O9.out.1.drew O9.out.2.drew)
    have HS0:(Own B w9.drew [BlkP gd 36 (dkC gx gg ⟨a0,(verT (cwOf com) 0).length,c0⟩ ⟨a1,(verT (cwOf com) 1).length,c1⟩ bw bi n tick ⟨ha,hs.length,hc⟩ bs),BlkP gw 90 [.int .i64 rt,.int .i64 rr,.bool true,.slice none 0 0]]∧Below B w w9.drew):=⟨(((HF0.out.1.front 11 rfl).front 2 rfl).head2),HF0.out.2⟩
    clear O9
    refine wp_region_held_drew (S:=fun w'=>(Own B w' [BlkP gd 36 (dkC gx gg ⟨a0,(verT (cwOf com) 0).length,c0⟩ ⟨a1,(verT (cwOf com) 1).length,c1⟩ bw bi n tick ⟨ha,hs.length,hc⟩ bs),BlkP gw 90 [.int .i64 rt,.int .i64 rr,.bool true,.slice none 0 0]]∧Below B w w')) (by kernel_rfl) HS0 (fun _=>?_)
    generalize w9.drew=wd9 at *
    refine tw 0 rfl HS0 ?_
    conv=>arg 8;simp [go_sem]
    refine tw 1 rfl HS0 ?_
    conv=>arg 8;simp [go_sem]
    refine tw 2 rfl HS0 ?_
    conv=>arg 8;simp [go_sem]
    refine tv 3 rfl (fun w' hS=>by have e:w'.cell? ⟨gd,0,none⟩=some (.pointer (some ⟨gx,0,none⟩)):=(hS.1.blk 0 rfl).1.cellOf (i:=0) rfl;go_simp;all_goals with_reducible rfl) HS0 ?_
    conv=>arg 8;simp [go_sem]
    refine tw 4 rfl HS0 ?_
    conv=>arg 8;simp [go_sem]
    refine tk 5 (v:=.agg #[.int .i64 rt,.int .i64 rr,.bool true,.slice none 0 0]) rfl (yieldsIf_load_agg (by rfl) 90 (.tmp 15) rfl aggWr rfl (cs:=[.int .i64 rt,.int .i64 rr,.bool true,.slice none 0 0]) rfl (fun w' hS j u h=>by rw [add0];exact (hS.1.blk 1 rfl).1.cellOf h)) (HS0) ?_
    conv=>arg 8;simp [go_sem]
    refine ar 6 rfl fun K' hK'=>?_
    refine oper_call (by rfl) 36 [.tmp 68,.tmp 69,.tmp 70] #[25,3,90] rfl (vs:=[.pointer (some ⟨gx,0,none⟩),.int .i64 tx,.agg #[.int .i64 rt,.int .i64 rr,.bool true,.slice none 0 0]]) rfl Tryz.func36 nm_write bd_write (write_any (X:=X.upd tx (t.read (rt,rr))) (t:=t.read (rt,rr)) (x:=(⟨rt,rr,true,none,0,[]⟩:WrP)) (show Own B _ (TxsO gx (X.upd tx (t.read (rt,rr)))::_) from HF0.out.1) HJ2.out.x.ok HTX.out HF2.out HMO.out HLG.out HSP.out (by simp) (Rd.nilSlice _ 3) (by simp)) ?_
    rintro e w8 ⟨rfl,hb8,va9,vc9,la,lc,hO8⟩
    have O8:=Box.mk (And.intro hO8 (HF0.out.2.trans hb8))
    clear hO8 hb8
    have HT4:=(show Own B _ [BlkP gd 36 (dkC gx gg ⟨a0,(verT (cwOf com) 0).length,c0⟩ ⟨a1,(verT (cwOf com) 1).length,c1⟩ bw bi n tick ⟨ha,hs.length,hc⟩ bs),BlkP gw 90 [.int .i64 rt,.int .i64 rr,.bool true,.slice none 0 0]]∧Below B w _ from And.intro (((O8.out.1.front 12 rfl).front 3 rfl).head2) O8.out.2)
    refine ⟨_,rfl,hK'.out _ _ HT4 (fun _=>?_)⟩
    clear hK' K'
    conv=>arg 8;simp [go_sem]
    refine ⟨by kernel_rfl,?_⟩
    conv =>
     arg 5
     simp [go_sem]
    have hO7:=Own.keep10 (Own.immSecond O8.out.1 8 rfl)
    go_wp2_with fail
    go_ret
    exact ⟨rfl,O8.out.2,com,wt,(X.upd tx (t.read (rt,rr))).upd tx ((t.read (rt,rr)).write { (⟨rt,rr,true,none,0,[]⟩:WrP) with va:=va9,vc:=vc9 } la lc),S,hs,(⟨va9,0,vc9,3,recC Val.enc []⟩::G),mw,mi,ms,n,tick,gx,gg,bw,bi,bs,a0,c0,a1,c1,ha,hc,hO7,HJ2.out.write (by omega) HF2.out (x:={ (⟨rt,rr,true,none,0,[]⟩:WrP) with va:=va9,vc:=vc9 }) HSP.out (by simp) (by simp) la lc⟩
  ·have t5:(rd==0)=false:=by simp [hd]
   clear hd
   go_upto_region 7 with fail
   have O4:=Box.mk (O3.out.new [.int .i64 rt,.int .i64 rr,.bool false,.slice none 0 0] 90)
   have B4:=Box.mk (B3.out.alloc O3.out.1 (.cells #[.int .i64 rt,.int .i64 rr,.bool false,.slice none 0 0] 90))
   clear O3 B3 m0 m2 m3 m4 t5 hrt hrr hrd
   generalize wc.heap.size=gw at *
   generalize (wc.alloc (.cells #[.int .i64 rt,.int .i64 rr,.bool false,.slice none 0 0] 90))=w4 at *
   have y2:w4.cell? ⟨gw,2,none⟩=some (.bool false):=(O4.out.blk 11 rfl).1.cellOf (i:=2) rfl
   have m4:w4.cell? ⟨gm,4,none⟩=some (.int .i64 mv):=(O4.out.blk 10 rfl).1.cellOf (i:=4) rfl
   have HNV:=Box.mk (O4.out.new [.int .i64 1,.int .i64 rv,.string ⟨#[]⟩] 64)
   have HBV:=Box.mk (B4.out.alloc O4.out.1 (.cells #[.int .i64 1,.int .i64 rv,.string ⟨#[]⟩] 64))
   have HST:=Box.mk (HNV.out.setRow 11 rfl (splice [.int .i64 rt,.int .i64 rr,.bool false,.slice none 0 0] 3 [.slice (some ⟨w4.heap.size,0,none⟩) 1 1]))
   go_upto_region 9 with (first | ((with_reducible show wpList _ _ _ _ _ _);refine wpList_lit_one (o:=⟨some 53,_,_,_,_,_⟩) rfl 88 (.tmp 52) rfl sl_row (cs:=[.int .i64 1,.int .i64 rv,.string ⟨#[]⟩]) rfl rfl (by omega) (by omega) ?_) | ((with_reducible show wpList _ _ _ _ _ _);refine wpList_store_part rfl 88 (.tmp 54) (.tmp 53) rfl rfl (size:=1) (off:=3) (by kernel_rfl) (HNV.out.blk 11 rfl).1 (by simp) rfl (cs:=[.slice (some ⟨w4.heap.size,0,none⟩) 1 1]) rfl rfl (by simp [Value.oneCell']) ?_))
   refine wp_own HST.out.1 (HBV.out.trans HST.out.2) (fun w5 hO5 hb5=>?_)
   have O5:=Box.mk (And.intro (show Own B w5 (DkL gd gx gg bw bi bs n tick com X S hs G mw mi (SeenO bs ms) a0 c0 a1 c1 ha hc++[BlkP gm 38 [.int .i64 mk,.int .i64 mn,.int .i64 mt,.int .i64 mr,.int .i64 mv],BlkP gw 90 [.int .i64 rt,.int .i64 rr,.bool false,.slice (some ⟨w4.heap.size,0,none⟩) 1 1],BlkP w4.heap.size 64 [.int .i64 1,.int .i64 rv,.string ⟨#[]⟩]]) from hO5) hb5)
   clear HST HNV HBV O4 B4 y2 m4 hrv hO5 hb5
   generalize w4.heap.size=gv at *
   cases hf:X.find tx with
   | none =>
    have HF:=Box.mk hf
    clear hf
    have HF0:=Box.mk (And.intro O5.out.1.drew O5.out.2.drew)
    have HS0:(Own B w5.drew [BlkP gd 36 (dkC gx gg ⟨a0,(verT (cwOf com) 0).length,c0⟩ ⟨a1,(verT (cwOf com) 1).length,c1⟩ bw bi n tick ⟨ha,hs.length,hc⟩ bs),BlkP gw 90 [.int .i64 rt,.int .i64 rr,.bool false,.slice (some ⟨gv,0,none⟩) 1 1]]∧Below B w w5.drew):=⟨(((HF0.out.1.front 11 rfl).front 2 rfl).head2),HF0.out.2⟩
    clear O5
    refine wp_region_held_drew (S:=fun w'=>(Own B w' [BlkP gd 36 (dkC gx gg ⟨a0,(verT (cwOf com) 0).length,c0⟩ ⟨a1,(verT (cwOf com) 1).length,c1⟩ bw bi n tick ⟨ha,hs.length,hc⟩ bs),BlkP gw 90 [.int .i64 rt,.int .i64 rr,.bool false,.slice (some ⟨gv,0,none⟩) 1 1]]∧Below B w w')) (by kernel_rfl) HS0 (fun _=>?_)
    generalize w5.drew=wd8 at *
    refine tw 0 rfl HS0 ?_
    conv=>arg 8;simp [go_sem]
    refine tw 1 rfl HS0 ?_
    conv=>arg 8;simp [go_sem]
    refine tw 2 rfl HS0 ?_
    conv=>arg 8;simp [go_sem]
    refine tv 3 rfl (fun w' hS=>by have e:w'.cell? ⟨gd,0,none⟩=some (.pointer (some ⟨gx,0,none⟩)):=(hS.1.blk 0 rfl).1.cellOf (i:=0) rfl;go_simp;all_goals with_reducible rfl) HS0 ?_
    conv=>arg 8;simp [go_sem]
    refine tw 4 rfl HS0 ?_
    conv=>arg 8;simp [go_sem]
    refine tw 5 rfl HS0 ?_
    conv=>arg 8;simp [go_sem]
    refine tv 6 rfl (fun w' hS=>by have e:w'.cell? ⟨gw,0,none⟩=some (.int .i64 rt):=(hS.1.blk 1 rfl).1.cellOf (i:=0) rfl;go_simp;all_goals with_reducible rfl) HS0 ?_
    conv=>arg 8;simp [go_sem]
    refine tw 7 rfl HS0 ?_
    conv=>arg 8;simp [go_sem]
    refine tv 8 rfl (fun w' hS=>by have e:w'.cell? ⟨gw,1,none⟩=some (.int .i64 rr):=(hS.1.blk 1 rfl).1.cellOf (i:=1) rfl;go_simp;all_goals with_reducible rfl) HS0 ?_
    conv=>arg 8;simp [go_sem]
    refine ar 9 rfl fun K' hK'=>?_
    refine oper_call (by rfl) 35 [.tmp 58,.tmp 59,.tmp 61,.tmp 63] #[25,3,3,3] rfl (vs:=[.pointer (some ⟨gx,0,none⟩),.int .i64 tx,.int .i64 rt,.int .i64 rr]) rfl Tryz.func35 nm_readF bd_readF (read_no (show Own B _ (TxsO gx X::_) from HF0.out.1) HTX.out HF.out _ _) ?_
    rintro e w9 ⟨rfl,hO9,hb9⟩
    have O9:=Box.mk (And.intro hO9 (HF0.out.2.trans hb9))
    have HBR:=Box.mk (And.intro HF0.out.1.1 hb9)
    clear hO9 hb9
    have HT5:=(show Own B _ [BlkP gd 36 (dkC gx gg ⟨a0,(verT (cwOf com) 0).length,c0⟩ ⟨a1,(verT (cwOf com) 1).length,c1⟩ bw bi n tick ⟨ha,hs.length,hc⟩ bs),BlkP gw 90 [.int .i64 rt,.int .i64 rr,.bool false,.slice (some ⟨gv,0,none⟩) 1 1]]∧Below B w _ from And.intro (((O9.out.1.front 11 rfl).front 2 rfl).head2) O9.out.2)
    refine ⟨_,rfl,hK'.out _ _ HT5 (fun _=>?_)⟩
    clear hK' K'
    conv=>arg 8;simp [go_sem]
    refine ⟨by kernel_rfl,?_⟩
    conv =>
     arg 5
     simp [go_sem]
    go_upto_region 10 with fail
    have HF0:=Box.mk (And.intro O9.out.1.drew O9.out.2.drew)
    have HS0:(Own B w9.drew [BlkP gd 36 (dkC gx gg ⟨a0,(verT (cwOf com) 0).length,c0⟩ ⟨a1,(verT (cwOf com) 1).length,c1⟩ bw bi n tick ⟨ha,hs.length,hc⟩ bs),BlkP gw 90 [.int .i64 rt,.int .i64 rr,.bool false,.slice (some ⟨gv,0,none⟩) 1 1]]∧Below B w w9.drew):=⟨(((HF0.out.1.front 11 rfl).front 2 rfl).head2),HF0.out.2⟩
    clear O9
    refine wp_region_held_drew (S:=fun w'=>(Own B w' [BlkP gd 36 (dkC gx gg ⟨a0,(verT (cwOf com) 0).length,c0⟩ ⟨a1,(verT (cwOf com) 1).length,c1⟩ bw bi n tick ⟨ha,hs.length,hc⟩ bs),BlkP gw 90 [.int .i64 rt,.int .i64 rr,.bool false,.slice (some ⟨gv,0,none⟩) 1 1]]∧Below B w w')) (by kernel_rfl) HS0 (fun _=>?_)
    generalize w9.drew=wd9 at *
    refine tw 0 rfl HS0 ?_
    conv=>arg 8;simp [go_sem]
    refine tw 1 rfl HS0 ?_
    conv=>arg 8;simp [go_sem]
    refine tw 2 rfl HS0 ?_
    conv=>arg 8;simp [go_sem]
    refine tv 3 rfl (fun w' hS=>by have e:w'.cell? ⟨gd,0,none⟩=some (.pointer (some ⟨gx,0,none⟩)):=(hS.1.blk 0 rfl).1.cellOf (i:=0) rfl;go_simp;all_goals with_reducible rfl) HS0 ?_
    conv=>arg 8;simp [go_sem]
    refine tw 4 rfl HS0 ?_
    conv=>arg 8;simp [go_sem]
    refine tk 5 (v:=.agg #[.int .i64 rt,.int .i64 rr,.bool false,.slice (some ⟨gv,0,none⟩) 1 1]) rfl (yieldsIf_load_agg (by rfl) 90 (.tmp 15) rfl aggWr rfl (cs:=[.int .i64 rt,.int .i64 rr,.bool false,.slice (some ⟨gv,0,none⟩) 1 1]) rfl (fun w' hS j u h=>by rw [add0];exact (hS.1.blk 1 rfl).1.cellOf h)) (HS0) ?_
    conv=>arg 8;simp [go_sem]
    refine ar 6 rfl fun K' hK'=>?_
    refine oper_call (by rfl) 36 [.tmp 68,.tmp 69,.tmp 70] #[25,3,90] rfl (vs:=[.pointer (some ⟨gx,0,none⟩),.int .i64 tx,.agg #[.int .i64 rt,.int .i64 rr,.bool false,.slice (some ⟨gv,0,none⟩) 1 1]]) rfl Tryz.func36 nm_write bd_write (write_no (show Own B _ (TxsO gx X::_) from HF0.out.1) HTX.out HF.out (⟨rt,rr,false,(some ⟨gv,0,none⟩),1,[⟨1,rv,[]⟩]⟩:WrP)) ?_
    rintro e w8 ⟨rfl,hO8,hb8⟩
    have O8:=Box.mk (And.intro hO8 (HF0.out.2.trans hb8))
    clear hO8 hb8
    have HT6:=(show Own B _ [BlkP gd 36 (dkC gx gg ⟨a0,(verT (cwOf com) 0).length,c0⟩ ⟨a1,(verT (cwOf com) 1).length,c1⟩ bw bi n tick ⟨ha,hs.length,hc⟩ bs),BlkP gw 90 [.int .i64 rt,.int .i64 rr,.bool false,.slice (some ⟨gv,0,none⟩) 1 1]]∧Below B w _ from And.intro (((O8.out.1.front 11 rfl).front 2 rfl).head2) O8.out.2)
    refine ⟨_,rfl,hK'.out _ _ HT6 (fun _=>?_)⟩
    clear hK' K'
    conv=>arg 8;simp [go_sem]
    refine ⟨by kernel_rfl,?_⟩
    conv =>
     arg 5
     simp [go_sem]
    go_wp2_with fail
    go_ret
    exact ⟨rfl,O8.out.2,com,wt,X,S,hs,G,mw,mi,ms,n,tick,gx,gg,bw,bi,bs,a0,c0,a1,c1,ha,hc,Own.keep10 O8.out.1,HJ.out.step1⟩
   | some t =>
    have HF:=Box.mk hf
    clear hf
    have HND:=Box.mk ((Own.txs (show Own B w5 (TxsO gx X::_) from O5.out.1)).tn t (TxP.find_mem HF.out).2).rows.nodup
    have HF0:=Box.mk (And.intro O5.out.1.drew O5.out.2.drew)
    have HS0:(Own B w5.drew [BlkP gd 36 (dkC gx gg ⟨a0,(verT (cwOf com) 0).length,c0⟩ ⟨a1,(verT (cwOf com) 1).length,c1⟩ bw bi n tick ⟨ha,hs.length,hc⟩ bs),BlkP gw 90 [.int .i64 rt,.int .i64 rr,.bool false,.slice (some ⟨gv,0,none⟩) 1 1]]∧Below B w w5.drew):=⟨(((HF0.out.1.front 11 rfl).front 2 rfl).head2),HF0.out.2⟩
    clear O5
    refine wp_region_held_drew (S:=fun w'=>(Own B w' [BlkP gd 36 (dkC gx gg ⟨a0,(verT (cwOf com) 0).length,c0⟩ ⟨a1,(verT (cwOf com) 1).length,c1⟩ bw bi n tick ⟨ha,hs.length,hc⟩ bs),BlkP gw 90 [.int .i64 rt,.int .i64 rr,.bool false,.slice (some ⟨gv,0,none⟩) 1 1]]∧Below B w w')) (by kernel_rfl) HS0 (fun _=>?_)
    generalize w5.drew=wd8 at *
    refine tw 0 rfl HS0 ?_
    conv=>arg 8;simp [go_sem]
    refine tw 1 rfl HS0 ?_
    conv=>arg 8;simp [go_sem]
    refine tw 2 rfl HS0 ?_
    conv=>arg 8;simp [go_sem]
    refine tv 3 rfl (fun w' hS=>by have e:w'.cell? ⟨gd,0,none⟩=some (.pointer (some ⟨gx,0,none⟩)):=(hS.1.blk 0 rfl).1.cellOf (i:=0) rfl;go_simp;all_goals with_reducible rfl) HS0 ?_
    conv=>arg 8;simp [go_sem]
    refine tw 4 rfl HS0 ?_
    conv=>arg 8;simp [go_sem]
    refine tw 5 rfl HS0 ?_
    conv=>arg 8;simp [go_sem]
    refine tv 6 rfl (fun w' hS=>by have e:w'.cell? ⟨gw,0,none⟩=some (.int .i64 rt):=(hS.1.blk 1 rfl).1.cellOf (i:=0) rfl;go_simp;all_goals with_reducible rfl) HS0 ?_
    conv=>arg 8;simp [go_sem]
    refine tw 7 rfl HS0 ?_
    conv=>arg 8;simp [go_sem]
    refine tv 8 rfl (fun w' hS=>by have e:w'.cell? ⟨gw,1,none⟩=some (.int .i64 rr):=(hS.1.blk 1 rfl).1.cellOf (i:=1) rfl;go_simp;all_goals with_reducible rfl) HS0 ?_
    conv=>arg 8;simp [go_sem]
    refine ar 9 rfl fun K' hK'=>?_
    refine oper_call (by rfl) 35 [.tmp 58,.tmp 59,.tmp 61,.tmp 63] #[25,3,3,3] rfl (vs:=[.pointer (some ⟨gx,0,none⟩),.int .i64 tx,.int .i64 rt,.int .i64 rr]) rfl Tryz.func35 nm_readF bd_readF (read_any (s:=(rt,rr)) (show Own B _ (TxsO gx X::_) from HF0.out.1) HJ.out.x.ok HTX.out HF.out HSP.out) ?_
    rintro e w9 ⟨rfl,hO9,hb9⟩
    have O9:=Box.mk (And.intro hO9 (HF0.out.2.trans hb9))
    have HBR:=Box.mk (And.intro HF0.out.1.1 hb9)
    clear hO9 hb9
    have HT7:=(show Own B _ [BlkP gd 36 (dkC gx gg ⟨a0,(verT (cwOf com) 0).length,c0⟩ ⟨a1,(verT (cwOf com) 1).length,c1⟩ bw bi n tick ⟨ha,hs.length,hc⟩ bs),BlkP gw 90 [.int .i64 rt,.int .i64 rr,.bool false,.slice (some ⟨gv,0,none⟩) 1 1]]∧Below B w _ from And.intro (((O9.out.1.front 11 rfl).front 2 rfl).head2) O9.out.2)
    refine ⟨_,rfl,hK'.out _ _ HT7 (fun _=>?_)⟩
    clear hK' K'
    conv=>arg 8;simp [go_sem]
    refine ⟨by kernel_rfl,?_⟩
    conv =>
     arg 5
     simp [go_sem]
    have HJ2:=Box.mk (HJ.out.read (Nat.le_refl _) HF.out HND.out HSP.out)
    have HF2:=Box.mk (show (X.upd tx (t.read (rt,rr))).find tx=some (t.read (rt,rr)) from by rw [find_upd HF.out,if_pos rfl])
    have HMO:=Box.mk (show (t.read (rt,rr)).mode≠2 from by have h1:=(HJ.out.x.tn t (TxP.find_mem HF.out).2).mode;show t.mode≠2;omega)
    have HLG:=Box.mk (show (t.read (rt,rr)).log.length<1000 from by have h1:=(HJ.out.lg t (TxP.find_mem HF.out).2).1;show t.log.length<1000;omega)
    go_upto_region 10 with fail
    have HF0:=Box.mk (And.intro O9.out.1.drew O9.out.2.drew)
    have HS0:(Own B w9.drew [BlkP gd 36 (dkC gx gg ⟨a0,(verT (cwOf com) 0).length,c0⟩ ⟨a1,(verT (cwOf com) 1).length,c1⟩ bw bi n tick ⟨ha,hs.length,hc⟩ bs),BlkP gw 90 [.int .i64 rt,.int .i64 rr,.bool false,.slice (some ⟨gv,0,none⟩) 1 1]]∧Below B w w9.drew):=⟨(((HF0.out.1.front 11 rfl).front 2 rfl).head2),HF0.out.2⟩
    clear O9
    refine wp_region_held_drew (S:=fun w'=>(Own B w' [BlkP gd 36 (dkC gx gg ⟨a0,(verT (cwOf com) 0).length,c0⟩ ⟨a1,(verT (cwOf com) 1).length,c1⟩ bw bi n tick ⟨ha,hs.length,hc⟩ bs),BlkP gw 90 [.int .i64 rt,.int .i64 rr,.bool false,.slice (some ⟨gv,0,none⟩) 1 1]]∧Below B w w')) (by kernel_rfl) HS0 (fun _=>?_)
    generalize w9.drew=wd9 at *
    refine tw 0 rfl HS0 ?_
    conv=>arg 8;simp [go_sem]
    refine tw 1 rfl HS0 ?_
    conv=>arg 8;simp [go_sem]
    refine tw 2 rfl HS0 ?_
    conv=>arg 8;simp [go_sem]
    refine tv 3 rfl (fun w' hS=>by have e:w'.cell? ⟨gd,0,none⟩=some (.pointer (some ⟨gx,0,none⟩)):=(hS.1.blk 0 rfl).1.cellOf (i:=0) rfl;go_simp;all_goals with_reducible rfl) HS0 ?_
    conv=>arg 8;simp [go_sem]
    refine tw 4 rfl HS0 ?_
    conv=>arg 8;simp [go_sem]
    refine tk 5 (v:=.agg #[.int .i64 rt,.int .i64 rr,.bool false,.slice (some ⟨gv,0,none⟩) 1 1]) rfl (yieldsIf_load_agg (by rfl) 90 (.tmp 15) rfl aggWr rfl (cs:=[.int .i64 rt,.int .i64 rr,.bool false,.slice (some ⟨gv,0,none⟩) 1 1]) rfl (fun w' hS j u h=>by rw [add0];exact (hS.1.blk 1 rfl).1.cellOf h)) (HS0) ?_
    conv=>arg 8;simp [go_sem]
    refine ar 6 rfl fun K' hK'=>?_
    refine oper_call (by rfl) 36 [.tmp 68,.tmp 69,.tmp 70] #[25,3,90] rfl (vs:=[.pointer (some ⟨gx,0,none⟩),.int .i64 tx,.agg #[.int .i64 rt,.int .i64 rr,.bool false,.slice (some ⟨gv,0,none⟩) 1 1]]) rfl Tryz.func36 nm_write bd_write (write_any (X:=X.upd tx (t.read (rt,rr))) (t:=t.read (rt,rr)) (x:=(⟨rt,rr,false,(some ⟨gv,0,none⟩),1,[⟨1,rv,[]⟩]⟩:WrP)) (show Own B _ (TxsO gx (X.upd tx (t.read (rt,rr)))::_) from HF0.out.1) HJ2.out.x.ok HTX.out HF2.out HMO.out HLG.out HSP.out (by simp) (Rd.one (HF0.out.1.blk 12 rfl).1 (size:=3) rfl) (by simp)) ?_
    rintro e w8 ⟨rfl,hb8,va9,vc9,la,lc,hO8⟩
    have O8:=Box.mk (And.intro hO8 (HF0.out.2.trans hb8))
    clear hO8 hb8
    have HT8:=(show Own B _ [BlkP gd 36 (dkC gx gg ⟨a0,(verT (cwOf com) 0).length,c0⟩ ⟨a1,(verT (cwOf com) 1).length,c1⟩ bw bi n tick ⟨ha,hs.length,hc⟩ bs),BlkP gw 90 [.int .i64 rt,.int .i64 rr,.bool false,.slice (some ⟨gv,0,none⟩) 1 1]]∧Below B w _ from And.intro (((O8.out.1.front 12 rfl).front 3 rfl).head2) O8.out.2)
    refine ⟨_,rfl,hK'.out _ _ HT8 (fun _=>?_)⟩
    clear hK' K'
    conv=>arg 8;simp [go_sem]
    refine ⟨by kernel_rfl,?_⟩
    conv =>
     arg 5
     simp [go_sem]
    have hO7:=Own.keep10 (Own.immSecond O8.out.1 8 rfl)
    go_wp2_with fail
    go_ret
    exact ⟨rfl,O8.out.2,com,wt,(X.upd tx (t.read (rt,rr))).upd tx ((t.read (rt,rr)).write { (⟨rt,rr,false,(some ⟨gv,0,none⟩),1,[⟨1,rv,[]⟩]⟩:WrP) with va:=va9,vc:=vc9 } la lc),S,hs,(⟨va9,1,vc9,3,recC Val.enc [⟨1,rv,[]⟩]⟩::G),mw,mi,ms,n,tick,gx,gg,bw,bi,bs,a0,c0,a1,c1,ha,hc,hO7,HJ2.out.write (by omega) HF2.out (x:={ (⟨rt,rr,false,(some ⟨gv,0,none⟩),1,[⟨1,rv,[]⟩]⟩:WrP) with va:=va9,vc:=vc9 }) HSP.out (by simp) (by simp) la lc⟩
end
section
open Go.RowKit Go.Maps
theorem do_any {ser:Bool} {m gd B:Nat} {w:World} {com:List (Int×List WrP)} {wt:List Wtx} {X:TxP} {S:Gr.GS} {hs:List HpP} {G:List RdD} {mw:List (Int×WsS)} {mi:List (Int×Int)} {ms:List (Int×SnP)} {n tick:Int} {gx gg bw bi bs:Nat} {a0 a1 ha:Option Addr} {c0 c1 hc:Nat}
  (O:Own B w (DkL gd gx gg bw bi bs n tick com X S hs G mw mi (SeenO bs ms) a0 c0 a1 c1 ha hc)) (j:DkJ ser m com wt X S hs G mw mi ms n tick) (hm:m<60) {mk mn mt mr mv:Int} (hmn:In64 mn) (hmt:In64 mt) (hmr:In64 mr) (hmv:In64 mv) (hser:ser=true→mk=0→mn=1) :
  Calls Tryz.prog 7 #[.pointer (some ⟨gd,0,none⟩),.agg #[.int .i64 mk,.int .i64 mn,.int .i64 mt,.int .i64 mr,.int .i64 mv]] w (RetDk ser (m+1) gd B w):=by
 by_cases h0:mk=0
 ·subst h0;exact do_begin O j hm hmn hmt hmr hmv fun h=>hser h rfl
 by_cases h1:mk=1
 ·subst h1;exact do_commit O j hm hmn hmt hmr hmv
 by_cases h2:mk=2
 ·subst h2;exact do_abort O j hm hmn hmt hmr hmv
 by_cases h3:mk=3
 ·subst h3;exact do_tick O j hm hmn hmt hmr hmv
 by_cases h4:mk=4
 ·subst h4;exact do_fail O j hm hmn hmt hmr hmv
 by_cases h5:mk=5
 ·subst h5;exact do_read O j hm hmn hmt hmr hmv
 exact do_write O j hm hmn hmt hmr hmv ⟨h0,h1,h2,h3,h4,h5⟩
end
end Go.Proofs.YtlfghapllmaigaaGreatDoor
