/-
  What the desk's steps ask and return; The walks of the desk's do: Abort, a tick, Read; The walks of the desk's do: a tick, Read. Conditions: each theorem's own hypotheses.
-/
import Derived.Test.YtlfghapllmaigaaGreatDoorK36
import Derived.Test.YtlfghapllmaigaaGreatDoorK32
import Derived.Deep.CutRange
import Derived.Test.YtlfghapllmaigaaGreatDoorK37
set_option linter.unusedVariables false
set_option linter.unusedSimpArgs false
namespace Go.Proofs.YtlfghapllmaigaaGreatDoor
section
open Go.RowKit Go.Maps
theorem Own.head2 {B:Nat} {w:World} {P Q:HP} {l:List HP} (O:Own B w (P::Q::l)):Own B w [P,Q]:=Own.dropL (m:=l) (O.perm (List.perm_append_comm (l₁:=[P,Q]) (l₂:=l)))
def DkO (ser:Bool) (m gd B:Nat) (w:World):Prop:=∃ (com:List (Int×List WrP)) (wt:List Wtx) (X:TxP) (S:Gr.GS) (hs:List HpP) (G:List RdD) (mw:List (Int×WsS)) (mi:List (Int×Int)) (ms:List (Int×SnP)) (n tick:Int) (gx gg bw bi bs:Nat) (a0:Option Addr) (c0:Nat) (a1:Option Addr) (c1:Nat) (ha:Option Addr) (hc:Nat),
 Own B w (DkL gd gx gg bw bi bs n tick com X S hs G mw mi (SeenO bs ms) a0 c0 a1 c1 ha hc)∧DkJ ser m com wt X S hs G mw mi ms n tick
def RetDk (ser:Bool) (m gd B:Nat) (w:World) (e:Ending) (w':World):Prop:=e=.returned (.bool true)∧Below B w w'∧DkO ser m gd B w'
theorem und_seen:Tryz.prog.underlying 31=some (.map 3 33):=by kernel_rfl
theorem nm_least:(Tryz.f26.name == "runtime.NumGoroutine")=false:=by kernel_rfl
theorem bd_least:Tryz.f26.body.isNone=false:=by kernel_rfl
theorem wp_own {B:Nat} {w0 w':World} {L:List HP} (O:Own B w' L) (b:Below B w0 w') {P:Program} {c:Code} {Q:Exit→Act→World→Prop} {a:Act} (h:∀W,Own B W L→Below B w0 W→c.wp P Q a W):c.wp P Q a w':=h w' O b
theorem calls_own {B:Nat} {w0 w':World} {L:List HP} (O:Own B w' L) (b:Below B w0 w') {P:Program} {f:FuncId} {args:Array Value} {Q:Ending→World→Prop} (h:∀W,Own B W L→Below B w0 W→Calls P f args W Q):Calls P f args w' Q:=h w' O b
theorem and_le (x:Int) {m:Int} (h0:0≤m) (h1:m≤1000):0≤bits BinOp.and IntKind.i64 x m∧bits BinOp.and IntKind.i64 x m≤m:=by
 have hb:(BitVec.ofInt 64 m).toNat=m.toNat:=by
  rw [BitVec.toNat_ofInt]
  show (m % 18446744073709551616).toNat=m.toNat
  omega
 have h2:(BitVec.ofInt 64 x &&& BitVec.ofInt 64 m).toNat≤m.toNat:=by
  rw [BitVec.toNat_and,hb];exact Nat.and_le_right
 have h3:bits BinOp.and IntKind.i64 x m=IntKind.i64.wrap (((BitVec.ofInt 64 x &&& BitVec.ofInt 64 m).toNat:Nat):Int):=rfl
 rw [h3,IntWalk.i64_in _ (by omega)];omega
end
section
open Go.RowKit Go.Maps
attribute [local go_sem] Oper.semAt_some
set_option maxRecDepth 20000 in
set_option maxHeartbeats 16000000 in
theorem do_abort {ser:Bool} {m gd B:Nat} {w:World} {com:List (Int×List WrP)} {wt:List Wtx} {X:TxP} {S:Gr.GS} {hs:List HpP} {G:List RdD} {mw:List (Int×WsS)} {mi:List (Int×Int)} {ms:List (Int×SnP)} {n tick:Int} {gx gg bw bi bs:Nat} {a0 a1 ha:Option Addr} {c0 c1 hc:Nat}
  (O:Own B w (DkL gd gx gg bw bi bs n tick com X S hs G mw mi (SeenO bs ms) a0 c0 a1 c1 ha hc)) (j:DkJ ser m com wt X S hs G mw mi ms n tick) (hm:m<60) {mn mt mr mv:Int} (hmn:In64 mn) (hmt:In64 mt) (hmr:In64 mr) (hmv:In64 mv) :
  Calls Tryz.prog 7 #[.pointer (some ⟨gd,0,none⟩),.agg #[.int .i64 2,.int .i64 mn,.int .i64 mt,.int .i64 mr,.int .i64 mv]] w (RetDk ser (m+1) gd B w):=by
 have HJ:=Box.mk j
 have O1:=Box.mk (O.new [.int .i64 2,.int .i64 mn,.int .i64 mt,.int .i64 mr,.int .i64 mv] 38)
 have B1:=Box.mk ((Below.refl B w).alloc O.1 (.cells #[.int .i64 2,.int .i64 mn,.int .i64 mt,.int .i64 mr,.int .i64 mv] 38))
 have HMN:=Box.mk hmn
 have HMM:=Box.mk (And.intro hmt (And.intro hmr hmv))
 have hm100:X.all.length≤100:=j.x.ok.len
 have hna2:X.act.length≤X.all.length:=by unfold TxP.all;rw [List.length_append,List.length_map];omega
 clear O j hmn hmt hmr hmv
 go_enter Tryz.func7,Tryz.ntmps7
 go_upto_region 1 with fail
 generalize w.heap.size=gm at *
 generalize (w.alloc (.cells #[.int .i64 2,.int .i64 mn,.int .i64 mt,.int .i64 mr,.int .i64 mv] 38))=w1 at *
 have y0:w1.cell? ⟨gd,0,none⟩=some (.pointer (some ⟨gx,0,none⟩)):=(O1.out.blk 1 rfl).1.cellOf (i:=0) rfl
 go_wp2_with fail
 refine (active_any (Own.txs O1.out) HJ.out.x.ok).mono ?_
 rintro e w2 ⟨hb,aa,ac,rfl,hrow⟩
 obtain ⟨na,hna⟩:∃na,(X.act.map (·.1)).length=na:=⟨_,rfl⟩
 rw [hna] at hrow ⊢
 have O2:=Box.mk (O1.out.newRow hb hrow (Nat.le_refl _))
 have B2:=Box.mk (B1.out.trans (hb.mono O1.out.1))
 have HNA:=Box.mk hna
 have hnl:na≤100:=by rw [← hna,List.length_map];omega
 clear hrow hb y0 O1 B1 hna hna2 hm100
 have y1:w2.cell? ⟨gm,1,none⟩=some (.int .i64 mn):=(O2.out.blk 10 rfl).1.cellOf (i:=1) rfl
 go_upto_if 23 with fail
 go_cut [6] from 23 (fun s6 wx=>∃tx:Int,s6=.int .i64 tx∧Box (In64 tx∧Own B wx (DkL gd gx gg bw bi bs n tick com X S hs G mw mi (SeenO bs ms) a0 c0 a1 c1 ha hc++[BlkP gm 38 [.int .i64 2,.int .i64 mn,.int .i64 mt,.int .i64 mr,.int .i64 mv]])∧Below B w wx))
 case first =>
  by_cases h0:0<na
  ·obtain ⟨ix,hix⟩:∃ix:Nat,mn % (na:Int)=(ix:Int):=⟨(mn % (na:Int)).toNat,(Int.toNat_of_nonneg (Int.emod_nonneg _ (by omega))).symm⟩
   have hixl:ix<na:=by have:=Int.emod_lt_of_pos mn (show (0:Int)<na by omega);omega
   have HL:=Box.mk (show Calls Tryz.prog 26 #[.int .i64 mn,.int .i64 (na:Int)] w2 (RetV (.int .i64 (ix:Int)) w2) from by have h1:=least_any HMN.out (show (0:Int)<na by omega) (by omega) w2;rw [hix] at h1;exact h1)
   clear hix
   go_wp2_with fail
   refine HL.out.mono ?_
   rintro e w3 ⟨rfl,hb3⟩
   have O3:=Box.mk (O2.out.below hb3)
   have B3:=Box.mk (B2.out.trans (hb3.mono O2.out.1))
   clear hb3 O2 B2 y1 HL
   obtain ⟨ob,ooff,haa,hco⟩:=(Rd.ofOwn (O3.out.row 11 rfl)).intAtD ix hixl
   obtain ⟨tx,htx⟩:∃tx,(X.act.map (·.1)).getD ix 0=tx:=⟨_,rfl⟩
   rw [htx] at hco
   have HT:=Box.mk (show In64 tx from by
    have h1:tx∈X.act.map (·.1):=by rw [← htx,List.getD_eq_getElem?_getD,List.getElem?_eq_getElem (by rw [HNA.out];exact hixl)];exact List.getElem_mem _
    obtain ⟨q,hq,rfl⟩:=List.mem_map.1 h1
    exact HJ.out.x.ok.i64 q hq)
   clear htx
   subst haa
   go_wp2_with fail
   go_meet
   case rel=>exact ⟨tx,rfl,⟨HT.out,O3.out.drop 11,B3.out⟩⟩
  ·obtain rfl:na=0:=by omega
   go_wp2_with fail
   go_meet
   case rel=>exact ⟨0,rfl,⟨by unfold In64;omega,O2.out.drop 11,B2.out⟩⟩
 case rest =>
  obtain ⟨tx,rfl,HC⟩:=hcut
  clear O2 B2 y1 HNA hnl
  have O3:=Box.mk HC.out.2.1
  have B3:=Box.mk HC.out.2.2
  have HTX:=Box.mk HC.out.1
  clear HC
  have m0:wc.cell? ⟨gm,0,none⟩=some (.int .i64 2):=(O3.out.blk 10 rfl).1.cellOf (i:=0) rfl
  have y0:wc.cell? ⟨gd,0,none⟩=some (.pointer (some ⟨gx,0,none⟩)):=(O3.out.blk 1 rfl).1.cellOf (i:=0) rfl
  cases hf:X.find tx with
  | none =>
   have HF:=Box.mk hf
   clear hf
   go_wp2_with fail
   refine (abort_no (show Own B wc (TxsO gx X::_) from O3.out) HTX.out HF.out).mono ?_
   rintro e w4 ⟨rfl,hO4,hb4⟩
   have O4:=Box.mk hO4
   have B4:=Box.mk (B3.out.trans hb4)
   clear hO4 hb4 O3 B3 y0 m0
   have y9:w4.cell? ⟨gd,9,none⟩=some (.map (some bs)):=(O4.out.blk 1 rfl).1.cellOf (i:=9) rfl
   have HND:=Box.mk ((O4.out.map 9 rfl).1.nodup)
   obtain ⟨w8,hrun,hO8,hb8,_⟩:=O4.out.delMap K_int kI_inj und_seen 9 rfl (keyI HTX.out) 0
   simp only [kI] at hrun
   have O8:=Box.mk hO8
   have B8:=Box.mk hb8
   clear hO8 hb8
   go_wp2_with fail
   go_ret
   exact ⟨rfl,B4.out.trans B8.out,com,wt,X,S,hs,G,mw,mi,delA ms tx,n,tick,gx,gg,bw,bi,bs,a0,c0,a1,c1,ha,hc,O8.out.drop 10,HJ.out.delS HND.out tx⟩
  | some t =>
   have HF:=Box.mk hf
   clear hf
   go_wp2_with fail
   refine (abort_any (show Own B wc (TxsO gx X::_) from O3.out) HJ.out.x.ok HTX.out HF.out).mono ?_
   rintro e w4 ⟨rfl,hb4,k,ka,kc,hk1,hk2,hO4⟩
   have O4:=Box.mk hO4
   have B4:=Box.mk (B3.out.trans hb4)
   have HK:=Box.mk (And.intro hk1 hk2)
   clear hO4 hb4 hk1 hk2 O3 B3 y0 m0
   have y9:w4.cell? ⟨gd,9,none⟩=some (.map (some bs)):=(O4.out.blk 1 rfl).1.cellOf (i:=9) rfl
   have HND:=Box.mk ((O4.out.map 9 rfl).1.nodup)
   obtain ⟨w8,hrun,hO8,hb8,_⟩:=O4.out.delMap K_int kI_inj und_seen 9 rfl (keyI HTX.out) 0
   simp only [kI] at hrun
   have O8:=Box.mk hO8
   have B8:=Box.mk hb8
   clear hO8 hb8
   go_wp2_with fail
   go_ret
   exact ⟨rfl,B4.out.trans B8.out,com,wt,(X.drop tx).less k ka kc,S,hs,G,mw,mi,delA ms tx,n,tick,gx,gg,bw,bi,bs,a0,c0,a1,c1,ha,hc,O8.out.drop 10,HJ.out.drop HND.out tx HK.out.1 HK.out.2 ka kc⟩
end
section
open Go.RowKit Go.Maps
attribute [local go_sem] Oper.semAt_some
theorem nm_read:(Tryz.f35.name == "runtime.NumGoroutine")=false:=by kernel_rfl
theorem bd_read:Tryz.f35.body.isNone=false:=by kernel_rfl
set_option maxRecDepth 20000 in
set_option maxHeartbeats 16000000 in
theorem do_tick {ser:Bool} {m gd B:Nat} {w:World} {com:List (Int×List WrP)} {wt:List Wtx} {X:TxP} {S:Gr.GS} {hs:List HpP} {G:List RdD} {mw:List (Int×WsS)} {mi:List (Int×Int)} {ms:List (Int×SnP)} {n tick:Int} {gx gg bw bi bs:Nat} {a0 a1 ha:Option Addr} {c0 c1 hc:Nat}
  (O:Own B w (DkL gd gx gg bw bi bs n tick com X S hs G mw mi (SeenO bs ms) a0 c0 a1 c1 ha hc)) (j:DkJ ser m com wt X S hs G mw mi ms n tick) (hm:m<60) {mn mt mr mv:Int} (hmn:In64 mn) (hmt:In64 mt) (hmr:In64 mr) (hmv:In64 mv) :
  Calls Tryz.prog 7 #[.pointer (some ⟨gd,0,none⟩),.agg #[.int .i64 3,.int .i64 mn,.int .i64 mt,.int .i64 mr,.int .i64 mv]] w (RetDk ser (m+1) gd B w):=by
 have HJ:=Box.mk j
 have O1:=Box.mk (O.new [.int .i64 3,.int .i64 mn,.int .i64 mt,.int .i64 mr,.int .i64 mv] 38)
 have B1:=Box.mk ((Below.refl B w).alloc O.1 (.cells #[.int .i64 3,.int .i64 mn,.int .i64 mt,.int .i64 mr,.int .i64 mv] 38))
 have HMN:=Box.mk hmn
 have HMM:=Box.mk (And.intro hmt (And.intro hmr hmv))
 have hm100:X.all.length≤100:=j.x.ok.len
 have hna2:X.act.length≤X.all.length:=by unfold TxP.all;rw [List.length_append,List.length_map];omega
 clear O j hmn hmt hmr hmv
 go_enter Tryz.func7,Tryz.ntmps7
 go_upto_region 1 with fail
 generalize w.heap.size=gm at *
 generalize (w.alloc (.cells #[.int .i64 3,.int .i64 mn,.int .i64 mt,.int .i64 mr,.int .i64 mv] 38))=w1 at *
 have y0:w1.cell? ⟨gd,0,none⟩=some (.pointer (some ⟨gx,0,none⟩)):=(O1.out.blk 1 rfl).1.cellOf (i:=0) rfl
 go_wp2_with fail
 refine (active_any (Own.txs O1.out) HJ.out.x.ok).mono ?_
 rintro e w2 ⟨hb,aa,ac,rfl,hrow⟩
 obtain ⟨na,hna⟩:∃na,(X.act.map (·.1)).length=na:=⟨_,rfl⟩
 rw [hna] at hrow ⊢
 have O2:=Box.mk (O1.out.newRow hb hrow (Nat.le_refl _))
 have B2:=Box.mk (B1.out.trans (hb.mono O1.out.1))
 have HNA:=Box.mk hna
 have hnl:na≤100:=by rw [← hna,List.length_map];omega
 clear hrow hb y0 O1 B1 hna hna2 hm100
 have y1:w2.cell? ⟨gm,1,none⟩=some (.int .i64 mn):=(O2.out.blk 10 rfl).1.cellOf (i:=1) rfl
 go_upto_if 23 with fail
 go_cut [6] from 23 (fun s6 wx=>∃tx:Int,s6=.int .i64 tx∧Box (In64 tx∧Own B wx (DkL gd gx gg bw bi bs n tick com X S hs G mw mi (SeenO bs ms) a0 c0 a1 c1 ha hc++[BlkP gm 38 [.int .i64 3,.int .i64 mn,.int .i64 mt,.int .i64 mr,.int .i64 mv]])∧Below B w wx))
 case first =>
  by_cases h0:0<na
  ·obtain ⟨ix,hix⟩:∃ix:Nat,mn % (na:Int)=(ix:Int):=⟨(mn % (na:Int)).toNat,(Int.toNat_of_nonneg (Int.emod_nonneg _ (by omega))).symm⟩
   have hixl:ix<na:=by have:=Int.emod_lt_of_pos mn (show (0:Int)<na by omega);omega
   have HL:=Box.mk (show Calls Tryz.prog 26 #[.int .i64 mn,.int .i64 (na:Int)] w2 (RetV (.int .i64 (ix:Int)) w2) from by have h1:=least_any HMN.out (show (0:Int)<na by omega) (by omega) w2;rw [hix] at h1;exact h1)
   clear hix
   go_wp2_with fail
   refine HL.out.mono ?_
   rintro e w3 ⟨rfl,hb3⟩
   have O3:=Box.mk (O2.out.below hb3)
   have B3:=Box.mk (B2.out.trans (hb3.mono O2.out.1))
   clear hb3 O2 B2 y1 HL
   obtain ⟨ob,ooff,haa,hco⟩:=(Rd.ofOwn (O3.out.row 11 rfl)).intAtD ix hixl
   obtain ⟨tx,htx⟩:∃tx,(X.act.map (·.1)).getD ix 0=tx:=⟨_,rfl⟩
   rw [htx] at hco
   have HT:=Box.mk (show In64 tx from by
    have h1:tx∈X.act.map (·.1):=by rw [← htx,List.getD_eq_getElem?_getD,List.getElem?_eq_getElem (by rw [HNA.out];exact hixl)];exact List.getElem_mem _
    obtain ⟨q,hq,rfl⟩:=List.mem_map.1 h1
    exact HJ.out.x.ok.i64 q hq)
   clear htx
   subst haa
   go_wp2_with fail
   go_meet
   case rel=>exact ⟨tx,rfl,⟨HT.out,O3.out.drop 11,B3.out⟩⟩
  ·obtain rfl:na=0:=by omega
   go_wp2_with fail
   go_meet
   case rel=>exact ⟨0,rfl,⟨by unfold In64;omega,O2.out.drop 11,B2.out⟩⟩
 case rest =>
  obtain ⟨tx,rfl,HC⟩:=hcut
  clear O2 B2 y1 HNA hnl
  have O3:=Box.mk HC.out.2.1
  have B3:=Box.mk HC.out.2.2
  have HTX:=Box.mk HC.out.1
  clear HC
  have m0:wc.cell? ⟨gm,0,none⟩=some (.int .i64 3):=(O3.out.blk 10 rfl).1.cellOf (i:=0) rfl
  have htk:=HJ.out.tk
  have hw1:IntKind.i64.wrap (tick+1)=tick+1:=IntWalk.i64_in _ (by omega)
  have y7:wc.cell? ⟨gd,7,none⟩=some (.int .i64 tick):=(O3.out.blk 1 rfl).1.cellOf (i:=7) rfl
  have HST:=Box.mk (O3.out.setRow 1 rfl (splice (dkC gx gg ⟨a0,(verT (cwOf com) 0).length,c0⟩ ⟨a1,(verT (cwOf com) 1).length,c1⟩ bw bi n tick ⟨ha,hs.length,hc⟩ bs) 7 [.int .i64 (tick+1)]))
  go_wp2_with ((with_reducible show wpList _ _ _ _ _ _);refine wpList_store_part rfl 3 (.tmp 232) (.tmp 230) rfl rfl (size:=1) (off:=7) (by kernel_rfl) (O3.out.blk 1 rfl).1 (by simp [dkC]) rfl (cs:=[.int .i64 (tick+1)]) rfl rfl (by simp [Value.oneCell']) ?_)
  have HO4:=HST.out.1.drop 10
  have HRN:=Box.mk (run_dk (Q:=QX ser X) QX.step (show Own B _ (DkL gd gx gg bw bi bs n (tick+1) com X S hs G mw mi (SeenO bs ms) a0 c0 a1 c1 ha hc) from HO4) HJ.out.d ⟨HJ.out.x,rfl,fun t ht=>ht⟩ (by omega))
  have B4:=Box.mk (B3.out.trans HST.out.2)
  clear HO4 HST O3 B3 y7 m0 htk
  refine HRN.out.mono ?_
  rintro e w5 ⟨rfl,hb5,mm,k,X',S',hs',G',a0',c0',a1',c1',ha',hc',hO5,hd,hq,hact,hbeg,hlen,hsub⟩
  have HE:=Box.mk (And.intro hO5 (HJ.out.run hd hq hact hbeg hlen hsub (tick':=tick+1) (by have:=HJ.out.tk;omega)))
  have B5:=Box.mk (B4.out.trans hb5)
  clear hO5 hd hq hact hbeg hlen hsub hb5 B4 HRN
  go_wp2_with fail
  go_ret
  exact ⟨rfl,B5.out,com++mm,wt.drop k,X',S',hs',G',mw,mi,ms,n,tick+1,gx,gg,bw,bi,bs,a0',c0',a1',c1',ha',hc',HE.out.1,HE.out.2⟩
set_option maxRecDepth 20000 in
set_option maxHeartbeats 16000000 in
theorem do_read {ser:Bool} {m gd B:Nat} {w:World} {com:List (Int×List WrP)} {wt:List Wtx} {X:TxP} {S:Gr.GS} {hs:List HpP} {G:List RdD} {mw:List (Int×WsS)} {mi:List (Int×Int)} {ms:List (Int×SnP)} {n tick:Int} {gx gg bw bi bs:Nat} {a0 a1 ha:Option Addr} {c0 c1 hc:Nat}
  (O:Own B w (DkL gd gx gg bw bi bs n tick com X S hs G mw mi (SeenO bs ms) a0 c0 a1 c1 ha hc)) (j:DkJ ser m com wt X S hs G mw mi ms n tick) (hm:m<60) {mn mt mr mv:Int} (hmn:In64 mn) (hmt:In64 mt) (hmr:In64 mr) (hmv:In64 mv) :
  Calls Tryz.prog 7 #[.pointer (some ⟨gd,0,none⟩),.agg #[.int .i64 5,.int .i64 mn,.int .i64 mt,.int .i64 mr,.int .i64 mv]] w (RetDk ser (m+1) gd B w):=by
 have HJ:=Box.mk j
 have O1:=Box.mk (O.new [.int .i64 5,.int .i64 mn,.int .i64 mt,.int .i64 mr,.int .i64 mv] 38)
 have B1:=Box.mk ((Below.refl B w).alloc O.1 (.cells #[.int .i64 5,.int .i64 mn,.int .i64 mt,.int .i64 mr,.int .i64 mv] 38))
 have HMN:=Box.mk hmn
 have HMM:=Box.mk (And.intro hmt (And.intro hmr hmv))
 have hm100:X.all.length≤100:=j.x.ok.len
 have hna2:X.act.length≤X.all.length:=by unfold TxP.all;rw [List.length_append,List.length_map];omega
 clear O j hmn hmt hmr hmv
 go_enter Tryz.func7,Tryz.ntmps7
 go_upto_region 1 with fail
 generalize w.heap.size=gm at *
 generalize (w.alloc (.cells #[.int .i64 5,.int .i64 mn,.int .i64 mt,.int .i64 mr,.int .i64 mv] 38))=w1 at *
 have y0:w1.cell? ⟨gd,0,none⟩=some (.pointer (some ⟨gx,0,none⟩)):=(O1.out.blk 1 rfl).1.cellOf (i:=0) rfl
 go_wp2_with fail
 refine (active_any (Own.txs O1.out) HJ.out.x.ok).mono ?_
 rintro e w2 ⟨hb,aa,ac,rfl,hrow⟩
 obtain ⟨na,hna⟩:∃na,(X.act.map (·.1)).length=na:=⟨_,rfl⟩
 rw [hna] at hrow ⊢
 have O2:=Box.mk (O1.out.newRow hb hrow (Nat.le_refl _))
 have B2:=Box.mk (B1.out.trans (hb.mono O1.out.1))
 have HNA:=Box.mk hna
 have hnl:na≤100:=by rw [← hna,List.length_map];omega
 clear hrow hb y0 O1 B1 hna hna2 hm100
 have y1:w2.cell? ⟨gm,1,none⟩=some (.int .i64 mn):=(O2.out.blk 10 rfl).1.cellOf (i:=1) rfl
 go_upto_if 23 with fail
 go_cut [6] from 23 (fun s6 wx=>∃tx:Int,s6=.int .i64 tx∧Box (In64 tx∧Own B wx (DkL gd gx gg bw bi bs n tick com X S hs G mw mi (SeenO bs ms) a0 c0 a1 c1 ha hc++[BlkP gm 38 [.int .i64 5,.int .i64 mn,.int .i64 mt,.int .i64 mr,.int .i64 mv]])∧Below B w wx))
 case first =>
  by_cases h0:0<na
  ·obtain ⟨ix,hix⟩:∃ix:Nat,mn % (na:Int)=(ix:Int):=⟨(mn % (na:Int)).toNat,(Int.toNat_of_nonneg (Int.emod_nonneg _ (by omega))).symm⟩
   have hixl:ix<na:=by have:=Int.emod_lt_of_pos mn (show (0:Int)<na by omega);omega
   have HL:=Box.mk (show Calls Tryz.prog 26 #[.int .i64 mn,.int .i64 (na:Int)] w2 (RetV (.int .i64 (ix:Int)) w2) from by have h1:=least_any HMN.out (show (0:Int)<na by omega) (by omega) w2;rw [hix] at h1;exact h1)
   clear hix
   go_wp2_with fail
   refine HL.out.mono ?_
   rintro e w3 ⟨rfl,hb3⟩
   have O3:=Box.mk (O2.out.below hb3)
   have B3:=Box.mk (B2.out.trans (hb3.mono O2.out.1))
   clear hb3 O2 B2 y1 HL
   obtain ⟨ob,ooff,haa,hco⟩:=(Rd.ofOwn (O3.out.row 11 rfl)).intAtD ix hixl
   obtain ⟨tx,htx⟩:∃tx,(X.act.map (·.1)).getD ix 0=tx:=⟨_,rfl⟩
   rw [htx] at hco
   have HT:=Box.mk (show In64 tx from by
    have h1:tx∈X.act.map (·.1):=by rw [← htx,List.getD_eq_getElem?_getD,List.getElem?_eq_getElem (by rw [HNA.out];exact hixl)];exact List.getElem_mem _
    obtain ⟨q,hq,rfl⟩:=List.mem_map.1 h1
    exact HJ.out.x.ok.i64 q hq)
   clear htx
   subst haa
   go_wp2_with fail
   go_meet
   case rel=>exact ⟨tx,rfl,⟨HT.out,O3.out.drop 11,B3.out⟩⟩
  ·obtain rfl:na=0:=by omega
   go_wp2_with fail
   go_meet
   case rel=>exact ⟨0,rfl,⟨by unfold In64;omega,O2.out.drop 11,B2.out⟩⟩
 case rest =>
  obtain ⟨tx,rfl,HC⟩:=hcut
  clear O2 B2 y1 HNA hnl
  have O3:=Box.mk HC.out.2.1
  have B3:=Box.mk HC.out.2.2
  have HTX:=Box.mk HC.out.1
  clear HC
  have m0:wc.cell? ⟨gm,0,none⟩=some (.int .i64 5):=(O3.out.blk 10 rfl).1.cellOf (i:=0) rfl
  obtain ⟨rt,hrt⟩:∃rt,bits BinOp.and IntKind.i64 mt 1=rt:=⟨_,rfl⟩
  obtain ⟨rr,hrr⟩:∃rr,bits BinOp.and IntKind.i64 mr 3=rr - 1:=⟨bits BinOp.and IntKind.i64 mr 3+1,by omega⟩
  have hb1:=and_le mt (m:=1) (by omega) (by omega)
  have hb2:=and_le mr (m:=3) (by omega) (by omega)
  rw [hrt] at hb1
  rw [hrr] at hb2
  have HSP:=Box.mk (show (rt,rr)∈spots from spots_iff.2 (by simp only;omega))
  have hw1:IntKind.i64.wrap (1+(rr - 1))=rr:=by rw [IntWalk.i64_in _ (by omega)];omega
  clear hb1 hb2
  cases hf:X.find tx with
  | none =>
   have HF:=Box.mk hf
   clear hf
   go_upto_region 39 with fail
   have HF0:=Box.mk (And.intro O3.out.drew B3.out.drew)
   have HS0:Own B wc.drew [BlkP gd 36 (dkC gx gg ⟨a0,(verT (cwOf com) 0).length,c0⟩ ⟨a1,(verT (cwOf com) 1).length,c1⟩ bw bi n tick ⟨ha,hs.length,hc⟩ bs),BlkP gm 38 [.int .i64 5,.int .i64 mn,.int .i64 mt,.int .i64 mr,.int .i64 mv]]∧Below B w wc.drew:=⟨((HF0.out.1.front 10 rfl).front 2 rfl).head2,HF0.out.2⟩
   clear O3 B3 m0
   refine wp_region_held_drew (S:=fun w'=>(Own B w' [BlkP gd 36 (dkC gx gg ⟨a0,(verT (cwOf com) 0).length,c0⟩ ⟨a1,(verT (cwOf com) 1).length,c1⟩ bw bi n tick ⟨ha,hs.length,hc⟩ bs),BlkP gm 38 [.int .i64 5,.int .i64 mn,.int .i64 mt,.int .i64 mr,.int .i64 mv]]∧Below B w w')) (by kernel_rfl) HS0 (fun _=>?_)
   generalize wc.drew=wd at *
   refine tw 0 rfl HS0 ?_
   conv=>arg 8;simp [go_sem]
   refine tw 1 rfl HS0 ?_
   conv=>arg 8;simp [go_sem]
   refine tw 2 rfl HS0 ?_
   conv=>arg 8;simp [go_sem]
   refine tv 3 rfl (fun w' hS=>by have e:w'.cell? ⟨gd,0,none⟩=some (.pointer (some ⟨gx,0,none⟩)):=(hS.1.blk 0 rfl).1.cellOf (i:=0) rfl;go_simp;all_goals with_reducible rfl) HS0 ?_
   conv=>arg 8;simp [go_sem]
   refine tw 4 rfl HS0 ?_
   conv=>arg 8;simp [go_sem]
   refine tw 5 rfl HS0 ?_
   conv=>arg 8;simp [go_sem]
   refine tv 6 rfl (fun w' hS=>by have e:w'.cell? ⟨gm,2,none⟩=some (.int .i64 mt):=(hS.1.blk 1 rfl).1.cellOf (i:=2) rfl;go_simp;all_goals with_reducible rfl) HS0 ?_
   conv=>arg 8;simp [go_sem]
   refine tw 7 rfl HS0 ?_
   conv=>arg 8;simp [go_sem]
   refine tw 8 rfl HS0 ?_
   conv=>arg 8;simp [go_sem]
   refine tv 9 rfl (fun w' hS=>by have e:w'.cell? ⟨gm,3,none⟩=some (.int .i64 mr):=(hS.1.blk 1 rfl).1.cellOf (i:=3) rfl;go_simp;all_goals with_reducible rfl) HS0 ?_
   conv=>arg 8;simp [go_sem]
   refine tw 10 rfl HS0 ?_
   conv=>arg 8;simp [go_sem]
   refine tw 11 rfl HS0 ?_
   conv=>arg 8;simp [go_sem]
   refine ar 12 rfl fun K' hK'=>?_
   refine oper_call (by rfl) 35 [.tmp 294,.tmp 295,.tmp 298,.tmp 302] #[25,3,3,3] rfl (vs:=[.pointer (some ⟨gx,0,none⟩),.int .i64 tx,.int .i64 rt,.int .i64 rr]) rfl Tryz.func35 nm_read bd_read (read_no (show Own B _ (TxsO gx X::_) from HF0.out.1) HTX.out HF.out _ _) ?_
   rintro e w9 ⟨rfl,hO9,hb9⟩
   have O9:=Box.mk (And.intro hO9 (HF0.out.2.trans hb9))
   clear hO9 hb9
   have HT1:=(show Own B _ [BlkP gd 36 (dkC gx gg ⟨a0,(verT (cwOf com) 0).length,c0⟩ ⟨a1,(verT (cwOf com) 1).length,c1⟩ bw bi n tick ⟨ha,hs.length,hc⟩ bs),BlkP gm 38 [.int .i64 5,.int .i64 mn,.int .i64 mt,.int .i64 mr,.int .i64 mv]]∧Below B w _ from And.intro (((O9.out.1.front 10 rfl).front 2 rfl).head2) O9.out.2)
   refine ⟨_,rfl,hK'.out _ _ HT1 (fun _=>?_)⟩
   clear hK' K'
   conv=>arg 8;simp [go_sem]
   refine ⟨by kernel_rfl,?_⟩
   conv =>
    arg 5
    simp [go_sem]
   go_wp2_with fail
   go_ret
   exact ⟨rfl,O9.out.2,com,wt,X,S,hs,G,mw,mi,ms,n,tick,gx,gg,bw,bi,bs,a0,c0,a1,c1,ha,hc,O9.out.1.drop 10,HJ.out.step1⟩
  | some t =>
   have HF:=Box.mk hf
   clear hf
   have HND:=Box.mk ((Own.txs (show Own B wc (TxsO gx X::_) from O3.out)).tn t (TxP.find_mem HF.out).2).rows.nodup
   go_upto_region 39 with fail
   have HF0:=Box.mk (And.intro O3.out.drew B3.out.drew)
   have HS0:Own B wc.drew [BlkP gd 36 (dkC gx gg ⟨a0,(verT (cwOf com) 0).length,c0⟩ ⟨a1,(verT (cwOf com) 1).length,c1⟩ bw bi n tick ⟨ha,hs.length,hc⟩ bs),BlkP gm 38 [.int .i64 5,.int .i64 mn,.int .i64 mt,.int .i64 mr,.int .i64 mv]]∧Below B w wc.drew:=⟨((HF0.out.1.front 10 rfl).front 2 rfl).head2,HF0.out.2⟩
   clear O3 B3 m0
   refine wp_region_held_drew (S:=fun w'=>(Own B w' [BlkP gd 36 (dkC gx gg ⟨a0,(verT (cwOf com) 0).length,c0⟩ ⟨a1,(verT (cwOf com) 1).length,c1⟩ bw bi n tick ⟨ha,hs.length,hc⟩ bs),BlkP gm 38 [.int .i64 5,.int .i64 mn,.int .i64 mt,.int .i64 mr,.int .i64 mv]]∧Below B w w')) (by kernel_rfl) HS0 (fun _=>?_)
   generalize wc.drew=wd at *
   refine tw 0 rfl HS0 ?_
   conv=>arg 8;simp [go_sem]
   refine tw 1 rfl HS0 ?_
   conv=>arg 8;simp [go_sem]
   refine tw 2 rfl HS0 ?_
   conv=>arg 8;simp [go_sem]
   refine tv 3 rfl (fun w' hS=>by have e:w'.cell? ⟨gd,0,none⟩=some (.pointer (some ⟨gx,0,none⟩)):=(hS.1.blk 0 rfl).1.cellOf (i:=0) rfl;go_simp;all_goals with_reducible rfl) HS0 ?_
   conv=>arg 8;simp [go_sem]
   refine tw 4 rfl HS0 ?_
   conv=>arg 8;simp [go_sem]
   refine tw 5 rfl HS0 ?_
   conv=>arg 8;simp [go_sem]
   refine tv 6 rfl (fun w' hS=>by have e:w'.cell? ⟨gm,2,none⟩=some (.int .i64 mt):=(hS.1.blk 1 rfl).1.cellOf (i:=2) rfl;go_simp;all_goals with_reducible rfl) HS0 ?_
   conv=>arg 8;simp [go_sem]
   refine tw 7 rfl HS0 ?_
   conv=>arg 8;simp [go_sem]
   refine tw 8 rfl HS0 ?_
   conv=>arg 8;simp [go_sem]
   refine tv 9 rfl (fun w' hS=>by have e:w'.cell? ⟨gm,3,none⟩=some (.int .i64 mr):=(hS.1.blk 1 rfl).1.cellOf (i:=3) rfl;go_simp;all_goals with_reducible rfl) HS0 ?_
   conv=>arg 8;simp [go_sem]
   refine tw 10 rfl HS0 ?_
   conv=>arg 8;simp [go_sem]
   refine tw 11 rfl HS0 ?_
   conv=>arg 8;simp [go_sem]
   refine ar 12 rfl fun K' hK'=>?_
   refine oper_call (by rfl) 35 [.tmp 294,.tmp 295,.tmp 298,.tmp 302] #[25,3,3,3] rfl (vs:=[.pointer (some ⟨gx,0,none⟩),.int .i64 tx,.int .i64 rt,.int .i64 rr]) rfl Tryz.func35 nm_read bd_read (read_any (s:=(rt,rr)) (show Own B _ (TxsO gx X::_) from HF0.out.1) HJ.out.x.ok HTX.out HF.out HSP.out) ?_
   rintro e w9 ⟨rfl,hO9,hb9⟩
   have O9:=Box.mk (And.intro hO9 (HF0.out.2.trans hb9))
   clear hO9 hb9
   have HT2:=(show Own B _ [BlkP gd 36 (dkC gx gg ⟨a0,(verT (cwOf com) 0).length,c0⟩ ⟨a1,(verT (cwOf com) 1).length,c1⟩ bw bi n tick ⟨ha,hs.length,hc⟩ bs),BlkP gm 38 [.int .i64 5,.int .i64 mn,.int .i64 mt,.int .i64 mr,.int .i64 mv]]∧Below B w _ from And.intro (((O9.out.1.front 10 rfl).front 2 rfl).head2) O9.out.2)
   refine ⟨_,rfl,hK'.out _ _ HT2 (fun _=>?_)⟩
   clear hK' K'
   conv=>arg 8;simp [go_sem]
   refine ⟨by kernel_rfl,?_⟩
   conv =>
    arg 5
    simp [go_sem]
   go_wp2_with fail
   go_ret
   exact ⟨rfl,O9.out.2,com,wt,X.upd tx (t.read (rt,rr)),S,hs,G,mw,mi,ms,n,tick,gx,gg,bw,bi,bs,a0,c0,a1,c1,ha,hc,O9.out.1.drop 10,HJ.out.read (Nat.le_succ _) HF.out HND.out HSP.out⟩
end
end Go.Proofs.YtlfghapllmaigaaGreatDoor
