/-
  The walk of Write. Conditions: each theorem's own hypotheses.
-/
import Derived.Test.YtlfghapllmaigaaGreatDoorK19
set_option linter.unusedVariables false
set_option linter.unusedSimpArgs false
namespace Go.Proofs.YtlfghapllmaigaaGreatDoor
section
open Go.RowKit Go.Maps
theorem Own.takeT2 {B g:Nat} {X:TxP} {w:World} {P:HP} {l:List HP} (O:Own B w (P::TxsO g X::l)) (ok:TxOk X) {n:Int} {t:TnP} (h:X.find n=some t) :
  Own B w (P::(TnL t++([BlkP g 68 X.cs,RowP 95 1 X.ka X.kept.length X.kc (X.kept.map ptrT),MapO Tryz.prog 3 kI pV X.ba X.am]++((X.drop n).all.map TnO++l)))):=by
 have h1:=(O.front 1 rfl).takeT ok h
 refine Own.perm (l:=TnL t++([BlkP g 68 X.cs,RowP 95 1 X.ka X.kept.length X.kc (X.kept.map ptrT),MapO Tryz.prog 3 kI pV X.ba X.am]++((X.drop n).all.map TnO++(P::l)))) h1 ?_
 rw [← List.append_assoc,← List.append_assoc,← List.append_assoc,← List.append_assoc]
 exact List.perm_middle
def TnP.write (t:TnP) (x:WrP) (la:Option Addr) (lc:Nat):TnP:={ t with la:=la,lc:=lc,log:=t.log++[x] }
theorem TnOk.write {t:TnP} (ok:TnOk t) {x:WrP} (hx:x.key∈spots) (hl:t.log.length<1000) (la:Option Addr) (lc:Nat):TnOk (t.write x la lc):=by
 refine ⟨fun y hy=>?_,ok.rows,?_,ok.rlen⟩
 ·rcases List.mem_append.1 hy with hy | hy
  ·exact ok.log y hy
  ·simp at hy;rw [hy];exact hx
 ·show (t.log++[x]).length≤_
  rw [List.length_append];simp;omega
def RetWrite (n:Int) (t:TnP) (x:WrP) (B g:Nat) (X:TxP) (l:List HP) (w:World) (e:Ending) (w':World):Prop:=e=.returned (.int .i64 0)∧Below B w w' ∧
 ∃ (a:Option Addr) (c:Nat) (la:Option Addr) (lc:Nat),Own B w' (TxsO g (X.upd n (t.write { x with va:=a,vc:=c } la lc))::RowP 64 3 a x.vals.length c (recC Val.enc x.vals)::l)
theorem tn_open {B:Nat} {w:World} {P:HP} {t:TnP} {R:List HP} (O:Own B w (P::(TnL t++R))):TnRd w t:=by
 have hm:=fun {Q:HP} (hQ:Q∈TnL t)=>O.mem (P:=Q) (by simp [hQ])
 obtain ⟨_,h1,_⟩:=hm (Q:=BlkP t.p 100 t.cs) (by simp [TnL])
 obtain ⟨_,h2,_⟩:=hm (Q:=RowP 90 4 t.la t.log.length t.lc (recC WrP.enc t.log)) (by simp [TnL])
 obtain ⟨_,h3,_⟩:=hm (Q:=MapO Tryz.prog 104 ekR Value.bool t.br t.rows) (by simp [TnL])
 obtain ⟨_,h4,_⟩:=hm (Q:=MapO Tryz.prog 3 kI Value.bool t.bw ([]:List (Int×Bool))) (by simp [TnL])
 exact ⟨h1,Rd.ofOwn h2,h3,h4⟩
theorem write_give {B g gb:Nat} {X:TxP} {w:World} {l:List HP} (ok:TxOk X) {n:Int} {t:TnP} (h:X.find n=some t) {xt xr:Int} {xd:Bool} {xa va a9:Option Addr} {xc vc c9 nx:Nat} {xl:List Val} (hnx:xl.length=nx) {gcs:List Value}
  (O:Own B w (RowP 64 3 va nx vc (recC Val.enc xl)::BlkP gb 90 gcs::BlkP t.p 100 (splice t.cs 4 [.slice a9 (t.log.length+1) c9])::RowP 90 4 a9 (t.log.length+1) c9 (recC WrP.enc t.log++[.int .i64 xt,.int .i64 xr,.bool xd,.slice va nx vc])::MapO Tryz.prog 104 ekR Value.bool t.br t.rows::MapO Tryz.prog 3 kI Value.bool t.bw ([]:List (Int×Bool))::([BlkP g 68 X.cs,RowP 95 1 X.ka X.kept.length X.kc (X.kept.map ptrT),MapO Tryz.prog 3 kI pV X.ba X.am]++((X.drop n).all.map TnO++l)))) :
  Own B w (TxsO g (X.upd n (t.write { (⟨xt,xr,xd,xa,xc,xl⟩:WrP) with va:=va,vc:=vc } a9 c9))::RowP 64 3 va (⟨xt,xr,xd,xa,xc,xl⟩:WrP).vals.length vc (recC Val.enc xl)::l):=by
 subst hnx
 have O1:=O.drop 1
 have hl:(t.log++[(⟨xt,xr,xd,va,vc,xl⟩:WrP)]).length=t.log.length+1:=by simp
 have hr:recC WrP.enc (t.log++[(⟨xt,xr,xd,va,vc,xl⟩:WrP)])=recC WrP.enc t.log++[.int .i64 xt,.int .i64 xr,.bool xd,.slice va xl.length vc]:=by rw [recC_append,recC_cons,recC_nil,List.append_nil];rfl
 have O2:Own B w (RowP 64 3 va xl.length vc (recC Val.enc xl)::(TnL (t.write ⟨xt,xr,xd,va,vc,xl⟩ a9 c9)++([BlkP g 68 X.cs,RowP 95 1 X.ka X.kept.length X.kc (X.kept.map ptrT),MapO Tryz.prog 3 kI pV X.ba X.am]++((X.drop n).all.map TnO++l)))):=by
  unfold TnL TnP.write TnP.cs
  simp only
  rw [hl,hr]
  exact O1
 refine Own.giveT ok h (t':=t.write ⟨xt,xr,xd,va,vc,xl⟩ a9 c9) rfl (O2.perm ?_)
 rw [← List.append_assoc,← List.append_assoc,← List.append_assoc,← List.append_assoc]
 exact List.perm_middle.symm
set_option maxRecDepth 20000 in
set_option maxHeartbeats 1500000 in
theorem write_any {B g:Nat} {X:TxP} {w:World} {l:List HP} (O:Own B w (TxsO g X::l)) (ok:TxOk X) {n:Int} (hn:In64 n) {t:TnP} (hf:X.find n=some t) (hm:t.mode≠2) (hlog:t.log.length<1000) {x:WrP} (hx:x.key∈spots) (hdv:x.dead=true→x.vals=[]) (hv:Rd w x.va x.vals.length x.vc 3 (recC Val.enc x.vals)) (hvl:x.vals.length≤1) :
  Calls Tryz.prog 36 #[.pointer (some ⟨g,0,none⟩),.int .i64 n,x.v] w (RetWrite n t x B g X l w):=by
 have h4:=spots_iff.1 hx
 have hto:=ok.tn t (TxP.find_mem hf).2
 have OK:=Box.mk (And.intro ok (And.intro hf (And.intro hx (And.intro hto hlog))))
 have hi64:=spot_i64 hx
 obtain ⟨xt,xr,xd,xa,xc,xl⟩:=x
 simp only [WrP.key] at h4 hdv hv hvl hi64
 have HV:=Box.mk hv
 have O1:=Box.mk (O.newF [.int .i64 xt,.int .i64 xr,.bool xd,.slice xa xl.length xc] 90)
 have B1:=Box.mk ((Below.refl B w).alloc O.1 (.cells #[.int .i64 xt,.int .i64 xr,.bool xd,.slice xa xl.length xc] 90))
 have W1:=Box.mk ((Below.refl w.heap.size w).alloc (Nat.le_refl _) (.cells #[.int .i64 xt,.int .i64 xr,.bool xd,.slice xa xl.length xc] 90))
 have HG:=Box.mk (get_any (O.alloc (.cells #[.int .i64 xt,.int .i64 xr,.bool xd,.slice xa xl.length xc] 90)).txs hn)
 rw [hf] at HG
 simp only [optV,errE,pV] at HG
 unfold WrP.v
 simp only
 obtain ⟨nx,hnx⟩:∃m,xl.length=m:=⟨_,rfl⟩
 have HNX:=Box.mk hnx
 rw [hnx] at hvl O1 B1 W1 HG ⊢
 have hdx:xd=true→nx=0:=fun e=>by rw [← hnx,hdv e];rfl
 clear O ok hf hx hto hv hlog hdv hnx
 go_enter Tryz.func36,Tryz.ntmps36
 go_wp2_with fail
 refine HG.out.mono ?_
 rintro e w1 ⟨rfl,hb⟩
 obtain ⟨R,hR⟩:∃R,[BlkP g 68 X.cs,RowP 95 1 X.ka X.kept.length X.kc (X.kept.map ptrT),MapO Tryz.prog 3 kI pV X.ba X.am]++((X.drop n).all.map TnO++l)=R:=⟨_,rfl⟩
 have HRR:=Box.mk hR
 have O2:=Box.mk (show Own B w1 (BlkP w.heap.size 90 [.int .i64 xt,.int .i64 xr,.bool xd,.slice xa nx xc]::BlkP t.p 100 t.cs::RowP 90 4 t.la t.log.length t.lc (recC WrP.enc t.log)::MapO Tryz.prog 104 ekR Value.bool t.br t.rows::MapO Tryz.prog 3 kI Value.bool t.bw ([]:List (Int×Bool))::R) from by rw [← hR];exact (O1.out.below hb).takeT2 OK.out.1 OK.out.2.1)
 have B2:=Box.mk (B1.out.trans (hb.mono O1.out.1))
 have W2:=Box.mk (W1.out.trans (hb.mono W1.out.size))
 have HSZ:=Box.mk O1.out.1
 clear hb HG O1 B1 W1 hR
 have y0:=(O2.out.blk 0 rfl).1.cellOf (i:=0) rfl
 have y1:=(O2.out.blk 0 rfl).1.cellOf (i:=1) rfl
 have y2:=(O2.out.blk 0 rfl).1.cellOf (i:=2) rfl
 have y3:=(O2.out.blk 0 rfl).1.cellOf (i:=3) rfl
 obtain ⟨x0,x1,x2,x3,x4,x5,x6⟩:=TnP.cells (O2.out.blk 1 rfl).1
 clear x1 x2 x3 x5 x6
 cases xd with
 | true =>
  obtain rfl:nx=0:=hdx rfl
  clear hdx
  go_upto_region 9 with fail
  have HAN:=Box.mk (wrAnyM (fun y=>decide (y.key=(xt,xr))) 101 #[.pointer (some ⟨w.heap.size,0,none⟩)] writeF_enters t.log t.la t.log.length t.lc w1 (Rd.ofOwn (O2.out.row 2 rfl)) (fun W y hy hW=>writeF_any (y:=⟨xt,xr,true,xa,xc,xl⟩) (show Blk W w.heap.size 90 (WrP.enc ⟨xt,xr,true,xa,xc,xl⟩) from by unfold WrP.enc;rw [HNX.out];exact (O2.out.blk 0 rfl).1.below hW (Nat.le_refl _)) y))
  cases hq:t.log.any fun y=>decide (y.key=(xt,xr)) with
  | true =>
   rw [hq] at HAN
   clear hq
   go_wp2_with fail
   refine HAN.out.mono ?_
   rintro e w2 ⟨rfl,hb⟩
   have OQ:=Box.mk (O2.out.below hb)
   have BQ:=Box.mk (B2.out.trans (hb.mono O2.out.1))
   have WQ:=Box.mk (W2.out.trans (hb.mono W2.out.size))
   have y3:=(OQ.out.blk 0 rfl).1.cellOf (i:=3) rfl
   clear hb HAN O2 B2 W2
   clear x0 x4 y0 y1 y2
   have HCL:=Box.mk (clone_row (HV.out.below WQ.out (Nat.le_refl _)) (recC_one Val.enc_one xl) (by have:=HNX.out;omega))
   rw [HNX.out] at HCL
   go_wp2_with (fail)
   refine HCL.out.mono ?_
   rintro e w4 ⟨hb,va,vc,rfl,hrow⟩
   have O4:=Box.mk (show Own B w4 (RowP 64 3 va 0 vc (recC Val.enc xl)::BlkP w.heap.size 90 [.int .i64 xt,.int .i64 xr,.bool true,.slice xa 0 xc]::BlkP t.p 100 t.cs::RowP 90 4 t.la t.log.length t.lc (recC WrP.enc t.log)::MapO Tryz.prog 104 ekR Value.bool t.br t.rows::MapO Tryz.prog 3 kI Value.bool t.bw ([]:List (Int×Bool))::R) from (OQ.out.newRow hb hrow (Nat.le_refl _)).perm (List.perm_append_comm (l₂:=[_])))
   have B4:=Box.mk (BQ.out.trans (hb.mono OQ.out.1))
   clear hb hrow HCL OQ BQ WQ y3
   generalize w.heap.size=gb at *
   have HF5:=Box.mk (O4.out.setRow 1 rfl (splice [.int .i64 xt,.int .i64 xr,.bool true,.slice xa 0 xc] 3 [.slice va 0 vc]))
   go_upto_region 12 with ((with_reducible show wpList _ _ _ _ _ _);refine wpList_store_part rfl 88 (.tmp 72) (.tmp 71) rfl rfl (size:=1) (off:=3) (by kernel_rfl) (O4.out.blk 1 rfl).1 (by simp) rfl (cs:=[.slice va 0 vc]) rfl rfl (by simp [Value.oneCell']) ?_)
   generalize (w4.setRow gb _)=w5 at *
   have B5:=Box.mk (B4.out.trans HF5.out.2)
   have HF0:=Box.mk (And.intro (show Own B w5.drew (RowP 64 3 va 0 vc (recC Val.enc xl)::BlkP gb 90 [.int .i64 xt,.int .i64 xr,.bool true,.slice va 0 vc]::BlkP t.p 100 t.cs::RowP 90 4 t.la t.log.length t.lc (recC WrP.enc t.log)::MapO Tryz.prog 104 ekR Value.bool t.br t.rows::MapO Tryz.prog 3 kI Value.bool t.bw ([]:List (Int×Bool))::R) from HF5.out.1.drew) B5.out.drew)
   have HS0:Own B w5.drew (RowP 64 3 va 0 vc (recC Val.enc xl)::BlkP gb 90 [.int .i64 xt,.int .i64 xr,.bool true,.slice va 0 vc]::MapO Tryz.prog 104 ekR Value.bool t.br t.rows::MapO Tryz.prog 3 kI Value.bool t.bw ([]:List (Int×Bool))::R)∧Below B w w5.drew:=⟨(HF0.out.1.drop 2).drop 2,HF0.out.2⟩
   have hlog:=OK.out.2.2.2.2
   clear O4 B4 HF5 B5
   refine wp_region_held_drew (S:=fun w'=>(Own B w' (RowP 64 3 va 0 vc (recC Val.enc xl)::BlkP gb 90 [.int .i64 xt,.int .i64 xr,.bool true,.slice va 0 vc]::MapO Tryz.prog 104 ekR Value.bool t.br t.rows::MapO Tryz.prog 3 kI Value.bool t.bw ([]:List (Int×Bool))::R)∧Below B w w')) (by kernel_rfl) HS0 (fun _=>?_)
   generalize w5.drew=wd at *
   refine tw 0 rfl HS0 ?_
   conv=>arg 8;simp [go_sem]
   refine tw 1 rfl HS0 ?_
   conv=>arg 8;simp [go_sem]
   refine tw 2 rfl HS0 ?_
   conv=>arg 8;simp [go_sem]
   refine tw 3 rfl HS0 ?_
   conv=>arg 8;simp [go_sem]
   refine tk 5 (v:=.agg #[.int .i64 xt,.int .i64 xr,.bool true,.slice va 0 vc]) rfl (yieldsIf_load_agg (by rfl) 90 (.tmp 5) rfl aggWr rfl (cs:=[.int .i64 xt,.int .i64 xr,.bool true,.slice va 0 vc]) rfl (fun w' hS j u h=>by rw [add0];exact (hS.1.blk 1 rfl).1.cellOf h)) (HS0) ?_
   conv=>arg 8;simp [go_sem]
   refine wpAnyH_ready (rs:=[4,6]) (by kernel_rfl) (by simp) ?_
   refine AllReadyH.cons rfl (fun K' hK'=>?_) (AllReadyH.cons rfl (fun K' hK'=>?_) AllReadyH.nil)
   ·refine oper_load1 (by rfl) 80 (.tmp 76) rfl (by kernel_rfl) rfl ((HF0.out.1.blk 2 rfl).1.cellOf (i:=4) rfl) ?_
    have HT1:=HS0
    refine hK'.out _ _ HT1 (fun _=>?_)
    clear hK' K'
    conv=>arg 8;simp [go_sem]
    refine ar 6 rfl fun K' hK'=>?_
    refine oper_litA (by rfl) 80 (.tmp 78) rfl sl_wr (cs:=[.int .i64 xt,.int .i64 xr,.bool true,.slice va 0 vc]) rfl rfl (by omega) (by omega) ?_
    have HF2:=Box.mk (And.intro (HF0.out.1.alloc (.cells #[.int .i64 xt,.int .i64 xr,.bool true,.slice va 0 vc] 90)) (HF0.out.2.alloc HF0.out.1.1 (.cells #[.int .i64 xt,.int .i64 xr,.bool true,.slice va 0 vc] 90)))
    have HT3:=And.intro (HT1.1.alloc (.cells #[.int .i64 xt,.int .i64 xr,.bool true,.slice va 0 vc] 90)) (HT1.2.alloc HT1.1.1 (.cells #[.int .i64 xt,.int .i64 xr,.bool true,.slice va 0 vc] 90))
    refine hK'.out _ _ HT3 (fun _=>?_)
    clear hK' K'
    conv=>arg 8;simp [go_sem]
    refine ar 7 rfl fun K' hK'=>?_
    refine oper_append_O (by rfl) (.tmp 77) (.tmp 79) 80 80 rfl sl_wr (.inl sl_wr.ht) HF2.out.1 3 rfl rfl rfl (Src.lone _ [.int .i64 xt,.int .i64 xr,.bool true,.slice va 0 vc] _ rfl (by simp [Value.oneCell'])) (by omega) (by unfold maxLen;omega) ?_
    intro a9 c9 w9 hO9 hb9
    have O9:=Box.mk (show Own B w9 (RowP 64 3 va 0 vc (recC Val.enc xl)::BlkP gb 90 [.int .i64 xt,.int .i64 xr,.bool true,.slice va 0 vc]::BlkP t.p 100 t.cs::RowP 90 4 a9 (t.log.length+1) c9 (recC WrP.enc t.log++[.int .i64 xt,.int .i64 xr,.bool true,.slice va 0 vc])::MapO Tryz.prog 104 ekR Value.bool t.br t.rows::MapO Tryz.prog 3 kI Value.bool t.bw ([]:List (Int×Bool))::R) from hO9)
    have B9:=Box.mk (HF2.out.2.trans hb9)
    clear hO9 hb9
    have HT4:=(show (Own _ _ _∧Below _ _ _) from And.intro ((O9.out.drop 2).drop 2) B9.out)
    refine hK'.out _ _ HT4 (fun _=>?_)
    clear hK' K'
    conv=>arg 8;simp [go_sem]
    refine tw 8 rfl HT4 ?_
    conv=>arg 8;simp [go_sem]
    refine tw 9 rfl HT4 ?_
    conv=>arg 8;simp [go_sem]
    refine ar 10 rfl fun K' hK'=>?_
    have HF9:=Box.mk (O9.out.setRow 2 rfl (splice t.cs 4 [.slice a9 (t.log.length+1) c9]))
    refine oper_store_part (by rfl) 80 (.tmp 82) (.tmp 80) rfl rfl (size:=1) (off:=4) (by kernel_rfl) (O9.out.blk 2 rfl).1 (by simp [TnP.cs]) rfl (cs:=[.slice a9 (t.log.length+1) c9]) rfl rfl (by simp [Value.oneCell']) ?_
    have HT5:=(show (Own _ _ _∧Below _ _ _) from And.intro ((HF9.out.1.drop 2).drop 2) (B9.out.trans HF9.out.2))
    refine hK'.out _ _ HT5 (fun _=>?_)
    clear hK' K'
    conv=>arg 8;simp [go_sem]
    refine ⟨by kernel_rfl,?_⟩
    conv =>
     arg 5
     simp [go_sem]
    go_wp2_with fail
    go_ret
    exact ⟨rfl,B9.out.trans HF9.out.2,va,vc,a9,c9,write_give OK.out.1 OK.out.2.1 HNX.out (by rw [HRR.out];exact HF9.out.1)⟩
   ·refine oper_litA (by rfl) 80 (.tmp 78) rfl sl_wr (cs:=[.int .i64 xt,.int .i64 xr,.bool true,.slice va 0 vc]) rfl rfl (by omega) (by omega) ?_
    have HF6:=Box.mk (And.intro (HF0.out.1.alloc (.cells #[.int .i64 xt,.int .i64 xr,.bool true,.slice va 0 vc] 90)) (HF0.out.2.alloc HF0.out.1.1 (.cells #[.int .i64 xt,.int .i64 xr,.bool true,.slice va 0 vc] 90)))
    have HT7:=And.intro (HS0.1.alloc (.cells #[.int .i64 xt,.int .i64 xr,.bool true,.slice va 0 vc] 90)) (HS0.2.alloc HS0.1.1 (.cells #[.int .i64 xt,.int .i64 xr,.bool true,.slice va 0 vc] 90))
    refine hK'.out _ _ HT7 (fun _=>?_)
    clear hK' K'
    conv=>arg 8;simp [go_sem]
    refine ar 4 rfl fun K' hK'=>?_
    refine oper_load1 (by rfl) 80 (.tmp 76) rfl (by kernel_rfl) rfl ((HF6.out.1.blk 2 rfl).1.cellOf (i:=4) rfl) ?_
    have HT8:=HT7
    refine hK'.out _ _ HT8 (fun _=>?_)
    clear hK' K'
    conv=>arg 8;simp [go_sem]
    refine ar 7 rfl fun K' hK'=>?_
    refine oper_append_O (by rfl) (.tmp 77) (.tmp 79) 80 80 rfl sl_wr (.inl sl_wr.ht) HF6.out.1 3 rfl rfl rfl (Src.lone _ [.int .i64 xt,.int .i64 xr,.bool true,.slice va 0 vc] _ rfl (by simp [Value.oneCell'])) (by omega) (by unfold maxLen;omega) ?_
    intro a9 c9 w9 hO9 hb9
    have O9:=Box.mk (show Own B w9 (RowP 64 3 va 0 vc (recC Val.enc xl)::BlkP gb 90 [.int .i64 xt,.int .i64 xr,.bool true,.slice va 0 vc]::BlkP t.p 100 t.cs::RowP 90 4 a9 (t.log.length+1) c9 (recC WrP.enc t.log++[.int .i64 xt,.int .i64 xr,.bool true,.slice va 0 vc])::MapO Tryz.prog 104 ekR Value.bool t.br t.rows::MapO Tryz.prog 3 kI Value.bool t.bw ([]:List (Int×Bool))::R) from hO9)
    have B9:=Box.mk (HF6.out.2.trans hb9)
    clear hO9 hb9
    have HT9:=(show (Own _ _ _∧Below _ _ _) from And.intro ((O9.out.drop 2).drop 2) B9.out)
    refine hK'.out _ _ HT9 (fun _=>?_)
    clear hK' K'
    conv=>arg 8;simp [go_sem]
    refine tw 8 rfl HT9 ?_
    conv=>arg 8;simp [go_sem]
    refine tw 9 rfl HT9 ?_
    conv=>arg 8;simp [go_sem]
    refine ar 10 rfl fun K' hK'=>?_
    have HF9:=Box.mk (O9.out.setRow 2 rfl (splice t.cs 4 [.slice a9 (t.log.length+1) c9]))
    refine oper_store_part (by rfl) 80 (.tmp 82) (.tmp 80) rfl rfl (size:=1) (off:=4) (by kernel_rfl) (O9.out.blk 2 rfl).1 (by simp [TnP.cs]) rfl (cs:=[.slice a9 (t.log.length+1) c9]) rfl rfl (by simp [Value.oneCell']) ?_
    have HT10:=(show (Own _ _ _∧Below _ _ _) from And.intro ((HF9.out.1.drop 2).drop 2) (B9.out.trans HF9.out.2))
    refine hK'.out _ _ HT10 (fun _=>?_)
    clear hK' K'
    conv=>arg 8;simp [go_sem]
    refine ⟨by kernel_rfl,?_⟩
    conv =>
     arg 5
     simp [go_sem]
    go_wp2_with fail
    go_ret
    exact ⟨rfl,B9.out.trans HF9.out.2,va,vc,a9,c9,write_give OK.out.1 OK.out.2.1 HNX.out (by rw [HRR.out];exact HF9.out.1)⟩
  | false =>
   rw [hq] at HAN
   clear hq
   go_wp2_with fail
   refine HAN.out.mono ?_
   rintro e w2 ⟨rfl,hb⟩
   have O3:=Box.mk (O2.out.below hb)
   have B3:=Box.mk (B2.out.trans (hb.mono O2.out.1))
   have W3:=Box.mk (W2.out.trans (hb.mono W2.out.size))
   clear hb HAN O2 B2 W2
   have HTW:=Box.mk (writes_t (t:=t) (tn_open O3.out) OK.out.2.2.2.1)
   go_wp2_with fail
   refine HTW.out.mono ?_
   rintro e w3 ⟨hb,qa,qc,rfl,hrow⟩
   have OQ:=Box.mk (O3.out.below hb)
   have BQ:=Box.mk (B3.out.trans (hb.mono O3.out.1))
   have WQ:=Box.mk (W3.out.trans (hb.mono W3.out.size))
   have hw8:=wsOf_len t.log
   have y3:=(OQ.out.blk 0 rfl).1.cellOf (i:=3) rfl
   clear hb HTW O3 B3 W3 hrow
   clear x0 x4 y0 y1 y2
   have HCL:=Box.mk (clone_row (HV.out.below WQ.out (Nat.le_refl _)) (recC_one Val.enc_one xl) (by have:=HNX.out;omega))
   rw [HNX.out] at HCL
   go_wp2_with (fail)
   refine HCL.out.mono ?_
   rintro e w4 ⟨hb,va,vc,rfl,hrow⟩
   have O4:=Box.mk (show Own B w4 (RowP 64 3 va 0 vc (recC Val.enc xl)::BlkP w.heap.size 90 [.int .i64 xt,.int .i64 xr,.bool true,.slice xa 0 xc]::BlkP t.p 100 t.cs::RowP 90 4 t.la t.log.length t.lc (recC WrP.enc t.log)::MapO Tryz.prog 104 ekR Value.bool t.br t.rows::MapO Tryz.prog 3 kI Value.bool t.bw ([]:List (Int×Bool))::R) from (OQ.out.newRow hb hrow (Nat.le_refl _)).perm (List.perm_append_comm (l₂:=[_])))
   have B4:=Box.mk (BQ.out.trans (hb.mono OQ.out.1))
   clear hb hrow HCL OQ BQ WQ y3
   generalize w.heap.size=gb at *
   have HF5:=Box.mk (O4.out.setRow 1 rfl (splice [.int .i64 xt,.int .i64 xr,.bool true,.slice xa 0 xc] 3 [.slice va 0 vc]))
   go_upto_region 12 with ((with_reducible show wpList _ _ _ _ _ _);refine wpList_store_part rfl 88 (.tmp 72) (.tmp 71) rfl rfl (size:=1) (off:=3) (by kernel_rfl) (O4.out.blk 1 rfl).1 (by simp) rfl (cs:=[.slice va 0 vc]) rfl rfl (by simp [Value.oneCell']) ?_)
   generalize (w4.setRow gb _)=w5 at *
   have B5:=Box.mk (B4.out.trans HF5.out.2)
   have HF0:=Box.mk (And.intro (show Own B w5.drew (RowP 64 3 va 0 vc (recC Val.enc xl)::BlkP gb 90 [.int .i64 xt,.int .i64 xr,.bool true,.slice va 0 vc]::BlkP t.p 100 t.cs::RowP 90 4 t.la t.log.length t.lc (recC WrP.enc t.log)::MapO Tryz.prog 104 ekR Value.bool t.br t.rows::MapO Tryz.prog 3 kI Value.bool t.bw ([]:List (Int×Bool))::R) from HF5.out.1.drew) B5.out.drew)
   have HS0:Own B w5.drew (RowP 64 3 va 0 vc (recC Val.enc xl)::BlkP gb 90 [.int .i64 xt,.int .i64 xr,.bool true,.slice va 0 vc]::MapO Tryz.prog 104 ekR Value.bool t.br t.rows::MapO Tryz.prog 3 kI Value.bool t.bw ([]:List (Int×Bool))::R)∧Below B w w5.drew:=⟨(HF0.out.1.drop 2).drop 2,HF0.out.2⟩
   have hlog:=OK.out.2.2.2.2
   clear O4 B4 HF5 B5
   refine wp_region_held_drew (S:=fun w'=>(Own B w' (RowP 64 3 va 0 vc (recC Val.enc xl)::BlkP gb 90 [.int .i64 xt,.int .i64 xr,.bool true,.slice va 0 vc]::MapO Tryz.prog 104 ekR Value.bool t.br t.rows::MapO Tryz.prog 3 kI Value.bool t.bw ([]:List (Int×Bool))::R)∧Below B w w')) (by kernel_rfl) HS0 (fun _=>?_)
   generalize w5.drew=wd at *
   refine tw 0 rfl HS0 ?_
   conv=>arg 8;simp [go_sem]
   refine tw 1 rfl HS0 ?_
   conv=>arg 8;simp [go_sem]
   refine tw 2 rfl HS0 ?_
   conv=>arg 8;simp [go_sem]
   refine tw 3 rfl HS0 ?_
   conv=>arg 8;simp [go_sem]
   refine tk 5 (v:=.agg #[.int .i64 xt,.int .i64 xr,.bool true,.slice va 0 vc]) rfl (yieldsIf_load_agg (by rfl) 90 (.tmp 5) rfl aggWr rfl (cs:=[.int .i64 xt,.int .i64 xr,.bool true,.slice va 0 vc]) rfl (fun w' hS j u h=>by rw [add0];exact (hS.1.blk 1 rfl).1.cellOf h)) (HS0) ?_
   conv=>arg 8;simp [go_sem]
   refine wpAnyH_ready (rs:=[4,6]) (by kernel_rfl) (by simp) ?_
   refine AllReadyH.cons rfl (fun K' hK'=>?_) (AllReadyH.cons rfl (fun K' hK'=>?_) AllReadyH.nil)
   ·refine oper_load1 (by rfl) 80 (.tmp 76) rfl (by kernel_rfl) rfl ((HF0.out.1.blk 2 rfl).1.cellOf (i:=4) rfl) ?_
    have HT1:=HS0
    refine hK'.out _ _ HT1 (fun _=>?_)
    clear hK' K'
    conv=>arg 8;simp [go_sem]
    refine ar 6 rfl fun K' hK'=>?_
    refine oper_litA (by rfl) 80 (.tmp 78) rfl sl_wr (cs:=[.int .i64 xt,.int .i64 xr,.bool true,.slice va 0 vc]) rfl rfl (by omega) (by omega) ?_
    have HF2:=Box.mk (And.intro (HF0.out.1.alloc (.cells #[.int .i64 xt,.int .i64 xr,.bool true,.slice va 0 vc] 90)) (HF0.out.2.alloc HF0.out.1.1 (.cells #[.int .i64 xt,.int .i64 xr,.bool true,.slice va 0 vc] 90)))
    have HT3:=And.intro (HT1.1.alloc (.cells #[.int .i64 xt,.int .i64 xr,.bool true,.slice va 0 vc] 90)) (HT1.2.alloc HT1.1.1 (.cells #[.int .i64 xt,.int .i64 xr,.bool true,.slice va 0 vc] 90))
    refine hK'.out _ _ HT3 (fun _=>?_)
    clear hK' K'
    conv=>arg 8;simp [go_sem]
    refine ar 7 rfl fun K' hK'=>?_
    refine oper_append_O (by rfl) (.tmp 77) (.tmp 79) 80 80 rfl sl_wr (.inl sl_wr.ht) HF2.out.1 3 rfl rfl rfl (Src.lone _ [.int .i64 xt,.int .i64 xr,.bool true,.slice va 0 vc] _ rfl (by simp [Value.oneCell'])) (by omega) (by unfold maxLen;omega) ?_
    intro a9 c9 w9 hO9 hb9
    have O9:=Box.mk (show Own B w9 (RowP 64 3 va 0 vc (recC Val.enc xl)::BlkP gb 90 [.int .i64 xt,.int .i64 xr,.bool true,.slice va 0 vc]::BlkP t.p 100 t.cs::RowP 90 4 a9 (t.log.length+1) c9 (recC WrP.enc t.log++[.int .i64 xt,.int .i64 xr,.bool true,.slice va 0 vc])::MapO Tryz.prog 104 ekR Value.bool t.br t.rows::MapO Tryz.prog 3 kI Value.bool t.bw ([]:List (Int×Bool))::R) from hO9)
    have B9:=Box.mk (HF2.out.2.trans hb9)
    clear hO9 hb9
    have HT4:=(show (Own _ _ _∧Below _ _ _) from And.intro ((O9.out.drop 2).drop 2) B9.out)
    refine hK'.out _ _ HT4 (fun _=>?_)
    clear hK' K'
    conv=>arg 8;simp [go_sem]
    refine tw 8 rfl HT4 ?_
    conv=>arg 8;simp [go_sem]
    refine tw 9 rfl HT4 ?_
    conv=>arg 8;simp [go_sem]
    refine ar 10 rfl fun K' hK'=>?_
    have HF9:=Box.mk (O9.out.setRow 2 rfl (splice t.cs 4 [.slice a9 (t.log.length+1) c9]))
    refine oper_store_part (by rfl) 80 (.tmp 82) (.tmp 80) rfl rfl (size:=1) (off:=4) (by kernel_rfl) (O9.out.blk 2 rfl).1 (by simp [TnP.cs]) rfl (cs:=[.slice a9 (t.log.length+1) c9]) rfl rfl (by simp [Value.oneCell']) ?_
    have HT5:=(show (Own _ _ _∧Below _ _ _) from And.intro ((HF9.out.1.drop 2).drop 2) (B9.out.trans HF9.out.2))
    refine hK'.out _ _ HT5 (fun _=>?_)
    clear hK' K'
    conv=>arg 8;simp [go_sem]
    refine ⟨by kernel_rfl,?_⟩
    conv =>
     arg 5
     simp [go_sem]
    go_wp2_with fail
    go_ret
    exact ⟨rfl,B9.out.trans HF9.out.2,va,vc,a9,c9,write_give OK.out.1 OK.out.2.1 HNX.out (by rw [HRR.out];exact HF9.out.1)⟩
   ·refine oper_litA (by rfl) 80 (.tmp 78) rfl sl_wr (cs:=[.int .i64 xt,.int .i64 xr,.bool true,.slice va 0 vc]) rfl rfl (by omega) (by omega) ?_
    have HF6:=Box.mk (And.intro (HF0.out.1.alloc (.cells #[.int .i64 xt,.int .i64 xr,.bool true,.slice va 0 vc] 90)) (HF0.out.2.alloc HF0.out.1.1 (.cells #[.int .i64 xt,.int .i64 xr,.bool true,.slice va 0 vc] 90)))
    have HT7:=And.intro (HS0.1.alloc (.cells #[.int .i64 xt,.int .i64 xr,.bool true,.slice va 0 vc] 90)) (HS0.2.alloc HS0.1.1 (.cells #[.int .i64 xt,.int .i64 xr,.bool true,.slice va 0 vc] 90))
    refine hK'.out _ _ HT7 (fun _=>?_)
    clear hK' K'
    conv=>arg 8;simp [go_sem]
    refine ar 4 rfl fun K' hK'=>?_
    refine oper_load1 (by rfl) 80 (.tmp 76) rfl (by kernel_rfl) rfl ((HF6.out.1.blk 2 rfl).1.cellOf (i:=4) rfl) ?_
    have HT8:=HT7
    refine hK'.out _ _ HT8 (fun _=>?_)
    clear hK' K'
    conv=>arg 8;simp [go_sem]
    refine ar 7 rfl fun K' hK'=>?_
    refine oper_append_O (by rfl) (.tmp 77) (.tmp 79) 80 80 rfl sl_wr (.inl sl_wr.ht) HF6.out.1 3 rfl rfl rfl (Src.lone _ [.int .i64 xt,.int .i64 xr,.bool true,.slice va 0 vc] _ rfl (by simp [Value.oneCell'])) (by omega) (by unfold maxLen;omega) ?_
    intro a9 c9 w9 hO9 hb9
    have O9:=Box.mk (show Own B w9 (RowP 64 3 va 0 vc (recC Val.enc xl)::BlkP gb 90 [.int .i64 xt,.int .i64 xr,.bool true,.slice va 0 vc]::BlkP t.p 100 t.cs::RowP 90 4 a9 (t.log.length+1) c9 (recC WrP.enc t.log++[.int .i64 xt,.int .i64 xr,.bool true,.slice va 0 vc])::MapO Tryz.prog 104 ekR Value.bool t.br t.rows::MapO Tryz.prog 3 kI Value.bool t.bw ([]:List (Int×Bool))::R) from hO9)
    have B9:=Box.mk (HF6.out.2.trans hb9)
    clear hO9 hb9
    have HT9:=(show (Own _ _ _∧Below _ _ _) from And.intro ((O9.out.drop 2).drop 2) B9.out)
    refine hK'.out _ _ HT9 (fun _=>?_)
    clear hK' K'
    conv=>arg 8;simp [go_sem]
    refine tw 8 rfl HT9 ?_
    conv=>arg 8;simp [go_sem]
    refine tw 9 rfl HT9 ?_
    conv=>arg 8;simp [go_sem]
    refine ar 10 rfl fun K' hK'=>?_
    have HF9:=Box.mk (O9.out.setRow 2 rfl (splice t.cs 4 [.slice a9 (t.log.length+1) c9]))
    refine oper_store_part (by rfl) 80 (.tmp 82) (.tmp 80) rfl rfl (size:=1) (off:=4) (by kernel_rfl) (O9.out.blk 2 rfl).1 (by simp [TnP.cs]) rfl (cs:=[.slice a9 (t.log.length+1) c9]) rfl rfl (by simp [Value.oneCell']) ?_
    have HT10:=(show (Own _ _ _∧Below _ _ _) from And.intro ((HF9.out.1.drop 2).drop 2) (B9.out.trans HF9.out.2))
    refine hK'.out _ _ HT10 (fun _=>?_)
    clear hK' K'
    conv=>arg 8;simp [go_sem]
    refine ⟨by kernel_rfl,?_⟩
    conv =>
     arg 5
     simp [go_sem]
    go_wp2_with fail
    go_ret
    exact ⟨rfl,B9.out.trans HF9.out.2,va,vc,a9,c9,write_give OK.out.1 OK.out.2.1 HNX.out (by rw [HRR.out];exact HF9.out.1)⟩
 | false =>
  clear hdx
  go_upto_region 9 with fail
  have HAN:=Box.mk (wrAnyM (fun y=>decide (y.key=(xt,xr))) 101 #[.pointer (some ⟨w.heap.size,0,none⟩)] writeF_enters t.log t.la t.log.length t.lc w1 (Rd.ofOwn (O2.out.row 2 rfl)) (fun W y hy hW=>writeF_any (y:=⟨xt,xr,false,xa,xc,xl⟩) (show Blk W w.heap.size 90 (WrP.enc ⟨xt,xr,false,xa,xc,xl⟩) from by unfold WrP.enc;rw [HNX.out];exact (O2.out.blk 0 rfl).1.below hW (Nat.le_refl _)) y))
  cases hq:t.log.any fun y=>decide (y.key=(xt,xr)) with
  | true =>
   rw [hq] at HAN
   clear hq
   go_wp2_with fail
   refine HAN.out.mono ?_
   rintro e w2 ⟨rfl,hb⟩
   have OQ:=Box.mk (O2.out.below hb)
   have BQ:=Box.mk (B2.out.trans (hb.mono O2.out.1))
   have WQ:=Box.mk (W2.out.trans (hb.mono W2.out.size))
   have y3:=(OQ.out.blk 0 rfl).1.cellOf (i:=3) rfl
   clear hb HAN O2 B2 W2
   clear x0 x4 y0 y1 y2
   have HCL:=Box.mk (clone_row (HV.out.below WQ.out (Nat.le_refl _)) (recC_one Val.enc_one xl) (by have:=HNX.out;omega))
   rw [HNX.out] at HCL
   go_wp2_with (fail)
   refine HCL.out.mono ?_
   rintro e w4 ⟨hb,va,vc,rfl,hrow⟩
   have O4:=Box.mk (show Own B w4 (RowP 64 3 va nx vc (recC Val.enc xl)::BlkP w.heap.size 90 [.int .i64 xt,.int .i64 xr,.bool false,.slice xa nx xc]::BlkP t.p 100 t.cs::RowP 90 4 t.la t.log.length t.lc (recC WrP.enc t.log)::MapO Tryz.prog 104 ekR Value.bool t.br t.rows::MapO Tryz.prog 3 kI Value.bool t.bw ([]:List (Int×Bool))::R) from (OQ.out.newRow hb hrow (Nat.le_refl _)).perm (List.perm_append_comm (l₂:=[_])))
   have B4:=Box.mk (BQ.out.trans (hb.mono OQ.out.1))
   clear hb hrow HCL OQ BQ WQ y3
   generalize w.heap.size=gb at *
   have HF5:=Box.mk (O4.out.setRow 1 rfl (splice [.int .i64 xt,.int .i64 xr,.bool false,.slice xa nx xc] 3 [.slice va nx vc]))
   go_upto_region 12 with ((with_reducible show wpList _ _ _ _ _ _);refine wpList_store_part rfl 88 (.tmp 72) (.tmp 71) rfl rfl (size:=1) (off:=3) (by kernel_rfl) (O4.out.blk 1 rfl).1 (by simp) rfl (cs:=[.slice va nx vc]) rfl rfl (by simp [Value.oneCell']) ?_)
   generalize (w4.setRow gb _)=w5 at *
   have B5:=Box.mk (B4.out.trans HF5.out.2)
   have HF0:=Box.mk (And.intro (show Own B w5.drew (RowP 64 3 va nx vc (recC Val.enc xl)::BlkP gb 90 [.int .i64 xt,.int .i64 xr,.bool false,.slice va nx vc]::BlkP t.p 100 t.cs::RowP 90 4 t.la t.log.length t.lc (recC WrP.enc t.log)::MapO Tryz.prog 104 ekR Value.bool t.br t.rows::MapO Tryz.prog 3 kI Value.bool t.bw ([]:List (Int×Bool))::R) from HF5.out.1.drew) B5.out.drew)
   have HS0:Own B w5.drew (RowP 64 3 va nx vc (recC Val.enc xl)::BlkP gb 90 [.int .i64 xt,.int .i64 xr,.bool false,.slice va nx vc]::MapO Tryz.prog 104 ekR Value.bool t.br t.rows::MapO Tryz.prog 3 kI Value.bool t.bw ([]:List (Int×Bool))::R)∧Below B w w5.drew:=⟨(HF0.out.1.drop 2).drop 2,HF0.out.2⟩
   have hlog:=OK.out.2.2.2.2
   clear O4 B4 HF5 B5
   refine wp_region_held_drew (S:=fun w'=>(Own B w' (RowP 64 3 va nx vc (recC Val.enc xl)::BlkP gb 90 [.int .i64 xt,.int .i64 xr,.bool false,.slice va nx vc]::MapO Tryz.prog 104 ekR Value.bool t.br t.rows::MapO Tryz.prog 3 kI Value.bool t.bw ([]:List (Int×Bool))::R)∧Below B w w')) (by kernel_rfl) HS0 (fun _=>?_)
   generalize w5.drew=wd at *
   refine tw 0 rfl HS0 ?_
   conv=>arg 8;simp [go_sem]
   refine tw 1 rfl HS0 ?_
   conv=>arg 8;simp [go_sem]
   refine tw 2 rfl HS0 ?_
   conv=>arg 8;simp [go_sem]
   refine tw 3 rfl HS0 ?_
   conv=>arg 8;simp [go_sem]
   refine tk 5 (v:=.agg #[.int .i64 xt,.int .i64 xr,.bool false,.slice va nx vc]) rfl (yieldsIf_load_agg (by rfl) 90 (.tmp 5) rfl aggWr rfl (cs:=[.int .i64 xt,.int .i64 xr,.bool false,.slice va nx vc]) rfl (fun w' hS j u h=>by rw [add0];exact (hS.1.blk 1 rfl).1.cellOf h)) (HS0) ?_
   conv=>arg 8;simp [go_sem]
   refine wpAnyH_ready (rs:=[4,6]) (by kernel_rfl) (by simp) ?_
   refine AllReadyH.cons rfl (fun K' hK'=>?_) (AllReadyH.cons rfl (fun K' hK'=>?_) AllReadyH.nil)
   ·refine oper_load1 (by rfl) 80 (.tmp 76) rfl (by kernel_rfl) rfl ((HF0.out.1.blk 2 rfl).1.cellOf (i:=4) rfl) ?_
    have HT1:=HS0
    refine hK'.out _ _ HT1 (fun _=>?_)
    clear hK' K'
    conv=>arg 8;simp [go_sem]
    refine ar 6 rfl fun K' hK'=>?_
    refine oper_litA (by rfl) 80 (.tmp 78) rfl sl_wr (cs:=[.int .i64 xt,.int .i64 xr,.bool false,.slice va nx vc]) rfl rfl (by omega) (by omega) ?_
    have HF2:=Box.mk (And.intro (HF0.out.1.alloc (.cells #[.int .i64 xt,.int .i64 xr,.bool false,.slice va nx vc] 90)) (HF0.out.2.alloc HF0.out.1.1 (.cells #[.int .i64 xt,.int .i64 xr,.bool false,.slice va nx vc] 90)))
    have HT3:=And.intro (HT1.1.alloc (.cells #[.int .i64 xt,.int .i64 xr,.bool false,.slice va nx vc] 90)) (HT1.2.alloc HT1.1.1 (.cells #[.int .i64 xt,.int .i64 xr,.bool false,.slice va nx vc] 90))
    refine hK'.out _ _ HT3 (fun _=>?_)
    clear hK' K'
    conv=>arg 8;simp [go_sem]
    refine ar 7 rfl fun K' hK'=>?_
    refine oper_append_O (by rfl) (.tmp 77) (.tmp 79) 80 80 rfl sl_wr (.inl sl_wr.ht) HF2.out.1 3 rfl rfl rfl (Src.lone _ [.int .i64 xt,.int .i64 xr,.bool false,.slice va nx vc] _ rfl (by simp [Value.oneCell'])) (by omega) (by unfold maxLen;omega) ?_
    intro a9 c9 w9 hO9 hb9
    have O9:=Box.mk (show Own B w9 (RowP 64 3 va nx vc (recC Val.enc xl)::BlkP gb 90 [.int .i64 xt,.int .i64 xr,.bool false,.slice va nx vc]::BlkP t.p 100 t.cs::RowP 90 4 a9 (t.log.length+1) c9 (recC WrP.enc t.log++[.int .i64 xt,.int .i64 xr,.bool false,.slice va nx vc])::MapO Tryz.prog 104 ekR Value.bool t.br t.rows::MapO Tryz.prog 3 kI Value.bool t.bw ([]:List (Int×Bool))::R) from hO9)
    have B9:=Box.mk (HF2.out.2.trans hb9)
    clear hO9 hb9
    have HT4:=(show (Own _ _ _∧Below _ _ _) from And.intro ((O9.out.drop 2).drop 2) B9.out)
    refine hK'.out _ _ HT4 (fun _=>?_)
    clear hK' K'
    conv=>arg 8;simp [go_sem]
    refine tw 8 rfl HT4 ?_
    conv=>arg 8;simp [go_sem]
    refine tw 9 rfl HT4 ?_
    conv=>arg 8;simp [go_sem]
    refine ar 10 rfl fun K' hK'=>?_
    have HF9:=Box.mk (O9.out.setRow 2 rfl (splice t.cs 4 [.slice a9 (t.log.length+1) c9]))
    refine oper_store_part (by rfl) 80 (.tmp 82) (.tmp 80) rfl rfl (size:=1) (off:=4) (by kernel_rfl) (O9.out.blk 2 rfl).1 (by simp [TnP.cs]) rfl (cs:=[.slice a9 (t.log.length+1) c9]) rfl rfl (by simp [Value.oneCell']) ?_
    have HT5:=(show (Own _ _ _∧Below _ _ _) from And.intro ((HF9.out.1.drop 2).drop 2) (B9.out.trans HF9.out.2))
    refine hK'.out _ _ HT5 (fun _=>?_)
    clear hK' K'
    conv=>arg 8;simp [go_sem]
    refine ⟨by kernel_rfl,?_⟩
    conv =>
     arg 5
     simp [go_sem]
    go_wp2_with fail
    go_ret
    exact ⟨rfl,B9.out.trans HF9.out.2,va,vc,a9,c9,write_give OK.out.1 OK.out.2.1 HNX.out (by rw [HRR.out];exact HF9.out.1)⟩
   ·refine oper_litA (by rfl) 80 (.tmp 78) rfl sl_wr (cs:=[.int .i64 xt,.int .i64 xr,.bool false,.slice va nx vc]) rfl rfl (by omega) (by omega) ?_
    have HF6:=Box.mk (And.intro (HF0.out.1.alloc (.cells #[.int .i64 xt,.int .i64 xr,.bool false,.slice va nx vc] 90)) (HF0.out.2.alloc HF0.out.1.1 (.cells #[.int .i64 xt,.int .i64 xr,.bool false,.slice va nx vc] 90)))
    have HT7:=And.intro (HS0.1.alloc (.cells #[.int .i64 xt,.int .i64 xr,.bool false,.slice va nx vc] 90)) (HS0.2.alloc HS0.1.1 (.cells #[.int .i64 xt,.int .i64 xr,.bool false,.slice va nx vc] 90))
    refine hK'.out _ _ HT7 (fun _=>?_)
    clear hK' K'
    conv=>arg 8;simp [go_sem]
    refine ar 4 rfl fun K' hK'=>?_
    refine oper_load1 (by rfl) 80 (.tmp 76) rfl (by kernel_rfl) rfl ((HF6.out.1.blk 2 rfl).1.cellOf (i:=4) rfl) ?_
    have HT8:=HT7
    refine hK'.out _ _ HT8 (fun _=>?_)
    clear hK' K'
    conv=>arg 8;simp [go_sem]
    refine ar 7 rfl fun K' hK'=>?_
    refine oper_append_O (by rfl) (.tmp 77) (.tmp 79) 80 80 rfl sl_wr (.inl sl_wr.ht) HF6.out.1 3 rfl rfl rfl (Src.lone _ [.int .i64 xt,.int .i64 xr,.bool false,.slice va nx vc] _ rfl (by simp [Value.oneCell'])) (by omega) (by unfold maxLen;omega) ?_
    intro a9 c9 w9 hO9 hb9
    have O9:=Box.mk (show Own B w9 (RowP 64 3 va nx vc (recC Val.enc xl)::BlkP gb 90 [.int .i64 xt,.int .i64 xr,.bool false,.slice va nx vc]::BlkP t.p 100 t.cs::RowP 90 4 a9 (t.log.length+1) c9 (recC WrP.enc t.log++[.int .i64 xt,.int .i64 xr,.bool false,.slice va nx vc])::MapO Tryz.prog 104 ekR Value.bool t.br t.rows::MapO Tryz.prog 3 kI Value.bool t.bw ([]:List (Int×Bool))::R) from hO9)
    have B9:=Box.mk (HF6.out.2.trans hb9)
    clear hO9 hb9
    have HT9:=(show (Own _ _ _∧Below _ _ _) from And.intro ((O9.out.drop 2).drop 2) B9.out)
    refine hK'.out _ _ HT9 (fun _=>?_)
    clear hK' K'
    conv=>arg 8;simp [go_sem]
    refine tw 8 rfl HT9 ?_
    conv=>arg 8;simp [go_sem]
    refine tw 9 rfl HT9 ?_
    conv=>arg 8;simp [go_sem]
    refine ar 10 rfl fun K' hK'=>?_
    have HF9:=Box.mk (O9.out.setRow 2 rfl (splice t.cs 4 [.slice a9 (t.log.length+1) c9]))
    refine oper_store_part (by rfl) 80 (.tmp 82) (.tmp 80) rfl rfl (size:=1) (off:=4) (by kernel_rfl) (O9.out.blk 2 rfl).1 (by simp [TnP.cs]) rfl (cs:=[.slice a9 (t.log.length+1) c9]) rfl rfl (by simp [Value.oneCell']) ?_
    have HT10:=(show (Own _ _ _∧Below _ _ _) from And.intro ((HF9.out.1.drop 2).drop 2) (B9.out.trans HF9.out.2))
    refine hK'.out _ _ HT10 (fun _=>?_)
    clear hK' K'
    conv=>arg 8;simp [go_sem]
    refine ⟨by kernel_rfl,?_⟩
    conv =>
     arg 5
     simp [go_sem]
    go_wp2_with fail
    go_ret
    exact ⟨rfl,B9.out.trans HF9.out.2,va,vc,a9,c9,write_give OK.out.1 OK.out.2.1 HNX.out (by rw [HRR.out];exact HF9.out.1)⟩
  | false =>
   rw [hq] at HAN
   clear hq
   go_wp2_with fail
   refine HAN.out.mono ?_
   rintro e w2 ⟨rfl,hb⟩
   have O3:=Box.mk (O2.out.below hb)
   have B3:=Box.mk (B2.out.trans (hb.mono O2.out.1))
   have W3:=Box.mk (W2.out.trans (hb.mono W2.out.size))
   clear hb HAN O2 B2 W2
   have HTW:=Box.mk (writes_t (t:=t) (tn_open O3.out) OK.out.2.2.2.1)
   go_wp2_with fail
   refine HTW.out.mono ?_
   rintro e w3 ⟨hb,qa,qc,rfl,hrow⟩
   have OQ:=Box.mk (O3.out.below hb)
   have BQ:=Box.mk (B3.out.trans (hb.mono O3.out.1))
   have WQ:=Box.mk (W3.out.trans (hb.mono W3.out.size))
   have hw8:=wsOf_len t.log
   have y3:=(OQ.out.blk 0 rfl).1.cellOf (i:=3) rfl
   clear hb HTW O3 B3 W3 hrow
   clear x0 x4 y0 y1 y2
   have HCL:=Box.mk (clone_row (HV.out.below WQ.out (Nat.le_refl _)) (recC_one Val.enc_one xl) (by have:=HNX.out;omega))
   rw [HNX.out] at HCL
   go_wp2_with (fail)
   refine HCL.out.mono ?_
   rintro e w4 ⟨hb,va,vc,rfl,hrow⟩
   have O4:=Box.mk (show Own B w4 (RowP 64 3 va nx vc (recC Val.enc xl)::BlkP w.heap.size 90 [.int .i64 xt,.int .i64 xr,.bool false,.slice xa nx xc]::BlkP t.p 100 t.cs::RowP 90 4 t.la t.log.length t.lc (recC WrP.enc t.log)::MapO Tryz.prog 104 ekR Value.bool t.br t.rows::MapO Tryz.prog 3 kI Value.bool t.bw ([]:List (Int×Bool))::R) from (OQ.out.newRow hb hrow (Nat.le_refl _)).perm (List.perm_append_comm (l₂:=[_])))
   have B4:=Box.mk (BQ.out.trans (hb.mono OQ.out.1))
   clear hb hrow HCL OQ BQ WQ y3
   generalize w.heap.size=gb at *
   have HF5:=Box.mk (O4.out.setRow 1 rfl (splice [.int .i64 xt,.int .i64 xr,.bool false,.slice xa nx xc] 3 [.slice va nx vc]))
   go_upto_region 12 with ((with_reducible show wpList _ _ _ _ _ _);refine wpList_store_part rfl 88 (.tmp 72) (.tmp 71) rfl rfl (size:=1) (off:=3) (by kernel_rfl) (O4.out.blk 1 rfl).1 (by simp) rfl (cs:=[.slice va nx vc]) rfl rfl (by simp [Value.oneCell']) ?_)
   generalize (w4.setRow gb _)=w5 at *
   have B5:=Box.mk (B4.out.trans HF5.out.2)
   have HF0:=Box.mk (And.intro (show Own B w5.drew (RowP 64 3 va nx vc (recC Val.enc xl)::BlkP gb 90 [.int .i64 xt,.int .i64 xr,.bool false,.slice va nx vc]::BlkP t.p 100 t.cs::RowP 90 4 t.la t.log.length t.lc (recC WrP.enc t.log)::MapO Tryz.prog 104 ekR Value.bool t.br t.rows::MapO Tryz.prog 3 kI Value.bool t.bw ([]:List (Int×Bool))::R) from HF5.out.1.drew) B5.out.drew)
   have HS0:Own B w5.drew (RowP 64 3 va nx vc (recC Val.enc xl)::BlkP gb 90 [.int .i64 xt,.int .i64 xr,.bool false,.slice va nx vc]::MapO Tryz.prog 104 ekR Value.bool t.br t.rows::MapO Tryz.prog 3 kI Value.bool t.bw ([]:List (Int×Bool))::R)∧Below B w w5.drew:=⟨(HF0.out.1.drop 2).drop 2,HF0.out.2⟩
   have hlog:=OK.out.2.2.2.2
   clear O4 B4 HF5 B5
   refine wp_region_held_drew (S:=fun w'=>(Own B w' (RowP 64 3 va nx vc (recC Val.enc xl)::BlkP gb 90 [.int .i64 xt,.int .i64 xr,.bool false,.slice va nx vc]::MapO Tryz.prog 104 ekR Value.bool t.br t.rows::MapO Tryz.prog 3 kI Value.bool t.bw ([]:List (Int×Bool))::R)∧Below B w w')) (by kernel_rfl) HS0 (fun _=>?_)
   generalize w5.drew=wd at *
   refine tw 0 rfl HS0 ?_
   conv=>arg 8;simp [go_sem]
   refine tw 1 rfl HS0 ?_
   conv=>arg 8;simp [go_sem]
   refine tw 2 rfl HS0 ?_
   conv=>arg 8;simp [go_sem]
   refine tw 3 rfl HS0 ?_
   conv=>arg 8;simp [go_sem]
   refine tk 5 (v:=.agg #[.int .i64 xt,.int .i64 xr,.bool false,.slice va nx vc]) rfl (yieldsIf_load_agg (by rfl) 90 (.tmp 5) rfl aggWr rfl (cs:=[.int .i64 xt,.int .i64 xr,.bool false,.slice va nx vc]) rfl (fun w' hS j u h=>by rw [add0];exact (hS.1.blk 1 rfl).1.cellOf h)) (HS0) ?_
   conv=>arg 8;simp [go_sem]
   refine wpAnyH_ready (rs:=[4,6]) (by kernel_rfl) (by simp) ?_
   refine AllReadyH.cons rfl (fun K' hK'=>?_) (AllReadyH.cons rfl (fun K' hK'=>?_) AllReadyH.nil)
   ·refine oper_load1 (by rfl) 80 (.tmp 76) rfl (by kernel_rfl) rfl ((HF0.out.1.blk 2 rfl).1.cellOf (i:=4) rfl) ?_
    have HT1:=HS0
    refine hK'.out _ _ HT1 (fun _=>?_)
    clear hK' K'
    conv=>arg 8;simp [go_sem]
    refine ar 6 rfl fun K' hK'=>?_
    refine oper_litA (by rfl) 80 (.tmp 78) rfl sl_wr (cs:=[.int .i64 xt,.int .i64 xr,.bool false,.slice va nx vc]) rfl rfl (by omega) (by omega) ?_
    have HF2:=Box.mk (And.intro (HF0.out.1.alloc (.cells #[.int .i64 xt,.int .i64 xr,.bool false,.slice va nx vc] 90)) (HF0.out.2.alloc HF0.out.1.1 (.cells #[.int .i64 xt,.int .i64 xr,.bool false,.slice va nx vc] 90)))
    have HT3:=And.intro (HT1.1.alloc (.cells #[.int .i64 xt,.int .i64 xr,.bool false,.slice va nx vc] 90)) (HT1.2.alloc HT1.1.1 (.cells #[.int .i64 xt,.int .i64 xr,.bool false,.slice va nx vc] 90))
    refine hK'.out _ _ HT3 (fun _=>?_)
    clear hK' K'
    conv=>arg 8;simp [go_sem]
    refine ar 7 rfl fun K' hK'=>?_
    refine oper_append_O (by rfl) (.tmp 77) (.tmp 79) 80 80 rfl sl_wr (.inl sl_wr.ht) HF2.out.1 3 rfl rfl rfl (Src.lone _ [.int .i64 xt,.int .i64 xr,.bool false,.slice va nx vc] _ rfl (by simp [Value.oneCell'])) (by omega) (by unfold maxLen;omega) ?_
    intro a9 c9 w9 hO9 hb9
    have O9:=Box.mk (show Own B w9 (RowP 64 3 va nx vc (recC Val.enc xl)::BlkP gb 90 [.int .i64 xt,.int .i64 xr,.bool false,.slice va nx vc]::BlkP t.p 100 t.cs::RowP 90 4 a9 (t.log.length+1) c9 (recC WrP.enc t.log++[.int .i64 xt,.int .i64 xr,.bool false,.slice va nx vc])::MapO Tryz.prog 104 ekR Value.bool t.br t.rows::MapO Tryz.prog 3 kI Value.bool t.bw ([]:List (Int×Bool))::R) from hO9)
    have B9:=Box.mk (HF2.out.2.trans hb9)
    clear hO9 hb9
    have HT4:=(show (Own _ _ _∧Below _ _ _) from And.intro ((O9.out.drop 2).drop 2) B9.out)
    refine hK'.out _ _ HT4 (fun _=>?_)
    clear hK' K'
    conv=>arg 8;simp [go_sem]
    refine tw 8 rfl HT4 ?_
    conv=>arg 8;simp [go_sem]
    refine tw 9 rfl HT4 ?_
    conv=>arg 8;simp [go_sem]
    refine ar 10 rfl fun K' hK'=>?_
    have HF9:=Box.mk (O9.out.setRow 2 rfl (splice t.cs 4 [.slice a9 (t.log.length+1) c9]))
    refine oper_store_part (by rfl) 80 (.tmp 82) (.tmp 80) rfl rfl (size:=1) (off:=4) (by kernel_rfl) (O9.out.blk 2 rfl).1 (by simp [TnP.cs]) rfl (cs:=[.slice a9 (t.log.length+1) c9]) rfl rfl (by simp [Value.oneCell']) ?_
    have HT5:=(show (Own _ _ _∧Below _ _ _) from And.intro ((HF9.out.1.drop 2).drop 2) (B9.out.trans HF9.out.2))
    refine hK'.out _ _ HT5 (fun _=>?_)
    clear hK' K'
    conv=>arg 8;simp [go_sem]
    refine ⟨by kernel_rfl,?_⟩
    conv =>
     arg 5
     simp [go_sem]
    go_wp2_with fail
    go_ret
    exact ⟨rfl,B9.out.trans HF9.out.2,va,vc,a9,c9,write_give OK.out.1 OK.out.2.1 HNX.out (by rw [HRR.out];exact HF9.out.1)⟩
   ·refine oper_litA (by rfl) 80 (.tmp 78) rfl sl_wr (cs:=[.int .i64 xt,.int .i64 xr,.bool false,.slice va nx vc]) rfl rfl (by omega) (by omega) ?_
    have HF6:=Box.mk (And.intro (HF0.out.1.alloc (.cells #[.int .i64 xt,.int .i64 xr,.bool false,.slice va nx vc] 90)) (HF0.out.2.alloc HF0.out.1.1 (.cells #[.int .i64 xt,.int .i64 xr,.bool false,.slice va nx vc] 90)))
    have HT7:=And.intro (HS0.1.alloc (.cells #[.int .i64 xt,.int .i64 xr,.bool false,.slice va nx vc] 90)) (HS0.2.alloc HS0.1.1 (.cells #[.int .i64 xt,.int .i64 xr,.bool false,.slice va nx vc] 90))
    refine hK'.out _ _ HT7 (fun _=>?_)
    clear hK' K'
    conv=>arg 8;simp [go_sem]
    refine ar 4 rfl fun K' hK'=>?_
    refine oper_load1 (by rfl) 80 (.tmp 76) rfl (by kernel_rfl) rfl ((HF6.out.1.blk 2 rfl).1.cellOf (i:=4) rfl) ?_
    have HT8:=HT7
    refine hK'.out _ _ HT8 (fun _=>?_)
    clear hK' K'
    conv=>arg 8;simp [go_sem]
    refine ar 7 rfl fun K' hK'=>?_
    refine oper_append_O (by rfl) (.tmp 77) (.tmp 79) 80 80 rfl sl_wr (.inl sl_wr.ht) HF6.out.1 3 rfl rfl rfl (Src.lone _ [.int .i64 xt,.int .i64 xr,.bool false,.slice va nx vc] _ rfl (by simp [Value.oneCell'])) (by omega) (by unfold maxLen;omega) ?_
    intro a9 c9 w9 hO9 hb9
    have O9:=Box.mk (show Own B w9 (RowP 64 3 va nx vc (recC Val.enc xl)::BlkP gb 90 [.int .i64 xt,.int .i64 xr,.bool false,.slice va nx vc]::BlkP t.p 100 t.cs::RowP 90 4 a9 (t.log.length+1) c9 (recC WrP.enc t.log++[.int .i64 xt,.int .i64 xr,.bool false,.slice va nx vc])::MapO Tryz.prog 104 ekR Value.bool t.br t.rows::MapO Tryz.prog 3 kI Value.bool t.bw ([]:List (Int×Bool))::R) from hO9)
    have B9:=Box.mk (HF6.out.2.trans hb9)
    clear hO9 hb9
    have HT9:=(show (Own _ _ _∧Below _ _ _) from And.intro ((O9.out.drop 2).drop 2) B9.out)
    refine hK'.out _ _ HT9 (fun _=>?_)
    clear hK' K'
    conv=>arg 8;simp [go_sem]
    refine tw 8 rfl HT9 ?_
    conv=>arg 8;simp [go_sem]
    refine tw 9 rfl HT9 ?_
    conv=>arg 8;simp [go_sem]
    refine ar 10 rfl fun K' hK'=>?_
    have HF9:=Box.mk (O9.out.setRow 2 rfl (splice t.cs 4 [.slice a9 (t.log.length+1) c9]))
    refine oper_store_part (by rfl) 80 (.tmp 82) (.tmp 80) rfl rfl (size:=1) (off:=4) (by kernel_rfl) (O9.out.blk 2 rfl).1 (by simp [TnP.cs]) rfl (cs:=[.slice a9 (t.log.length+1) c9]) rfl rfl (by simp [Value.oneCell']) ?_
    have HT10:=(show (Own _ _ _∧Below _ _ _) from And.intro ((HF9.out.1.drop 2).drop 2) (B9.out.trans HF9.out.2))
    refine hK'.out _ _ HT10 (fun _=>?_)
    clear hK' K'
    conv=>arg 8;simp [go_sem]
    refine ⟨by kernel_rfl,?_⟩
    conv =>
     arg 5
     simp [go_sem]
    go_wp2_with fail
    go_ret
    exact ⟨rfl,B9.out.trans HF9.out.2,va,vc,a9,c9,write_give OK.out.1 OK.out.2.1 HNX.out (by rw [HRR.out];exact HF9.out.1)⟩
end
end Go.Proofs.YtlfghapllmaigaaGreatDoor
