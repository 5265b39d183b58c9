/-
  The walks of the references' Same and SameRows, of the desk's least; The walks of code's valid, sum, Encode and Check at the line of zeros; The walk of memory.New at two lines; The walks of memory's has, word, State, at a memory of two lines of zeros. Conditions: each theorem's own hypotheses.
-/
import Derived.Test.YtlfghapllmaigaaGreatDoorK31
set_option linter.unusedVariables false
set_option linter.unusedSimpArgs false
namespace Go.Proofs.YtlfghapllmaigaaGreatDoor
section
open Go.RowKit Go.Maps
set_option maxRecDepth 20000 in
set_option maxHeartbeats 2000000 in
theorem same19_any {l:List Val} {a b:Option Addr} {n cap cap2:Nat} {w:World} (h1:Rd w a n cap 3 (recC Val.enc l)) (h2:Rd w b n cap2 3 (recC Val.enc l)) :
  Calls Tryz.prog 80 #[.slice a n cap,.slice b n cap2] w (RetV (.bool true) w):=by
 have mx:=h1.lenMax
 have R1:=Box.mk h1;have R2:=Box.mk h2
 clear h1 h2
 go_enter Tryz.func80,Tryz.ntmps80
 go_wp2_with fail
 go_loopw [5] (fun i wr=>∃k:Nat,k≤n∧i=.int .i64 k∧∃q,wr=w.drewN q) (fun i _=>n - (intOf i).toNat)
 case atStart=>exact ⟨0,Nat.zero_le _,rfl,0,rfl⟩
 case round =>
  obtain ⟨k,hk,rfl,q,rfl⟩:=hrel
  by_cases hl:k<n
  ·obtain ⟨g,off,rfl,_,hc⟩:=R1.out.recAt Val.enc_len (by omega) k hl
   obtain ⟨g2,off2,rfl,_,hc2⟩:=R2.out.recAt Val.enc_len (by omega) k hl
   generalize l.getD k default=x at *
   obtain ⟨xk,xn,xs⟩:=x
   have hq:=run_neqS xk xn xs
   have c0:=hc 0 _ rfl
   have c1:=hc 1 _ rfl
   have c2:=hc 2 _ rfl
   have d0:=hc2 0 _ rfl
   have d1:=hc2 1 _ rfl
   have d2:=hc2 2 _ rfl
   simp only [Nat.add_zero] at c0 c1 c2 d0 d1 d2
   clear hc hc2
   go_wp2_with fail
   go_quiet (fail)
   go_wp2_with fail
   go_roundw
   case rel=>exact ⟨k+1,by omega,by go_num,_,rfl⟩
   case measure=>simp [intOf];omega
  ·go_wp2_with fail
   go_ret
   exact ⟨rfl,below_drewN (Below.refl _ _) _⟩
theorem nm_s19:(Tryz.f80.name == "runtime.NumGoroutine")=false:=by kernel_rfl
theorem bd_s19:Tryz.f80.body.isNone=false:=by kernel_rfl
set_option maxRecDepth 20000 in
set_option maxHeartbeats 4000000 in
theorem samerows_any {xs ys:List HdP} {a b:Option Addr} {n c c2:Nat} {w:World} (h1:Rd w a n c 4 (recC HdP.enc xs)) (h2:Rd w b n c2 4 (recC HdP.enc xs)) (hv:∀x∈xs,Rd w x.va x.vals.length x.vc 3 (recC Val.enc x.vals)) :
  Calls Tryz.prog 17 #[.slice a n c,.slice b n c2] w (RetV (.bool true) w):=by
 have mx:=h1.lenMax
 have hln:=h1.rlen HdP.enc_len (by omega)
 have R1:=Box.mk h1;have R2:=Box.mk h2
 have HV:=Box.mk hv
 have HL:=Box.mk hln
 clear h1 h2 hv hln
 go_enter Tryz.func17,Tryz.ntmps17
 go_wp2_with fail
 go_loopw [5] (fun i wr=>∃k:Nat,k≤n∧i=.int .i64 k∧Box (Below w.heap.size w wr)) (fun i _=>n - (intOf i).toNat)
 case atStart=>exact ⟨0,Nat.zero_le _,rfl,⟨Below.refl _ _⟩⟩
 case round =>
  obtain ⟨k,hk,rfl,HI⟩:=hrel
  by_cases hl:k<n
  ·obtain ⟨g,off,rfl,_,_⟩:=R1.out.recAt HdP.enc_len (by omega) k hl
   obtain ⟨g2,off2,rfl,_,_⟩:=R2.out.recAt HdP.enc_len (by omega) k hl
   have hxm:xs.getD k default∈xs:=getD_mem (by rw [HL.out];exact hl)
   have HCA:=Box.mk (fun w' (hb:Below w.heap.size w w')=>(R1.out.below hb (Nat.le_refl _)).recCell HdP.enc_len (by omega) k hl)
   have HCB:=Box.mk (fun w' (hb:Below w.heap.size w w')=>(R2.out.below hb (Nat.le_refl _)).recCell HdP.enc_len (by omega) k hl)
   generalize xs.getD k default=x at *
   have HX:=Box.mk (HV.out x hxm)
   obtain ⟨xt,xr,xss,va,vc,xl⟩:=x
   simp only [HdP.enc] at HCA HCB HX
   have HSM:=Box.mk (fun w' (hb:Below w.heap.size w w')=>same19_any (HX.out.below hb (Nat.le_refl _)) (HX.out.below hb (Nat.le_refl _)))
   generalize xl.length=xn at *
   clear hxm HX
   go_wp2_with fail
   have HS0:Below w.heap.size w wr.drew:=HI.out.drew
   clear HI
   refine wp_region_held_drew (S:=fun w'=>Below w.heap.size w w') (by kernel_rfl) HS0 (fun _=>?_)
   generalize wr.drew=wd at *
   refine tw 0 rfl HS0 ?_
   conv=>arg 8;simp [go_sem]
   refine tw 1 rfl HS0 ?_
   conv=>arg 8;simp [go_sem]
   refine tw 2 rfl HS0 ?_
   conv=>arg 8;simp [go_sem]
   refine tw 3 rfl HS0 ?_
   conv=>arg 8;simp [go_sem]
   refine tv 4 rfl (fun w' hS=>by have e:=HCA.out w' hS 0 _ rfl;simp only [Nat.add_zero] at e;go_simp;all_goals with_reducible rfl) HS0 ?_
   conv=>arg 8;simp [go_sem]
   refine tw 5 rfl HS0 ?_
   conv=>arg 8;simp [go_sem]
   refine tw 6 rfl HS0 ?_
   conv=>arg 8;simp [go_sem]
   refine tw 7 rfl HS0 ?_
   conv=>arg 8;simp [go_sem]
   refine tw 8 rfl HS0 ?_
   conv=>arg 8;simp [go_sem]
   refine tv 9 rfl (fun w' hS=>by have e:=HCB.out w' hS 0 _ rfl;simp only [Nat.add_zero] at e;go_simp;all_goals with_reducible rfl) HS0 ?_
   conv=>arg 8;simp [go_sem]
   refine tw 10 rfl HS0 ?_
   conv=>arg 8;simp [go_sem]
   refine tw 11 rfl HS0 ?_
   conv=>arg 8;simp [go_sem]
   refine tw 12 rfl HS0 ?_
   conv=>arg 8;simp [go_sem]
   refine tw 13 rfl HS0 ?_
   conv=>arg 8;simp [go_sem]
   refine tw 14 rfl HS0 ?_
   conv=>arg 8;simp [go_sem]
   refine tw 15 rfl HS0 ?_
   conv=>arg 8;simp [go_sem]
   refine tv 16 rfl (fun w' hS=>by have e:=HCA.out w' hS 1 _ rfl;go_simp;all_goals with_reducible rfl) HS0 ?_
   conv=>arg 8;simp [go_sem]
   refine tw 17 rfl HS0 ?_
   conv=>arg 8;simp [go_sem]
   refine tw 18 rfl HS0 ?_
   conv=>arg 8;simp [go_sem]
   refine tw 19 rfl HS0 ?_
   conv=>arg 8;simp [go_sem]
   refine tw 20 rfl HS0 ?_
   conv=>arg 8;simp [go_sem]
   refine tv 21 rfl (fun w' hS=>by have e:=HCB.out w' hS 1 _ rfl;go_simp;all_goals with_reducible rfl) HS0 ?_
   conv=>arg 8;simp [go_sem]
   refine tw 22 rfl HS0 ?_
   conv=>arg 8;simp [go_sem]
   refine tw 23 rfl HS0 ?_
   conv=>arg 8;simp [go_sem]
   refine tw 24 rfl HS0 ?_
   conv=>arg 8;simp [go_sem]
   refine tw 25 rfl HS0 ?_
   conv=>arg 8;simp [go_sem]
   refine tw 26 rfl HS0 ?_
   conv=>arg 8;simp [go_sem]
   refine tw 27 rfl HS0 ?_
   conv=>arg 8;simp [go_sem]
   refine tw 28 rfl HS0 ?_
   conv=>arg 8;simp [go_sem]
   refine tv 29 rfl (fun w' hS=>by have e:=HCA.out w' hS 2 _ rfl;go_simp;all_goals with_reducible rfl) HS0 ?_
   conv=>arg 8;simp [go_sem]
   refine tw 30 rfl HS0 ?_
   conv=>arg 8;simp [go_sem]
   refine tw 31 rfl HS0 ?_
   conv=>arg 8;simp [go_sem]
   refine tw 32 rfl HS0 ?_
   conv=>arg 8;simp [go_sem]
   refine tw 33 rfl HS0 ?_
   conv=>arg 8;simp [go_sem]
   refine tv 34 rfl (fun w' hS=>by have e:=HCB.out w' hS 2 _ rfl;go_simp;all_goals with_reducible rfl) HS0 ?_
   conv=>arg 8;simp [go_sem]
   refine tw 35 rfl HS0 ?_
   conv=>arg 8;simp [go_sem]
   refine tw 36 rfl HS0 ?_
   conv=>arg 8;simp [go_sem]
   refine tw 37 rfl HS0 ?_
   conv=>arg 8;simp [go_sem]
   refine tw 38 rfl HS0 ?_
   conv=>arg 8;simp [go_sem]
   refine tw 39 rfl HS0 ?_
   conv=>arg 8;simp [go_sem]
   refine tw 40 rfl HS0 ?_
   conv=>arg 8;simp [go_sem]
   refine tw 41 rfl HS0 ?_
   conv=>arg 8;simp [go_sem]
   refine tv 42 rfl (fun w' hS=>by have e:=HCA.out w' hS 3 _ rfl;go_simp;all_goals with_reducible rfl) HS0 ?_
   conv=>arg 8;simp [go_sem]
   refine tw 43 rfl HS0 ?_
   conv=>arg 8;simp [go_sem]
   refine tw 44 rfl HS0 ?_
   conv=>arg 8;simp [go_sem]
   refine tw 45 rfl HS0 ?_
   conv=>arg 8;simp [go_sem]
   refine tw 46 rfl HS0 ?_
   conv=>arg 8;simp [go_sem]
   refine tv 47 rfl (fun w' hS=>by have e:=HCB.out w' hS 3 _ rfl;go_simp;all_goals with_reducible rfl) HS0 ?_
   conv=>arg 8;simp [go_sem]
   refine ar 48 rfl fun K' hK'=>?_
   refine oper_call (by rfl) 80 [.tmp 59,.tmp 64] #[88,88] rfl (vs:=[.slice va xn vc,.slice va xn vc]) rfl Tryz.func80 nm_s19 bd_s19 (HSM.out _ HS0) ?_
   rintro e w9 ⟨rfl,hb⟩
   have HT1:=HS0.trans (hb.mono HS0.size)
   refine ⟨_,rfl,hK'.out _ _ HT1 (fun _=>?_)⟩
   clear hK' K'
   conv=>arg 8;simp [go_sem]
   refine tw 49 rfl HT1 ?_
   conv=>arg 8;simp [go_sem]
   refine tw 50 rfl HT1 ?_
   conv=>arg 8;simp [go_sem]
   refine ⟨by kernel_rfl,?_⟩
   conv =>
    arg 5
    simp [go_sem]
   go_wp2_with fail
   go_roundw
   case rel=>exact ⟨k+1,by omega,by go_num,⟨HT1⟩⟩
   case measure=>simp [intOf];omega
  ·go_wp2_with fail
   go_ret
   exact ⟨rfl,HI.out⟩
set_option maxRecDepth 20000 in
theorem least_any {n m:Int} (hn:In64 n) (hm:0<m) (hm2:m≤100) (w:World):Calls Tryz.prog 26 #[.int .i64 n,.int .i64 m] w (RetV (.int .i64 (n % m)) w):=by
 have h0:(m==0)=false:=by simp;omega
 have h1:(m != 0)=true:=by simp;omega
 have e1:-m<n.tmod m∧n.tmod m<m:=by
  have h2:=Int.tmod_lt_of_pos n hm
  have h3:-m<n.tmod m:=by
   rcases Int.lt_or_le n 0 with h | h
   ·have h4:=Int.tmod_lt_of_pos (-n) hm
    rw [Int.neg_tmod] at h4
    omega
   ·have:=Int.tmod_nonneg m h;omega
  exact ⟨h3,h2⟩
 have e2:(n.tmod m+m).tmod m=n % m:=by
  rw [Int.tmod_eq_emod_of_nonneg (by omega),Int.add_emod_right]
  rcases Int.lt_or_le n 0 with h | h
  ·rw [Int.tmod_eq_emod]
   split
   ·simp
   ·rw [Int.natAbs_of_nonneg (by omega),Int.sub_emod_right,Int.emod_emod_of_dvd _ (Int.dvd_refl m)]
  ·rw [Int.tmod_eq_emod_of_nonneg h,Int.emod_emod_of_dvd _ (Int.dvd_refl m)]
 have w1:IntKind.i64.wrap (n.tmod m+m)=n.tmod m+m:=IntWalk.i64_in _ (by omega)
 go_enter Tryz.func26,Tryz.ntmps26
 go_wp2_with fail
 go_ret
 exact ⟨by simp [e2],Below.refl _ _⟩
end
section
open Go.RowKit Go.Maps
def z8s:List Value:=[.int .i64 0,.int .i64 0,.int .i64 0,.int .i64 0,.int .i64 0,.int .i64 0,.int .i64 0,.int .i64 0]
theorem lt8 {k:Nat} (h:k<8):k=0∨k=1∨k=2∨k=3∨k=4∨k=5∨k=6∨k=7:=by omega
set_option maxRecDepth 20000 in
theorem ix8 {k:Nat} (h:k<8) (w:World):(Instr.index 169 (.agg #[.int .i64 0,.int .i64 0,.int .i64 0,.int .i64 0,.int .i64 0,.int .i64 0,.int .i64 0,.int .i64 0]) (.int .i64 (k:Int))).run Tryz.prog w=.ok (.int .i64 0) w:=by
 rcases lt8 h with rfl | rfl | rfl | rfl | rfl | rfl | rfl | rfl<;>rfl
set_option maxRecDepth 20000 in
set_option maxHeartbeats 2000000 in
theorem valid_z (w:World):Calls Tryz.prog 134 #[.agg #[.int .i64 0,.int .i64 0,.int .i64 0,.int .i64 0,.int .i64 0,.int .i64 0,.int .i64 0,.int .i64 0],.int .i64 0] w (RetV (.bool true) w):=by
 go_enter Tryz.func134,Tryz.ntmps134
 go_wp2_with fail
 go_loopw [8] (fun i wr=>∃k:Nat,k≤8∧i=.int .i64 k∧wr=w.alloc (.cells #[.int .i64 0,.int .i64 0,.int .i64 0,.int .i64 0,.int .i64 0,.int .i64 0,.int .i64 0,.int .i64 0] 169)) (fun i _=>8 - (intOf i).toNat)
 case atStart=>exact ⟨0,Nat.zero_le _,rfl,rfl⟩
 case round =>
  obtain ⟨k,hk,rfl,rfl⟩:=hrel
  by_cases hl:k<8
  ·have hix:=ix8 hl
   go_wp2_with fail
   go_roundw
   case rel=>exact ⟨k+1,by omega,by go_num,by simp⟩
   case measure=>simp [intOf];omega
  ·obtain rfl:k=8:=by omega
   go_wp2_with fail
   go_ret
   exact ⟨rfl,(Below.refl _ _).alloc (Nat.le_refl _) _⟩
set_option maxRecDepth 20000 in
set_option maxHeartbeats 2000000 in
theorem sum_z (w:World):Calls Tryz.prog 135 #[.agg #[.int .i64 0,.int .i64 0,.int .i64 0,.int .i64 0,.int .i64 0,.int .i64 0,.int .i64 0,.int .i64 0]] w (RetV (.tuple #[.int .i64 0,.int .i64 0]) w):=by
 go_enter Tryz.func135,Tryz.ntmps135
 go_wp2_with fail
 go_loopw [2,3,7] (fun s n i wr=>∃k:Nat,k≤8∧s=.int .i64 0∧n=.int .i64 0∧i=.int .i64 k∧wr=w.alloc (.cells #[.int .i64 0,.int .i64 0,.int .i64 0,.int .i64 0,.int .i64 0,.int .i64 0,.int .i64 0,.int .i64 0] 169)) (fun _ _ i _=>8 - (intOf i).toNat)
 case atStart=>exact ⟨0,Nat.zero_le _,rfl,rfl,rfl,rfl⟩
 case round =>
  obtain ⟨k,hk,rfl,rfl,rfl,rfl⟩:=hrel
  by_cases hl:k<8
  ·have hix:=ix8 hl
   go_wp2_with fail
   go_loopw [2,3,5] (fun s n i wq=>s=.int .i64 0∧n=.int .i64 0∧i=.int .i64 0∧wq=w.alloc (.cells #[.int .i64 0,.int .i64 0,.int .i64 0,.int .i64 0,.int .i64 0,.int .i64 0,.int .i64 0,.int .i64 0] 169)) (fun _ _ _ _=>0)
   case atStart=>exact ⟨rfl,rfl,rfl,rfl⟩
   case round =>
    obtain ⟨rfl,rfl,rfl,rfl⟩:=hrel
    go_wp2_with fail
    go_roundw
    case rel=>exact ⟨k+1,by omega,rfl,rfl,by go_num,by simp⟩
    case measure=>simp [intOf];omega
  ·obtain rfl:k=8:=by omega
   go_wp2_with fail
   go_ret2
   exact ⟨rfl,(Below.refl _ _).alloc (Nat.le_refl _) _⟩
set_option maxRecDepth 20000 in
set_option maxHeartbeats 2000000 in
theorem ones64_z (w:World):Calls Tryz.prog 164 #[.int .u64 0] w (RetV (.int .i64 0) w):=by
 go_enter Tryz.func164,Tryz.ntmps164
 go_wp2_with fail
 go_ret
 exact ⟨by kernel_rfl,Below.refl _ _⟩
set_option maxRecDepth 20000 in
set_option maxHeartbeats 2000000 in
theorem ones_z (w:World):Calls Tryz.prog 136 #[.int .u64 0] w (RetV (.int .i64 0) w):=by
 have HC:=ones64_z w
 go_enter Tryz.func136,Tryz.ntmps136
 go_wp2_with fail
 refine HC.mono ?_
 rintro e w1 ⟨rfl,hb⟩
 go_wp2_with fail
 go_ret
 exact ⟨rfl,hb⟩
set_option maxRecDepth 20000 in
set_option maxHeartbeats 2000000 in
theorem encode_z (w:World):Calls Tryz.prog 83 #[.agg #[.int .i64 0,.int .i64 0,.int .i64 0,.int .i64 0,.int .i64 0,.int .i64 0,.int .i64 0,.int .i64 0]] w (RetV (.int .i64 0) w):=by
 have O1:=Box.mk (show Own w.heap.size (w.alloc (.cells z8s.toArray 169)) [BlkP w.heap.size 169 z8s] from (Own.start w).new z8s 169)
 have B1:=Box.mk ((Below.refl w.heap.size w).alloc (Nat.le_refl _) (.cells z8s.toArray 169))
 unfold z8s at O1 B1
 go_enter Tryz.func83,Tryz.ntmps83
 go_upto_region 1 with fail
 obtain ⟨gx,hgx⟩:∃gx,w.heap.size=gx:=⟨_,rfl⟩
 have HGX:=Box.mk hgx
 rw [hgx] at O1 B1 ⊢
 generalize (w.alloc (.cells #[.int .i64 0,.int .i64 0,.int .i64 0,.int .i64 0,.int .i64 0,.int .i64 0,.int .i64 0,.int .i64 0] 169))=w1 at *
 clear hgx
 have y0:=(O1.out.blk 0 rfl).1.cellOf (i:=0) rfl
 have y1:=(O1.out.blk 0 rfl).1.cellOf (i:=1) rfl
 have y2:=(O1.out.blk 0 rfl).1.cellOf (i:=2) rfl
 have y3:=(O1.out.blk 0 rfl).1.cellOf (i:=3) rfl
 have y4:=(O1.out.blk 0 rfl).1.cellOf (i:=4) rfl
 have y5:=(O1.out.blk 0 rfl).1.cellOf (i:=5) rfl
 have y6:=(O1.out.blk 0 rfl).1.cellOf (i:=6) rfl
 have y7:=(O1.out.blk 0 rfl).1.cellOf (i:=7) rfl
 go_wp2_with fail
 refine (valid_z w1).mono ?_
 rintro e w2 ⟨rfl,hb2⟩
 have O2:=Box.mk (O1.out.below hb2)
 have B2:=Box.mk (B1.out.trans (hb2.mono O1.out.1))
 clear y0 y1 y2 y3 y4 y5 y6 y7
 have y0:=(O2.out.blk 0 rfl).1.cellOf (i:=0) rfl
 have y1:=(O2.out.blk 0 rfl).1.cellOf (i:=1) rfl
 have y2:=(O2.out.blk 0 rfl).1.cellOf (i:=2) rfl
 have y3:=(O2.out.blk 0 rfl).1.cellOf (i:=3) rfl
 have y4:=(O2.out.blk 0 rfl).1.cellOf (i:=4) rfl
 have y5:=(O2.out.blk 0 rfl).1.cellOf (i:=5) rfl
 have y6:=(O2.out.blk 0 rfl).1.cellOf (i:=6) rfl
 have y7:=(O2.out.blk 0 rfl).1.cellOf (i:=7) rfl
 clear hb2 O1 B1
 go_wp2_with fail
 refine (sum_z w2).mono ?_
 rintro e w3 ⟨rfl,hb3⟩
 have B3:=Box.mk (B2.out.trans (hb3.mono O2.out.1))
 have H3:=Box.mk (O2.out.below hb3).1
 clear y0 y1 y2 y3 y4 y5 y6 y7
 clear hb3 O2 B2
 have HC:=ones_z w3
 go_wp2_with fail
 refine HC.mono ?_
 rintro e w4 ⟨rfl,hb4⟩
 have B4:=Box.mk (B3.out.trans (hb4.mono H3.out))
 clear hb4 HC
 go_wp2_with fail
 go_ret
 exact ⟨rfl,by rw [HGX.out];exact B4.out⟩
set_option maxRecDepth 20000 in
theorem results_int3 {fn:Func} {ta tb tc:Tmp} (h:fn.results=#[.cell ta 3,.cell tb 3,.cell tc 3]) (tmps:Array Value) (w:World) {ga gb gc:Nat} {va vb vc:Value}
  (ea:tmps.getD ta undef=.pointer (some ⟨ga,0,none⟩)) (eb:tmps.getD tb undef=.pointer (some ⟨gb,0,none⟩)) (ec:tmps.getD tc undef=.pointer (some ⟨gc,0,none⟩))
  (za:w.cell? ⟨ga,0,none⟩=some va) (zb:w.cell? ⟨gb,0,none⟩=some vb) (zc:w.cell? ⟨gc,0,none⟩=some vc):(results fn tmps).run Tryz.prog w=.ok (.tuple #[va,vb,vc]) w:=by
 rw [Array.getD_eq_getD_getElem?] at ea eb ec
 unfold results
 simp only [h]
 go_simp
set_option maxRecDepth 20000 in
set_option maxHeartbeats 4000000 in
theorem check_z (w:World):Calls Tryz.prog 165 #[.agg #[.int .i64 0,.int .i64 0,.int .i64 0,.int .i64 0,.int .i64 0,.int .i64 0,.int .i64 0,.int .i64 0],.int .i64 0] w (RetV (.tuple #[.int .i64 0,.int .i64 0,.int .i64 0]) w):=by
 have O1:=((((Own.start w).new z8s 169).new [.int .i64 0] 3).new [.int .i64 0] 3).new [.int .i64 0] 3
 have B1:=((((Below.refl w.heap.size w).alloc (Nat.le_refl _) (.cells z8s.toArray 169)).alloc (by simp) (.cells #[.int .i64 0] 3)).alloc (by simp;omega) (.cells #[.int .i64 0] 3)).alloc (by simp;omega) (.cells #[.int .i64 0] 3)
 unfold z8s at O1 B1
 simp only [World.size_alloc,List.nil_append,List.cons_append] at O1
 have O1:=Box.mk O1
 have B1:=Box.mk B1
 refine (callsIn_wide (n:=8)).1 ?_
 refine callsIn_of_wp_marks Tryz.func165 rfl trivial ?_ rfl
 simp only [Tryz.ntmps165,List.size_toArray,List.length_cons,List.length_nil,Nat.reduceAdd,Nat.reduceSub,Array.replicate_succ,Array.replicate_zero,List.push_toArray,List.append_toArray,List.nil_append,List.cons_append]
 refine wpIn_wide.2 ?_
 go_upto_region 1 with fail
 obtain ⟨gx,hgx⟩:∃gx,w.heap.size=gx:=⟨_,rfl⟩
 have HGX:=Box.mk hgx
 rw [hgx] at O1 B1 ⊢
 generalize ((((w.alloc (.cells #[.int .i64 0,.int .i64 0,.int .i64 0,.int .i64 0,.int .i64 0,.int .i64 0,.int .i64 0,.int .i64 0] 169)).alloc (.cells #[.int .i64 0] 3)).alloc (.cells #[.int .i64 0] 3)).alloc (.cells #[.int .i64 0] 3))=w1 at *
 clear hgx
 have y0:=(O1.out.blk 0 rfl).1.cellOf (i:=0) rfl
 have y1:=(O1.out.blk 0 rfl).1.cellOf (i:=1) rfl
 have y2:=(O1.out.blk 0 rfl).1.cellOf (i:=2) rfl
 have y3:=(O1.out.blk 0 rfl).1.cellOf (i:=3) rfl
 have y4:=(O1.out.blk 0 rfl).1.cellOf (i:=4) rfl
 have y5:=(O1.out.blk 0 rfl).1.cellOf (i:=5) rfl
 have y6:=(O1.out.blk 0 rfl).1.cellOf (i:=6) rfl
 have y7:=(O1.out.blk 0 rfl).1.cellOf (i:=7) rfl
 go_wp2_with fail
 refine (valid_z w1).mono ?_
 rintro e w2 ⟨rfl,hb2⟩
 have O2:=Box.mk (O1.out.below hb2)
 have B2:=Box.mk (B1.out.trans (hb2.mono O1.out.1))
 clear y0 y1 y2 y3 y4 y5 y6 y7
 have y0:=(O2.out.blk 0 rfl).1.cellOf (i:=0) rfl
 have y1:=(O2.out.blk 0 rfl).1.cellOf (i:=1) rfl
 have y2:=(O2.out.blk 0 rfl).1.cellOf (i:=2) rfl
 have y3:=(O2.out.blk 0 rfl).1.cellOf (i:=3) rfl
 have y4:=(O2.out.blk 0 rfl).1.cellOf (i:=4) rfl
 have y5:=(O2.out.blk 0 rfl).1.cellOf (i:=5) rfl
 have y6:=(O2.out.blk 0 rfl).1.cellOf (i:=6) rfl
 have y7:=(O2.out.blk 0 rfl).1.cellOf (i:=7) rfl
 clear hb2 O1 B1
 go_wp2_with fail
 refine (sum_z w2).mono ?_
 rintro e w3 ⟨rfl,hb3⟩
 have O3:=Box.mk ((O2.out.below hb3).newF [.int .i64 0] 3)
 have B3:=Box.mk ((B2.out.trans (hb3.mono O2.out.1)).alloc (Nat.le_trans O2.out.1 hb3.size) (.cells #[.int .i64 0] 3))
 clear y0 y1 y2 y3 y4 y5 y6 y7
 clear hb3 O2 B2
 go_upto_region 4 with fail
 generalize w3.heap.size=g7 at *
 generalize (w3.alloc (.cells #[.int .i64 0] 3))=w4 at *
 have y7:=(O3.out.blk 0 rfl).1.cellOf (i:=0) rfl
 have S5:=Box.mk (O3.out.setRow 0 rfl [.int .i64 0])
 go_upto_region 5 with ((with_reducible show wpList _ _ _ _ _ _);refine wpList_store_row (o:=⟨none,.store 3 (.tmp 7) (.tmp 24),_,_,_,_⟩) (size:=1) (cs:=[.int .i64 0]) rfl 3 _ _ rfl rfl (by kernel_rfl) (O3.out.blk 0 rfl).1 rfl rfl (by kernel_rfl) rfl (by simp [Value.oneCell']) ?_)
 have O5:=Box.mk (show Own gx (w4.setRow g7 #[.int .i64 0]) [BlkP g7 3 [.int .i64 0],BlkP gx 169 [.int .i64 0,.int .i64 0,.int .i64 0,.int .i64 0,.int .i64 0,.int .i64 0,.int .i64 0,.int .i64 0],BlkP (gx+1) 3 [.int .i64 0],BlkP (gx+1+1) 3 [.int .i64 0],BlkP (gx+1+1+1) 3 [.int .i64 0]] from S5.out.1)
 have B5:=Box.mk (B3.out.trans S5.out.2)
 generalize (w4.setRow g7 #[.int .i64 0])=w5 at *
 clear S5 O3 B3 y7
 have HC:=Box.mk (ones_z w5)
 go_wp2_with fail
 refine HC.out.mono ?_
 rintro e w6 ⟨rfl,hb6⟩
 have O6:=Box.mk (O5.out.below hb6)
 have B6:=Box.mk (B5.out.trans (hb6.mono O5.out.1))
 clear hb6 HC O5 B5
 have y7:=(O6.out.blk 0 rfl).1.cellOf (i:=0) rfl
 have S6:=Box.mk (show Own gx _ [BlkP g7 3 [.int .i64 0],BlkP gx 169 [.int .i64 0,.int .i64 0,.int .i64 0,.int .i64 0,.int .i64 0,.int .i64 0,.int .i64 0,.int .i64 0],BlkP (gx+1) 3 [.int .i64 0],BlkP (gx+1+1) 3 [.int .i64 0],BlkP (gx+1+1+1) 3 [.int .i64 0]]∧Below gx w6 _ from O6.out.setRow 2 rfl [.int .i64 0])
 have S7:=Box.mk (show Own gx _ [BlkP g7 3 [.int .i64 0],BlkP gx 169 [.int .i64 0,.int .i64 0,.int .i64 0,.int .i64 0,.int .i64 0,.int .i64 0,.int .i64 0,.int .i64 0],BlkP (gx+1) 3 [.int .i64 0],BlkP (gx+1+1) 3 [.int .i64 0],BlkP (gx+1+1+1) 3 [.int .i64 0]]∧Below gx _ _ from S6.out.1.setRow 3 rfl [.int .i64 0])
 have S8:=Box.mk (show Own gx _ [BlkP g7 3 [.int .i64 0],BlkP gx 169 [.int .i64 0,.int .i64 0,.int .i64 0,.int .i64 0,.int .i64 0,.int .i64 0,.int .i64 0,.int .i64 0],BlkP (gx+1) 3 [.int .i64 0],BlkP (gx+1+1) 3 [.int .i64 0],BlkP (gx+1+1+1) 3 [.int .i64 0]]∧Below gx _ _ from S7.out.1.setRow 4 rfl [.int .i64 0])
 go_wp2_with ((with_reducible show wpList _ _ _ _ _ _);first | (refine wpList_store_row (o:=⟨none,.store 3 (.tmp 4) (.const (.int .i64 0)),_,_,_,_⟩) (size:=1) (cs:=[.int .i64 0]) rfl 3 _ _ rfl rfl (by kernel_rfl) (O6.out.blk 2 rfl).1 rfl rfl rfl rfl (by simp [Value.oneCell']) ?_) | (refine wpList_store_row (o:=⟨none,.store 3 (.tmp 5) (.const (.int .i64 0)),_,_,_,_⟩) (size:=1) (cs:=[.int .i64 0]) rfl 3 _ _ rfl rfl (by kernel_rfl) (S6.out.1.blk 3 rfl).1 rfl rfl rfl rfl (by simp [Value.oneCell']) ?_) | (refine wpList_store_row (o:=⟨none,.store 3 (.tmp 6) (.const (.int .i64 0)),_,_,_,_⟩) (size:=1) (cs:=[.int .i64 0]) rfl 3 _ _ rfl rfl (by kernel_rfl) (S7.out.1.blk 4 rfl).1 rfl rfl rfl rfl (by simp [Value.oneCell']) ?_))
 have z4:=(S8.out.1.blk 2 rfl).1.cellOf (i:=0) rfl
 have z5:=(S8.out.1.blk 3 rfl).1.cellOf (i:=0) rfl
 have z6:=(S8.out.1.blk 4 rfl).1.cellOf (i:=0) rfl
 have B8:=Box.mk (((B6.out.trans S6.out.2).trans S7.out.2).trans S8.out.2)
 clear S6 S7 S8 O6 B6 y7
 generalize (((w6.setRow (gx+1) #[.int .i64 0]).setRow (gx+1+1) #[.int .i64 0]).setRow (gx+1+1+1) #[.int .i64 0])=w8 at *
 exact ⟨.tuple #[.int .i64 0,.int .i64 0,.int .i64 0],results_int3 rfl _ _ rfl rfl rfl z4 z5 z6,rfl,by rw [HGX.out];exact B8.out⟩
end
section
open Go.RowKit Go.Maps
def memL (pa:Option Addr) (pn pc:Nat):List Value:=[.int .i64 0,.int .i64 0,.int .i64 0,.int .i64 0,.int .i64 0,.int .i64 0,.int .i64 0,.int .i64 0,.int .i64 0,.slice none 0 0,.int .i64 0,.int .i64 0,.int .i64 0,.int .i64 0,.int .i64 0,.int .i64 0,.int .i64 0,.int .i64 0,.int .i64 0,.int .i64 0,.slice pa pn pc,.int .i64 0]
theorem sl_line:SlT Tryz.prog 167 173 (.agg #[.int .i64 0,.int .i64 0,.int .i64 0,.int .i64 0,.int .i64 0,.int .i64 0,.int .i64 0,.int .i64 0,.int .i64 0,.slice none 0 0,.int .i64 0]) 11 104:=⟨by kernel_rfl,by kernel_rfl,rfl⟩
set_option maxRecDepth 20000 in
theorem mk_lines (w:World):(Instr.makeSlice 167 (.int .i64 2) (.int .i64 2)).run Tryz.prog w=.ok (.slice (some ⟨w.heap.size,0,none⟩) 2 2) (w.alloc (.cells (memL none 0 0).toArray 173)):=by
 obtain ⟨i,hi,hz,hs,hby⟩:=info_parts sl_line.info
 have hr:=run_make (P:=Tryz.prog) w 167 173 i _ sl_line.ht hi hz .i64 .i64 2 2 (by omega) (Int.le_refl _) (by rw [hby];omega) (by omega)
 rw [hs] at hr
 refine hr.trans ?_
 congr 3
 kernel_rfl
def MemL (g b bm:Nat) (pa:Option Addr) (pn pc:Nat) (l:List (Int×Bool)) (ea:Option Addr) (en ec:Nat):List HP :=
 [BlkP g 176 [.slice (some ⟨b,0,none⟩) 2 2,.map (some bm),.int .i64 0,.slice ea en ec],BlkP b 173 (memL pa pn pc),MapO Tryz.prog 3 kI Value.bool bm l]
set_option maxRecDepth 20000 in
set_option maxHeartbeats 4000000 in
theorem new_m (w:World):Calls Tryz.prog 21 #[.int .i64 2] w fun e w'=>Below w.heap.size w w'∧∃g b bm,e=.returned (.pointer (some ⟨g,0,none⟩))∧Own w.heap.size w' (MemL g b bm none 0 0 [] none 0 0):=by
 have hmm:=@run_makeMap Tryz.prog
 have hms:=mk_lines w
 have O1:=Box.mk (show Own w.heap.size (w.alloc (.cells (memL none 0 0).toArray 173)) [BlkP w.heap.size 173 (memL none 0 0)] from (Own.start w).new (memL none 0 0) 173)
 have B1:=Box.mk ((Below.refl w.heap.size w).alloc (Nat.le_refl _) (.cells (memL none 0 0).toArray 173))
 go_enter Tryz.func21,Tryz.ntmps21
 go_upto_region 4 with fail
 obtain ⟨b,hb⟩:∃b,w.heap.size=b:=⟨_,rfl⟩
 have HB:=Box.mk hb
 rw [hb] at O1 B1 ⊢
 clear hms
 generalize (w.alloc (.cells (memL none 0 0).toArray 173))=w1 at *
 clear hb
 have HE:=Box.mk (encode_z w1)
 go_wp2_with fail
 refine HE.out.mono ?_
 rintro e w2 ⟨rfl,hb2⟩
 have O2:=Box.mk (O1.out.below hb2)
 have B2:=Box.mk (B1.out.trans (hb2.mono O1.out.1))
 clear hb2 HE O1 B1
 go_wp2_with fail
 go_loopw [18] (fun i wr=>∃k:Nat,k≤2∧i=.int .i64 k∧Box (Own b wr [BlkP b 173 (memL none 0 0)]∧Below b w wr)) (fun i _=>2 - (intOf i).toNat)
 case atStart=>exact ⟨0,Nat.zero_le _,rfl,⟨O2.out,B2.out⟩⟩
 clear O2 B2
 case round =>
  obtain ⟨k,hk,rfl,HI⟩:=hrel
  by_cases hl:k<2
  ·have hk2:k=0∨k=1:=by omega
   rcases hk2 with rfl | rfl
   ·have HF:=Box.mk (HI.out.1.setRow 0 rfl (splice (memL none 0 0) 8 [.int .i64 0]))
    go_wp2_with ((with_reducible show wpList _ _ _ _ _ _);refine wpList_store_part (o:=⟨none,.store 3 (.tmp 26) (.tmp 23),_,_,_,_⟩) rfl 3 (.tmp 26) (.tmp 23) rfl rfl (size:=1) (off:=8) (by kernel_rfl) (HI.out.1.blk 0 rfl).1 (by simp [memL]) rfl (cs:=[.int .i64 0]) rfl rfl (by simp [Value.oneCell']) ?_)
    go_roundw
    case rel=>exact ⟨1,by omega,by go_num,⟨HF.out.1,HI.out.2.trans HF.out.2⟩⟩
    case measure=>simp [intOf]
   ·have HF:=Box.mk (HI.out.1.setRow 0 rfl (splice (memL none 0 0) 19 [.int .i64 0]))
    go_wp2_with ((with_reducible show wpList _ _ _ _ _ _);refine wpList_store_part (o:=⟨none,.store 3 (.tmp 26) (.tmp 23),_,_,_,_⟩) rfl 3 (.tmp 26) (.tmp 23) rfl rfl (size:=1) (off:=19) (by kernel_rfl) (HI.out.1.blk 0 rfl).1 (by simp [memL]) rfl (cs:=[.int .i64 0]) rfl rfl (by simp [Value.oneCell']) ?_)
    go_roundw
    case rel=>exact ⟨2,by omega,by go_num,⟨HF.out.1,HI.out.2.trans HF.out.2⟩⟩
    case measure=>simp [intOf]
  ·obtain rfl:k=2:=by omega
   have O3:=Box.mk ((Own.newMap (P:=Tryz.prog) (k:=3) (ek:=kI) (ev:=Value.bool) HI.out.1).newF [.slice (some ⟨b,0,none⟩) 2 2,.map (some wr.heap.size),.int .i64 0,.slice none 0 0] 176)
   have B3:=Box.mk ((HI.out.2.alloc HI.out.1.1 (.map #[] 0)).alloc (by have:=HI.out.1.1;simp;omega) (.cells #[.slice (some ⟨b,0,none⟩) 2 2,.map (some wr.heap.size),.int .i64 0,.slice none 0 0] 176))
   go_wp2_with fail
   go_ret
   rw [HB.out]
   have O4:=O3.out
   simp only [World.size_alloc] at O4
   exact ⟨B3.out,_,b,wr.heap.size,rfl,O4⟩
end
section
open Go.RowKit Go.Maps
attribute [local go_sem] Oper.semAt_some
def memC (b bm:Nat) (ea:Option Addr) (en ec:Nat):List Value:=[.slice (some ⟨b,0,none⟩) 2 2,.map (some bm),.int .i64 0,.slice ea en ec]
set_option maxRecDepth 20000 in
set_option maxHeartbeats 2000000 in
theorem has_m {w:World} {g b bm:Nat} {ea:Option Addr} {en ec:Nat} (h1:Blk w g 176 (memC b bm ea en ec)):Calls Tryz.prog 86 #[.pointer (some ⟨g,0,none⟩),.int .i64 1] w (RetV (.bool true) w):=by
 have y0:w.cell? ⟨g,0,none⟩=some (.slice (some ⟨b,0,none⟩) 2 2):=h1.cellOf (i:=0) rfl
 clear h1
 go_enter Tryz.func86,Tryz.ntmps86
 go_wp2_with fail
 go_ret
 exact ⟨rfl,Below.refl _ _⟩
set_option maxRecDepth 20000 in
set_option maxHeartbeats 2000000 in
theorem word_5 (w:World):Calls Tryz.prog 137 #[.int .i64 5] w (RetV (.bool true) w):=by
 go_enter Tryz.func137,Tryz.ntmps137
 go_wp2_with fail
 go_ret
 exact ⟨rfl,Below.refl _ _⟩
theorem agg8:AggT Tryz.prog 169 8:=⟨by kernel_rfl,by kernel_rfl⟩
theorem memL_get (pa:Option Addr) (pn pc:Nat):∀ (j:Nat) (u:Value),([.int .i64 0,.int .i64 0,.int .i64 0,.int .i64 0,.int .i64 0,.int .i64 0,.int .i64 0,.int .i64 0]:List Value)[j]?=some u→(memL pa pn pc)[11+j]?=some u:=by
 intro j u h
 rcases j with _ | _ | _ | _ | _ | _ | _ | _ | j
 all_goals first | (simp at h;done) | (simp only [memL];simpa using h)
theorem nm_chk:(Tryz.f165.name == "runtime.NumGoroutine")=false:=by kernel_rfl
theorem bd_chk:Tryz.f165.body.isNone=false:=by kernel_rfl
set_option maxRecDepth 20000 in
set_option maxHeartbeats 4000000 in
theorem state_m {w:World} {g b bm:Nat} {ea pa:Option Addr} {en ec pn pc:Nat} (h1:Blk w g 176 (memC b bm ea en ec)) (h2:Blk w b 173 (memL pa pn pc)):Calls Tryz.prog 138 #[.pointer (some ⟨g,0,none⟩),.int .i64 1] w (RetV (.int .i64 0) w):=by
 have HC1:=Box.mk (fun w' (hb:Below w.heap.size w w')=>show w'.cell? ⟨g,0,none⟩=some (.slice (some ⟨b,0,none⟩) 2 2) from (h1.below hb (Nat.le_refl _)).cellOf (i:=0) rfl)
 have HC2:=Box.mk (fun w' (hb:Below w.heap.size w w')=>h2.below hb (Nat.le_refl _))
 have HH:=Box.mk (has_m h1)
 clear h1 h2
 go_enter Tryz.func138,Tryz.ntmps138
 go_wp2_with fail
 refine HH.out.mono ?_
 rintro e w1 ⟨rfl,hb1⟩
 have B1:=Box.mk hb1
 clear hb1
 go_wp2_with fail
 have HS0:Below w.heap.size w w1.drew:=B1.out.drew
 clear B1
 refine wp_region_held_drew (S:=fun w'=>Below w.heap.size w w') (by kernel_rfl) HS0 (fun _=>?_)
 generalize w1.drew=wd at *
 refine tw 0 rfl HS0 ?_
 conv=>arg 8;simp [go_sem]
 refine tw 1 rfl HS0 ?_
 conv=>arg 8;simp [go_sem]
 refine tw 2 rfl HS0 ?_
 conv=>arg 8;simp [go_sem]
 refine tv 3 rfl (fun w' hS=>by have e:=HC1.out w' hS;go_simp;all_goals with_reducible rfl) HS0 ?_
 conv=>arg 8;simp [go_sem]
 refine tw 4 rfl HS0 ?_
 conv=>arg 8;simp [go_sem]
 refine tw 5 rfl HS0 ?_
 conv=>arg 8;simp [go_sem]
 refine tw 6 rfl HS0 ?_
 conv=>arg 8;simp [go_sem]
 refine tw 7 rfl HS0 ?_
 conv=>arg 8;simp [go_sem]
 refine tk 8 (v:=.agg #[.int .i64 0,.int .i64 0,.int .i64 0,.int .i64 0,.int .i64 0,.int .i64 0,.int .i64 0,.int .i64 0]) rfl (yieldsIf_load_agg (by rfl) 169 (.tmp 20) rfl agg8 rfl (cs:=[.int .i64 0,.int .i64 0,.int .i64 0,.int .i64 0,.int .i64 0,.int .i64 0,.int .i64 0,.int .i64 0]) rfl (fun w' hS j u h=>by rw [addN];exact (HC2.out w' hS).cellOf (memL_get _ _ _ j u h))) (HS0) ?_
 conv=>arg 8;simp [go_sem]
 refine tw 9 rfl HS0 ?_
 conv=>arg 8;simp [go_sem]
 refine tw 10 rfl HS0 ?_
 conv=>arg 8;simp [go_sem]
 refine tw 11 rfl HS0 ?_
 conv=>arg 8;simp [go_sem]
 refine tv 12 rfl (fun w' hS=>by have e:=HC1.out w' hS;go_simp;all_goals with_reducible rfl) HS0 ?_
 conv=>arg 8;simp [go_sem]
 refine tw 13 rfl HS0 ?_
 conv=>arg 8;simp [go_sem]
 refine tw 14 rfl HS0 ?_
 conv=>arg 8;simp [go_sem]
 refine tw 15 rfl HS0 ?_
 conv=>arg 8;simp [go_sem]
 refine tw 16 rfl HS0 ?_
 conv=>arg 8;simp [go_sem]
 refine tv 17 rfl (fun w' hS=>by have e:=(HC2.out w' hS).cellOf (i:=19) rfl;go_simp;all_goals with_reducible rfl) HS0 ?_
 conv=>arg 8;simp [go_sem]
 refine ar 18 rfl fun K' hK'=>?_
 refine oper_call (by rfl) 165 [.tmp 21,.tmp 30] #[169,3] rfl (vs:=[.agg #[.int .i64 0,.int .i64 0,.int .i64 0,.int .i64 0,.int .i64 0,.int .i64 0,.int .i64 0,.int .i64 0],.int .i64 0]) rfl Tryz.func165 nm_chk bd_chk (check_z _) ?_
 rintro e w9 ⟨rfl,hb⟩
 have HT1:=HS0.trans (hb.mono HS0.size)
 refine ⟨_,rfl,hK'.out _ _ HT1 (fun _=>?_)⟩
 clear hK' K'
 conv=>arg 8;simp [go_sem]
 refine tw 19 rfl HT1 ?_
 conv=>arg 8;simp [go_sem]
 refine tw 20 rfl HT1 ?_
 conv=>arg 8;simp [go_sem]
 refine tw 21 rfl HT1 ?_
 conv=>arg 8;simp [go_sem]
 refine tw 22 rfl HT1 ?_
 conv=>arg 8;simp [go_sem]
 refine tw 23 rfl HT1 ?_
 conv=>arg 8;simp [go_sem]
 refine tw 24 rfl HT1 ?_
 conv=>arg 8;simp [go_sem]
 refine tw 25 rfl HT1 ?_
 conv=>arg 8;simp [go_sem]
 refine ⟨by kernel_rfl,?_⟩
 conv =>
  arg 5
  simp [go_sem]
 go_wp2_with fail
 go_ret
 exact ⟨rfl,HT1⟩
end
end Go.Proofs.YtlfghapllmaigaaGreatDoor
