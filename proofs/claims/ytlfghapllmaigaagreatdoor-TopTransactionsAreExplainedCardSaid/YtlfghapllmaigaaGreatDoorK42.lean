/-
  The walk of the desk's steady; A step of a script, plainly; The walk of the law. Conditions: each theorem's own hypotheses.
-/
import Derived.Test.YtlfghapllmaigaaGreatDoorK38
import Derived.Test.YtlfghapllmaigaaGreatDoorK03
import Derived.Test.YtlfghapllmaigaaGreatDoorK41
import Derived.Test.YtlfghapllmaigaaGreatDoorK33
import Derived.Test.YtlfghapllmaigaaGreatDoorK31
set_option linter.unusedVariables false
set_option linter.unusedSimpArgs false
namespace Go.Proofs.YtlfghapllmaigaaGreatDoor
section
open Go.RowKit Go.Maps
attribute [local go_sem] Oper.semAt_some
theorem rowsT_len (com:List (List WrP)) (t:Int) (k:Nat):(rowsT com t k).length≤4:=Nat.le_trans (List.length_filterMap_le _ _) (by simp [rows4])
set_option maxRecDepth 20000 in
set_option maxHeartbeats 16000000 in
theorem steady_dk {ser:Bool} {m gd B:Nat} {w:World} {com:List (Int×List WrP)} {wt:List Wtx} {X:TxP} {S:Gr.GS} {hs:List HpP} {G:List RdD} {mw:List (Int×WsS)} {mi:List (Int×Int)} {ms:List (Int×SnP)} {n tick:Int} {gx gg bw bi bs:Nat} {a0 a1 ha:Option Addr} {c0 c1 hc:Nat}
  (O:Own B w (DkL gd gx gg bw bi bs n tick com X S hs G mw mi (SeenO bs ms) a0 c0 a1 c1 ha hc)) (j:DkJ ser m com wt X S hs G mw mi ms n tick) (hm:m≤60) :
  Calls Tryz.prog 8 #[.pointer (some ⟨gd,0,none⟩)] w (RetW (.bool true) B (DkL gd gx gg bw bi bs n tick com X S hs G mw mi (SeenO bs ms) a0 c0 a1 c1 ha hc) w):=by
 have HJ:=Box.mk j
 have y9:w.cell? ⟨gd,9,none⟩=some (.map (some bs)):=(O.blk 1 rfl).1.cellOf (i:=9) rfl
 obtain ⟨o,hrg,hO2,hb2⟩:=O.rangeM und_seen 9 rfl
 have O2:=Box.mk hO2
 have B2:=Box.mk hb2
 have HCL:=Box.mk (show (cwOf com).length≤1000 from by have h1:=j.b1;rw [List.length_map];omega)
 clear O j hO2 hb2
 go_enter Tryz.func8,Tryz.ntmps8
 go_wp2_with fail
 clear hrg y9
 generalize w.alloc o=w2 at *
 generalize w.heap.size=r at *
 go_loopg [3,4,5,6,7,8,9] ms.length (fun gz _ _ _ _ _ _ _ wz=>∃Z:List Int,leftA ms Z≤gz∧Box (Own B wz [TxsO gx X,BlkP gd 36 (dkC gx gg ⟨a0,(verT (cwOf com) 0).length,c0⟩ ⟨a1,(verT (cwOf com) 1).length,c1⟩ bw bi n tick ⟨ha,hs.length,hc⟩ bs),RowP 93 4 a0 (verT (cwOf com) 0).length c0 (recC VerP.enc (verT (cwOf com) 0)),RowP 93 4 a1 (verT (cwOf com) 1).length c1 (recC VerP.enc (verT (cwOf com) 1)),RowP 84 5 ha hs.length hc (recC HpP.enc hs),Gr.GrpP gg S,WrsO bw mw,IntO bi mi,ImmO G,MapRO Tryz.prog 3 kI SnP.v bs r ms Z]∧Below B w wz))
 case atStart=>exact ⟨[],leftA_le _ _,⟨O2.out,B2.out⟩⟩
 clear O2 B2
 case round =>
  obtain ⟨Z,hgS,HI⟩:=hrel
  rcases HI.out.1.nextM kI_inj 9 rfl 0 with ⟨hall,hnx⟩ | ⟨x,v,w3,hym,hyS,hnx,hO3,hb3,_,hen⟩
  ·have HU:=Box.mk (And.intro (HI.out.1.unrange 9 rfl) HI.out.2)
   clear hall HI
   go_wp2_with fail
   go_ret
   exact ⟨rfl,HU.out.1,HU.out.2⟩
  ·obtain ⟨t,hf,hk,hsi⟩:=HJ.out.s _ hym
   have HSI:=Box.mk hsi
   have HLT:=Box.mk (leftA_lt (mem_keysA_of hym) hyS)
   have HX:=Box.mk (show In64 x from HJ.out.x.ok.i64 _ (TxP.find_mem hf).1)
   have O3:=Box.mk hO3
   have B3:=Box.mk (HI.out.2.trans hb3)
   obtain ⟨k,u0,v0,z0,u1,v1,z1⟩:=v
   simp only at hk hf
   have HSN:=Box.mk (fun (w':World) (h:TxsRd w' gx X)=>show Calls Tryz.prog 28 #[.pointer (some ⟨gx,0,none⟩),.int .i64 x] w' (RetV (.tuple #[.int .i64 (k:Int),.int .i64 0]) w') from by
    have h1:=snap_any h HX.out
    rw [hf] at h1
    simp only [errE] at h1
    rw [hk] at h1
    exact h1)
   clear hf hk hsi hym hyS hO3 hb3 HI
   simp only [kI,SnP.v] at hnx hen
   have O4:=Box.mk (O3.out.new [.slice u0 v0 z0,.slice u1 v1 z1] 33)
   have B4:=Box.mk (B3.out.alloc O3.out.1 (.cells #[.slice u0 v0 z0,.slice u1 v1 z1] 33))
   go_upto_region 4 with fail
   clear hnx hen O3 B3
   generalize w3.heap.size=gs at *
   generalize (w3.alloc (.cells #[.slice u0 v0 z0,.slice u1 v1 z1] 33))=w4 at *
   have y0:w4.cell? ⟨gd,0,none⟩=some (.pointer (some ⟨gx,0,none⟩)):=(O4.out.blk 1 rfl).1.cellOf (i:=0) rfl
   go_wp2_with fail
   refine (HSN.out w4 (Own.txs (show Own B w4 (TxsO gx X::_) from O4.out))).mono ?_
   rintro e w5 ⟨rfl,hb5⟩
   have O5:=Box.mk (O4.out.below hb5)
   have B5:=Box.mk (B4.out.trans (hb5.mono O4.out.1))
   clear hb5 O4 B4 y0 HSN
   go_wp2_with fail
   go_loopg [31] 2 (fun gt s31 wq=>∃t:Nat,t≤2∧2 - t≤gt∧s31=.int .i64 t∧Box (Own B wq ([TxsO gx X,BlkP gd 36 (dkC gx gg ⟨a0,(verT (cwOf com) 0).length,c0⟩ ⟨a1,(verT (cwOf com) 1).length,c1⟩ bw bi n tick ⟨ha,hs.length,hc⟩ bs),RowP 93 4 a0 (verT (cwOf com) 0).length c0 (recC VerP.enc (verT (cwOf com) 0)),RowP 93 4 a1 (verT (cwOf com) 1).length c1 (recC VerP.enc (verT (cwOf com) 1)),RowP 84 5 ha hs.length hc (recC HpP.enc hs),Gr.GrpP gg S,WrsO bw mw,IntO bi mi,ImmO G,MapRO Tryz.prog 3 kI SnP.v bs r ms (x::Z)]++[BlkP gs 33 [.slice u0 v0 z0,.slice u1 v1 z1]])∧Below B w wq))
   case atStart=>exact ⟨0,Nat.zero_le _,by omega,rfl,⟨O5.out,B5.out⟩⟩
   clear O5 B5
   case round =>
    obtain ⟨t,ht2,hgt,rfl,HT⟩:=hrel
    by_cases htl:t<2
    ·have ht3:t=0∨t=1:=by omega
     rcases ht3 with rfl | rfl
     ·obtain ⟨hO5,hB5⟩:=HT.out
      have O5:=Box.mk hO5
      have B5:=Box.mk hB5
      clear hO5 hB5 HT
      have hn2:v0=(rowsT (cwOf com) 0 k).length:=HSI.out.r0.2
      have y2:wr.cell? ⟨gd,2,none⟩=some (.slice a0 (verT (cwOf com) 0).length c0):=(O5.out.blk 1 rfl).1.cellOf (i:=2) rfl
      go_wp2_with fail
      refine (rowsT_any (t:=0) (com:=cwOf com) (Rd.ofOwn (O5.out.row 2 rfl)) HCL.out k).mono ?_
      rintro e w6 ⟨hb6,ra,rc,rfl,hrow⟩
      have HRL:=Box.mk (rowsT_len (cwOf com) 0 k)
      obtain ⟨N,hN⟩:∃N,(rowsT (cwOf com) 0 k).length=N:=⟨_,rfl⟩
      rw [hN] at hn2 hrow HRL ⊢
      subst hn2
      have O6:=Box.mk (O5.out.newRow hb6 hrow (Nat.le_refl _))
      have B6:=Box.mk (B5.out.trans (hb6.mono O5.out.1))
      have HN:=Box.mk hN
      clear hb6 hrow y2 hN O5 B5
      have z2:w6.cell? ⟨gs,0,none⟩=some (.slice u0 v0 z0):=(O6.out.blk 10 rfl).1.cellOf (i:=0) rfl
      go_wp2_with fail
      go_loopg [51] v0 (fun gi s51 wq=>∃i:Nat,i≤v0∧v0 - i≤gi∧s51=.int .i64 i∧Box (Own B wq ([TxsO gx X,BlkP gd 36 (dkC gx gg ⟨a0,(verT (cwOf com) 0).length,c0⟩ ⟨a1,(verT (cwOf com) 1).length,c1⟩ bw bi n tick ⟨ha,hs.length,hc⟩ bs),RowP 93 4 a0 (verT (cwOf com) 0).length c0 (recC VerP.enc (verT (cwOf com) 0)),RowP 93 4 a1 (verT (cwOf com) 1).length c1 (recC VerP.enc (verT (cwOf com) 1)),RowP 84 5 ha hs.length hc (recC HpP.enc hs),Gr.GrpP gg S,WrsO bw mw,IntO bi mi,ImmO G,MapRO Tryz.prog 3 kI SnP.v bs r ms (x::Z)]++[BlkP gs 33 [.slice u0 v0 z0,.slice u1 v1 z1],RowP 93 4 ra v0 rc (recC VerP.enc (rowsT (cwOf com) 0 k))])∧Below B w wq))
      case atStart=>exact ⟨0,Nat.zero_le _,by omega,rfl,⟨O6.out,B6.out⟩⟩
      clear O6 B6 z2
      case round =>
       obtain ⟨i,hi,hgi,rfl,HI⟩:=hrel
       by_cases hil:i<v0
       ·have hrl:=HRL.out
        obtain ⟨nb,noff,hra,_,hcl⟩:=(Rd.ofOwn (HI.out.1.row 11 rfl)).recAt VerP.enc_len (by omega) i hil
        obtain ⟨ob,ooff,hua,_,hdl⟩:=(show Rd wr u0 v0 z0 4 (recC VerP.enc (rowsT (cwOf com) 0 k)) from HI.out.1.imm 8 rfl HSI.out.r0.1).recAt VerP.enc_len (by omega) i hil
        obtain ⟨y,hy⟩:∃y,(rowsT (cwOf com) 0 k).getD i default=y:=⟨_,rfl⟩
        rw [hy] at hcl hdl
        have d0:=hcl 0 _ rfl
        have d1:=hcl 1 _ rfl
        have e0:=hdl 0 _ rfl
        have e1:=hdl 1 _ rfl
        simp only [Nat.add_zero] at d0 d1 e0 e1
        have z2:wr.cell? ⟨gs,0,none⟩=some (.slice u0 v0 z0):=(HI.out.1.blk 10 rfl).1.cellOf (i:=0) rfl
        clear hcl hdl hy hrl
        subst hra
        subst hua
        go_upto_region 16 with fail
        go_quiet (fail)
        have hrl:=HRL.out
        go_wp2_with fail
        go_roundg (v0 - (i+1))
        case measure=>omega
        case rel=>exact ⟨i+1,by omega,by omega,by go_num,⟨HI.out.1.drewN _,below_drewN HI.out.2 _⟩⟩
       ·obtain rfl:i=v0:=by omega
        have HIW:=Box.mk (And.intro (HI.out.1.drop 11) HI.out.2)
        clear HI
        go_wp2_with fail
        go_roundg (2 - (0+1))
        case measure=>omega
        case rel=>exact ⟨0+1,by omega,by omega,by go_num,⟨HIW.out.1,HIW.out.2⟩⟩
     ·obtain ⟨hO5,hB5⟩:=HT.out
      have O5:=Box.mk hO5
      have B5:=Box.mk hB5
      clear hO5 hB5 HT
      have hn2:v1=(rowsT (cwOf com) 1 k).length:=HSI.out.r1.2
      have y2:wr.cell? ⟨gd,3,none⟩=some (.slice a1 (verT (cwOf com) 1).length c1):=(O5.out.blk 1 rfl).1.cellOf (i:=3) rfl
      go_wp2_with fail
      refine (rowsT_any (t:=1) (com:=cwOf com) (Rd.ofOwn (O5.out.row 3 rfl)) HCL.out k).mono ?_
      rintro e w6 ⟨hb6,ra,rc,rfl,hrow⟩
      have HRL:=Box.mk (rowsT_len (cwOf com) 1 k)
      obtain ⟨N,hN⟩:∃N,(rowsT (cwOf com) 1 k).length=N:=⟨_,rfl⟩
      rw [hN] at hn2 hrow HRL ⊢
      subst hn2
      have O6:=Box.mk (O5.out.newRow hb6 hrow (Nat.le_refl _))
      have B6:=Box.mk (B5.out.trans (hb6.mono O5.out.1))
      have HN:=Box.mk hN
      clear hb6 hrow y2 hN O5 B5
      have z2:w6.cell? ⟨gs,1,none⟩=some (.slice u1 v1 z1):=(O6.out.blk 10 rfl).1.cellOf (i:=1) rfl
      go_wp2_with fail
      go_loopg [51] v1 (fun gi s51 wq=>∃i:Nat,i≤v1∧v1 - i≤gi∧s51=.int .i64 i∧Box (Own B wq ([TxsO gx X,BlkP gd 36 (dkC gx gg ⟨a0,(verT (cwOf com) 0).length,c0⟩ ⟨a1,(verT (cwOf com) 1).length,c1⟩ bw bi n tick ⟨ha,hs.length,hc⟩ bs),RowP 93 4 a0 (verT (cwOf com) 0).length c0 (recC VerP.enc (verT (cwOf com) 0)),RowP 93 4 a1 (verT (cwOf com) 1).length c1 (recC VerP.enc (verT (cwOf com) 1)),RowP 84 5 ha hs.length hc (recC HpP.enc hs),Gr.GrpP gg S,WrsO bw mw,IntO bi mi,ImmO G,MapRO Tryz.prog 3 kI SnP.v bs r ms (x::Z)]++[BlkP gs 33 [.slice u0 v0 z0,.slice u1 v1 z1],RowP 93 4 ra v1 rc (recC VerP.enc (rowsT (cwOf com) 1 k))])∧Below B w wq))
      case atStart=>exact ⟨0,Nat.zero_le _,by omega,rfl,⟨O6.out,B6.out⟩⟩
      clear O6 B6 z2
      case round =>
       obtain ⟨i,hi,hgi,rfl,HI⟩:=hrel
       by_cases hil:i<v1
       ·have hrl:=HRL.out
        obtain ⟨nb,noff,hra,_,hcl⟩:=(Rd.ofOwn (HI.out.1.row 11 rfl)).recAt VerP.enc_len (by omega) i hil
        obtain ⟨ob,ooff,hua,_,hdl⟩:=(show Rd wr u1 v1 z1 4 (recC VerP.enc (rowsT (cwOf com) 1 k)) from HI.out.1.imm 8 rfl HSI.out.r1.1).recAt VerP.enc_len (by omega) i hil
        obtain ⟨y,hy⟩:∃y,(rowsT (cwOf com) 1 k).getD i default=y:=⟨_,rfl⟩
        rw [hy] at hcl hdl
        have d0:=hcl 0 _ rfl
        have d1:=hcl 1 _ rfl
        have e0:=hdl 0 _ rfl
        have e1:=hdl 1 _ rfl
        simp only [Nat.add_zero] at d0 d1 e0 e1
        have z2:wr.cell? ⟨gs,1,none⟩=some (.slice u1 v1 z1):=(HI.out.1.blk 10 rfl).1.cellOf (i:=1) rfl
        clear hcl hdl hy hrl
        subst hra
        subst hua
        go_upto_region 16 with fail
        go_quiet (fail)
        have hrl:=HRL.out
        go_wp2_with fail
        go_roundg (v1 - (i+1))
        case measure=>omega
        case rel=>exact ⟨i+1,by omega,by omega,by go_num,⟨HI.out.1.drewN _,below_drewN HI.out.2 _⟩⟩
       ·obtain rfl:i=v1:=by omega
        have HIW:=Box.mk (And.intro (HI.out.1.drop 11) HI.out.2)
        clear HI
        go_wp2_with fail
        go_roundg (2 - (1+1))
        case measure=>omega
        case rel=>exact ⟨1+1,by omega,by omega,by go_num,⟨HIW.out.1,HIW.out.2⟩⟩
    ·obtain rfl:t=2:=by omega
     have HTW:=Box.mk (And.intro (HT.out.1.drop 10) HT.out.2)
     clear HT
     go_wp2_with fail
     go_roundg (leftA ms (x::Z))
     case measure=>have:=HLT.out;omega
     case rel=>exact ⟨x::Z,Nat.le_refl _,⟨HTW.out.1,HTW.out.2⟩⟩
end
section
structure Mv where
 k:Int
 n:Int
 t:Int
 r:Int
 v:Int
 deriving Inhabited
def Mv.enc (x:Mv):List Value:=[.int .i64 x.k,.int .i64 x.n,.int .i64 x.t,.int .i64 x.r,.int .i64 x.v]
theorem Mv.enc_len (x:Mv):x.enc.length=5:=rfl
def Mv.ok (x:Mv):Prop:=In64 x.k∧In64 x.n∧In64 x.t∧In64 x.r∧In64 x.v
end
section
open Go.RowKit Go.Maps
attribute [local go_sem] Oper.semAt_some
theorem nm_awake:(Tryz.f4.name == "runtime.NumGoroutine")=false:=by kernel_rfl
theorem bd_awake:Tryz.f4.body.isNone=false:=by kernel_rfl
theorem nm_stateL:(Tryz.f18.name == "runtime.NumGoroutine")=false:=by kernel_rfl
theorem bd_stateL:Tryz.f18.body.isNone=false:=by kernel_rfl
theorem nm_sameL:(Tryz.f17.name == "runtime.NumGoroutine")=false:=by kernel_rfl
theorem bd_sameL:Tryz.f17.body.isNone=false:=by kernel_rfl
theorem Own.deskPerm {B:Nat} {w:World} {t g mw mi ms d r0 r1 h m:HP} (O:Own B w (t::g::mw::mi::ms::d::r0::r1::h::m::[])):Own B w [t,d,r0,r1,h,g,mw,mi,m,ms]:=by
 refine O.perm ((List.Perm.cons t ?_))
 refine (List.perm_append_comm (l₁:=[g,mw,mi,ms]) (l₂:=[d,r0,r1,h,m])).trans ?_
 refine List.Perm.append_left [d,r0,r1,h] ?_
 exact (List.perm_append_comm (l₁:=[m]) (l₂:=[g,mw,mi])).append_right [ms]
theorem dkj_start (ser:Bool) (bx:Nat):DkJ ser 0 [] [] (newX 0 bx) (Gr.GS.new 3 200 1 1) [] [] [] [] [] 0 0:=by
 refine ⟨⟨Trc.nil,rfl,rfl,newX_ok 0 bx,rfl,⟨rfl,rfl⟩,⟨rfl,rfl,rfl⟩,rfl,by simp,by simp,by simp,by simp,by simp,by simp⟩,XI.new ser (Int.le_refl _) bx,by simp,by simp,by simp,by simp,by simp,by simp [newX,TxP.all],by simp [newX],by simp⟩
set_option maxRecDepth 20000 in
set_option maxHeartbeats 32000000 in
theorem law_any {la:Option Addr} {ln lc:Nat} {L:List Mv} {ser:Bool} {w:World} (hT:PowOk w.heap.size w) (hl:Rd w la ln lc 5 (recC Mv.enc L)) (h64:∀x∈L,x.ok) :
  Calls Tryz.prog 3 #[.slice la ln lc,.bool ser] w (RetV (.bool true) w):=by
 have HT:=Box.mk hT
 have HL:=Box.mk (And.intro hl h64)
 clear hT hl h64
 by_cases h60:60<ln
 ·go_enter Tryz.func3,Tryz.ntmps3
  go_wp2_with fail
  refine (awake_any HT.out (Nat.le_refl _)).mono ?_
  rintro e w1 ⟨rfl,hb⟩
  go_wp2_with fail
  go_ret
  exact ⟨rfl,hb⟩
 ·go_enter Tryz.func3,Tryz.ntmps3
  go_wp2_with fail
  refine (newtx_any (s:=0) (by omega) (by omega) (Own.start w)).mono ?_
  rintro e w1 ⟨gx,bx,rfl,hO1,hb1⟩
  go_wp2_with fail
  refine (Gr.new_own hO1 3 200 1 1 (by decide)).mono ?_
  rintro e w2 ⟨gg,rfl,hO2,hb2⟩
  have hb12:=hb1.trans hb2
  go_upto_region 4 with (first | (rw [run_makeMap 29 w2];have OA:=(hO2.newMap (α:=Int) (β:=WsS) (P:=Tryz.prog) (k:=3) (ek:=kI) (ev:=WsS.v));have hbA:=hb12.alloc hO2.1 (.map #[] 0);generalize w2.alloc (.map #[] 0)=wA at *;generalize w2.heap.size=bw at *) | (rw [run_makeMap 30 wA];have OB:=(OA.newMap (α:=Int) (β:=Int) (P:=Tryz.prog) (k:=3) (ek:=kI) (ev:=kI));have hbB:=hbA.alloc OA.1 (.map #[] 0);generalize wA.alloc (.map #[] 0)=wB at *;generalize wA.heap.size=bi at *) | (rw [run_makeMap 31 wB];have OC:=(OB.newMap (α:=Int) (β:=SnP) (P:=Tryz.prog) (k:=3) (ek:=kI) (ev:=SnP.v));have hbC:=hbB.alloc OB.1 (.map #[] 0);generalize wB.alloc (.map #[] 0)=wC at *;generalize wB.heap.size=bs at *))
  have hD:=OC.new [.pointer (some ⟨gx,0,none⟩),.pointer (some ⟨gg,0,none⟩),.slice none 0 0,.slice none 0 0,.map (some bw),.map (some bi),.int .i64 0,.int .i64 0,.slice none 0 0,.map (some bs)] 36
  have hbD:=hbC.alloc OC.1 (.cells #[.pointer (some ⟨gx,0,none⟩),.pointer (some ⟨gg,0,none⟩),.slice none 0 0,.slice none 0 0,.map (some bw),.map (some bi),.int .i64 0,.int .i64 0,.slice none 0 0,.map (some bs)] 36)
  have hR:=Own.deskPerm ((((hD.nilRow 93 4).nilRow 93 4).nilRow 84 5).immStart)
  refine wp_own hR hbD (fun w4 hO4 hb4=>?_)
  generalize wC.heap.size=gd at *
  clear hR hD hbD hO1 hO2 OA OB OC hb1 hb2 hb12 hbA hbB hbC
  have HD0:=Box.mk (show DkO ser 0 gd w.heap.size w4∧Below w.heap.size w w4 from ⟨⟨[],[],newX 0 bx,Gr.GS.new 3 200 1 1,[],[],[],[],[],0,0,gx,gg,bw,bi,bs,none,0,none,0,none,0,hO4,dkj_start ser bx⟩,hb4⟩)
  have y0:w4.cell? ⟨gd,0,none⟩=some (.pointer (some ⟨gx,0,none⟩)):=(hO4.blk 1 rfl).1.cellOf (i:=0) rfl
  have y1:w4.cell? ⟨gd,1,none⟩=some (.pointer (some ⟨gg,0,none⟩)):=(hO4.blk 1 rfl).1.cellOf (i:=1) rfl
  clear hO4 hb4
  go_upto_region 6 with fail
  clear y0 y1
  generalize w4=w4 at *
  go_wp2_with fail
  go_loopg [39,7,8,9,10] ln (fun gg s39 _ _ _ _ wz=>∃i:Nat,i≤ln∧ln - i≤gg∧s39=.int .i64 i∧Box (DkO ser i gd w.heap.size wz∧Below w.heap.size w wz))
  case atStart=>exact ⟨0,Nat.zero_le _,by omega,rfl,⟨HD0.out.1,HD0.out.2⟩⟩
  clear HD0
  case round =>
   obtain ⟨i,hi,hgi,rfl,HB⟩:=hrel
   by_cases hil:i<ln
   ·obtain ⟨⟨com,wt,X,S,hs,G,mw,mi,ms,n,tick,gx,gg,bw,bi,bs,a0,c0,a1,c1,ha,hc,hO,hJ⟩,hB⟩:=HB.out
    have HJ:=Box.mk hJ
    obtain ⟨ob,ooff,hla,_,hcl⟩:=(HL.out.1.below hB (Nat.le_refl _)).recAt Mv.enc_len (by omega) i hil
    obtain ⟨x,hx⟩:∃x,L.getD i default=x:=⟨_,rfl⟩
    have HX:=Box.mk (show x.ok from by rw [← hx];exact HL.out.2 _ (getD_mem (by rw [HL.out.1.rlen Mv.enc_len (by omega)];exact hil)))
    rw [hx] at hcl
    have d0:=hcl 0 _ rfl
    have d1:=hcl 1 _ rfl
    have d2:=hcl 2 _ rfl
    have d3:=hcl 3 _ rfl
    have d4:=hcl 4 _ rfl
    simp only [Nat.add_zero] at d0 d1 d2 d3 d4
    have O3:=Box.mk (hO.new [.int .i64 x.k,.int .i64 x.n,.int .i64 x.t,.int .i64 x.r,.int .i64 x.v] 38)
    have B3:=Box.mk (hB.alloc hO.1 (.cells #[.int .i64 x.k,.int .i64 x.n,.int .i64 x.t,.int .i64 x.r,.int .i64 x.v] 38))
    clear hO hJ hB HB hcl hx
    have HLA:=Box.mk hla
    subst hla
    go_upto_region 9 with fail
    clear d0 d1 d2 d3 d4
    generalize wr.heap.size=gm at *
    generalize (wr.alloc (.cells #[.int .i64 x.k,.int .i64 x.n,.int .i64 x.t,.int .i64 x.r,.int .i64 x.v] 38))=w3 at *
    have m0:w3.cell? ⟨gm,0,none⟩=some (.int .i64 x.k):=(O3.out.blk 10 rfl).1.cellOf (i:=0) rfl
    have m1:w3.cell? ⟨gm,1,none⟩=some (.int .i64 x.n):=(O3.out.blk 10 rfl).1.cellOf (i:=1) rfl
    have m2:w3.cell? ⟨gm,2,none⟩=some (.int .i64 x.t):=(O3.out.blk 10 rfl).1.cellOf (i:=2) rfl
    have m3:w3.cell? ⟨gm,3,none⟩=some (.int .i64 x.r):=(O3.out.blk 10 rfl).1.cellOf (i:=3) rfl
    have m4:w3.cell? ⟨gm,4,none⟩=some (.int .i64 x.v):=(O3.out.blk 10 rfl).1.cellOf (i:=4) rfl
    cases ser with
    | false =>
     go_upto_region 11 with fail
     have O4:=O3
     have B4:=B3
     clear O3 B3 m0 m1 m2 m3 m4
     generalize hw4:w3=w4 at *
     clear hw4
     have m0:w4.cell? ⟨gm,0,none⟩=some (.int .i64 x.k):=(O4.out.blk 10 rfl).1.cellOf (i:=0) rfl
     have m1:w4.cell? ⟨gm,1,none⟩=some (.int .i64 x.n):=(O4.out.blk 10 rfl).1.cellOf (i:=1) rfl
     have m2:w4.cell? ⟨gm,2,none⟩=some (.int .i64 x.t):=(O4.out.blk 10 rfl).1.cellOf (i:=2) rfl
     have m3:w4.cell? ⟨gm,3,none⟩=some (.int .i64 x.r):=(O4.out.blk 10 rfl).1.cellOf (i:=3) rfl
     have m4:w4.cell? ⟨gm,4,none⟩=some (.int .i64 x.v):=(O4.out.blk 10 rfl).1.cellOf (i:=4) rfl
     have HDO:=Box.mk (do_any (mk:=x.k) (mn:=x.n) (O4.out.drop 10) HJ.out (by omega) HX.out.2.1 HX.out.2.2.1 HX.out.2.2.2.1 HX.out.2.2.2.2 (fun h=>by cases h))
     go_wp2_with fail
     refine HDO.out.mono ?_
     rintro e w5 ⟨rfl,hb5,com',wt',X',S',hs',G',mw',mi',ms',n',tick',gx',gg',bw',bi',bs',a0',c0',a1',c1',ha',hc',hO5,hJ5⟩
     have O5:=Box.mk hO5
     have J5:=Box.mk hJ5
     have B5:=Box.mk (B4.out.trans hb5)
     clear hO5 hJ5 hb5 O4 B4 HDO m0 m1 m2 m3 m4 HJ
     go_wp2_with fail
     refine (steady_dk O5.out J5.out (by omega)).mono ?_
     rintro e w6 ⟨rfl,hO6,hb6⟩
     have O6:=Box.mk hO6
     have B6:=Box.mk (B5.out.trans hb6)
     clear hO6 hb6 O5 B5
     have y0:w6.cell? ⟨gd,0,none⟩=some (.pointer (some ⟨gx',0,none⟩)):=(O6.out.blk 1 rfl).1.cellOf (i:=0) rfl
     go_wp2_with fail
     refine (history_any (Own.txs (show Own _ w6 (TxsO gx' X'::_) from O6.out)) J5.out.x.ok).mono ?_
     rintro e w7 ⟨hb7,h,ta,tc,rfl,hhr,hpl⟩
     have HHR:=Box.mk hhr
     have HPL:=Box.mk hpl
     have HOKK:=Box.mk (J5.out.x.hok (by rw [J5.out.d.last];have:=J5.out.b1;omega) hpl)
     have O7:=Box.mk (O6.out.below hb7)
     have B7:=Box.mk (B6.out.trans (hb7.mono O6.out.1))
     obtain ⟨hn,hhn⟩:∃hn,h.length=hn:=⟨_,rfl⟩
     have HHN:=Box.mk hhn
     clear hb7 hhr hpl hhn O6 B6 y0
     go_wp2_with fail
     refine (check_any HHR.out HOKK.out).mono ?_
     rintro e w8 ⟨rfl,hb8⟩
     have O8:=Box.mk (O7.out.below hb8)
     have B8:=Box.mk (B7.out.trans (hb8.mono O7.out.1))
     have HH8:=Box.mk (HHR.out.below hb8)
     clear hb8 O7 B7 HHR
     go_wp2_with fail
     refine (serial_any HH8.out HOKK.out).mono ?_
     rintro e w9 ⟨hb9,sv,sb,rfl,hsb⟩
     have O9:=Box.mk (O8.out.below hb9)
     have B9:=Box.mk (B8.out.trans (hb9.mono O8.out.1))
     clear hb9 hsb O8 B8 HH8 HOKK HPL HHN
     go_wp2_with fail
     go_roundg (ln - (i+1))
     case measure=>omega
     case rel=>exact ⟨i+1,by omega,by omega,by go_num,⟨⟨com',wt',X',S',hs',G',mw',mi',ms',n',tick',gx',gg',bw',bi',bs',a0',c0',a1',c1',ha',hc',O9.out,J5.out⟩,B9.out⟩⟩
    | true =>
     by_cases hk0:x.k=0
     ·have HK0:=Box.mk hk0
      rw [hk0] at m0 O3
      have HST:=Box.mk (O3.out.setRow 10 rfl (splice [.int .i64 0,.int .i64 x.n,.int .i64 x.t,.int .i64 x.r,.int .i64 x.v] 1 [.int .i64 1]))
      go_upto_region 11 with ((with_reducible show wpList _ _ _ _ _ _);refine wpList_store_part rfl 3 (.tmp 49) (.const (.int .i64 1)) rfl rfl (size:=1) (off:=1) (by kernel_rfl) (O3.out.blk 10 rfl).1 (by simp) rfl (cs:=[.int .i64 1]) rfl rfl (by simp [Value.oneCell']) ?_)
      refine wp_own HST.out.1 (B3.out.trans HST.out.2) (fun w4 hO4 hb4=>?_)
      have O4:=Box.mk (show Own _ w4 (DkL gd gx gg bw bi bs n tick com X S hs G mw mi (SeenO bs ms) a0 c0 a1 c1 ha hc++[BlkP gm 38 [.int .i64 0,.int .i64 1,.int .i64 x.t,.int .i64 x.r,.int .i64 x.v]]) from hO4)
      have B4:=Box.mk hb4
      clear HST O3 B3 m0 m1 m2 m3 m4 hO4 hb4
      have m0:w4.cell? ⟨gm,0,none⟩=some (.int .i64 0):=(O4.out.blk 10 rfl).1.cellOf (i:=0) rfl
      have m1:w4.cell? ⟨gm,1,none⟩=some (.int .i64 1):=(O4.out.blk 10 rfl).1.cellOf (i:=1) rfl
      have m2:w4.cell? ⟨gm,2,none⟩=some (.int .i64 x.t):=(O4.out.blk 10 rfl).1.cellOf (i:=2) rfl
      have m3:w4.cell? ⟨gm,3,none⟩=some (.int .i64 x.r):=(O4.out.blk 10 rfl).1.cellOf (i:=3) rfl
      have m4:w4.cell? ⟨gm,4,none⟩=some (.int .i64 x.v):=(O4.out.blk 10 rfl).1.cellOf (i:=4) rfl
      have HDO:=Box.mk (do_any (mk:=0) (mn:=1) (O4.out.drop 10) HJ.out (by omega) (by unfold In64;omega) HX.out.2.2.1 HX.out.2.2.2.1 HX.out.2.2.2.2 (fun _ _=>rfl))
      go_wp2_with fail
      refine HDO.out.mono ?_
      rintro e w5 ⟨rfl,hb5,com',wt',X',S',hs',G',mw',mi',ms',n',tick',gx',gg',bw',bi',bs',a0',c0',a1',c1',ha',hc',hO5,hJ5⟩
      have O5:=Box.mk hO5
      have J5:=Box.mk hJ5
      have B5:=Box.mk (B4.out.trans hb5)
      clear hO5 hJ5 hb5 O4 B4 HDO m0 m1 m2 m3 m4 HJ
      go_wp2_with fail
      refine (steady_dk O5.out J5.out (by omega)).mono ?_
      rintro e w6 ⟨rfl,hO6,hb6⟩
      have O6:=Box.mk hO6
      have B6:=Box.mk (B5.out.trans hb6)
      clear hO6 hb6 O5 B5
      have y0:w6.cell? ⟨gd,0,none⟩=some (.pointer (some ⟨gx',0,none⟩)):=(O6.out.blk 1 rfl).1.cellOf (i:=0) rfl
      go_wp2_with fail
      refine (history_any (Own.txs (show Own _ w6 (TxsO gx' X'::_) from O6.out)) J5.out.x.ok).mono ?_
      rintro e w7 ⟨hb7,h,ta,tc,rfl,hhr,hpl⟩
      have HHR:=Box.mk hhr
      have HPL:=Box.mk hpl
      have HOKK:=Box.mk (J5.out.x.hok (by rw [J5.out.d.last];have:=J5.out.b1;omega) hpl)
      have O7:=Box.mk (O6.out.below hb7)
      have B7:=Box.mk (B6.out.trans (hb7.mono O6.out.1))
      obtain ⟨hn,hhn⟩:∃hn,h.length=hn:=⟨_,rfl⟩
      have HHN:=Box.mk hhn
      clear hb7 hhr hpl hhn O6 B6 y0
      go_wp2_with fail
      refine (check_any HHR.out HOKK.out).mono ?_
      rintro e w8 ⟨rfl,hb8⟩
      have O8:=Box.mk (O7.out.below hb8)
      have B8:=Box.mk (B7.out.trans (hb8.mono O7.out.1))
      have HH8:=Box.mk (HHR.out.below hb8)
      clear hb8 O7 B7 HHR
      go_wp2_with fail
      refine (serial_any HH8.out HOKK.out).mono ?_
      rintro e w9 ⟨hb9,sv,sb,rfl,hsb⟩
      have O9:=Box.mk (O8.out.below hb9)
      have B9:=Box.mk (B8.out.trans (hb9.mono O8.out.1))
      obtain rfl:sb=true:=hsb (J5.out.x.kok HPL.out)
      clear hb9 hsb O8 B8 HH8 HOKK HPL HHN
      go_wp2_with fail
      go_roundg (ln - (i+1))
      case measure=>omega
      case rel=>exact ⟨i+1,by omega,by omega,by go_num,⟨⟨com',wt',X',S',hs',G',mw',mi',ms',n',tick',gx',gg',bw',bi',bs',a0',c0',a1',c1',ha',hc',O9.out,J5.out⟩,B9.out⟩⟩
     ·have HK0:=Box.mk hk0
      have hk1:(x.k==0)=false:=by simp [hk0]
      have hk2:decide (x.k=0)=false:=decide_eq_false hk0
      clear hk0
      go_upto_region 11 with fail
      have O4:=O3
      have B4:=B3
      clear O3 B3 m0 m1 m2 m3 m4
      generalize hw4:w3=w4 at *
      clear hw4
      have m0:w4.cell? ⟨gm,0,none⟩=some (.int .i64 x.k):=(O4.out.blk 10 rfl).1.cellOf (i:=0) rfl
      have m1:w4.cell? ⟨gm,1,none⟩=some (.int .i64 x.n):=(O4.out.blk 10 rfl).1.cellOf (i:=1) rfl
      have m2:w4.cell? ⟨gm,2,none⟩=some (.int .i64 x.t):=(O4.out.blk 10 rfl).1.cellOf (i:=2) rfl
      have m3:w4.cell? ⟨gm,3,none⟩=some (.int .i64 x.r):=(O4.out.blk 10 rfl).1.cellOf (i:=3) rfl
      have m4:w4.cell? ⟨gm,4,none⟩=some (.int .i64 x.v):=(O4.out.blk 10 rfl).1.cellOf (i:=4) rfl
      have HDO:=Box.mk (do_any (mk:=x.k) (mn:=x.n) (O4.out.drop 10) HJ.out (by omega) HX.out.2.1 HX.out.2.2.1 HX.out.2.2.2.1 HX.out.2.2.2.2 (fun _ h=>absurd h HK0.out))
      go_wp2_with fail
      refine HDO.out.mono ?_
      rintro e w5 ⟨rfl,hb5,com',wt',X',S',hs',G',mw',mi',ms',n',tick',gx',gg',bw',bi',bs',a0',c0',a1',c1',ha',hc',hO5,hJ5⟩
      have O5:=Box.mk hO5
      have J5:=Box.mk hJ5
      have B5:=Box.mk (B4.out.trans hb5)
      clear hO5 hJ5 hb5 O4 B4 HDO m0 m1 m2 m3 m4 HJ
      go_wp2_with fail
      refine (steady_dk O5.out J5.out (by omega)).mono ?_
      rintro e w6 ⟨rfl,hO6,hb6⟩
      have O6:=Box.mk hO6
      have B6:=Box.mk (B5.out.trans hb6)
      clear hO6 hb6 O5 B5
      have y0:w6.cell? ⟨gd,0,none⟩=some (.pointer (some ⟨gx',0,none⟩)):=(O6.out.blk 1 rfl).1.cellOf (i:=0) rfl
      go_wp2_with fail
      refine (history_any (Own.txs (show Own _ w6 (TxsO gx' X'::_) from O6.out)) J5.out.x.ok).mono ?_
      rintro e w7 ⟨hb7,h,ta,tc,rfl,hhr,hpl⟩
      have HHR:=Box.mk hhr
      have HPL:=Box.mk hpl
      have HOKK:=Box.mk (J5.out.x.hok (by rw [J5.out.d.last];have:=J5.out.b1;omega) hpl)
      have O7:=Box.mk (O6.out.below hb7)
      have B7:=Box.mk (B6.out.trans (hb7.mono O6.out.1))
      obtain ⟨hn,hhn⟩:∃hn,h.length=hn:=⟨_,rfl⟩
      have HHN:=Box.mk hhn
      clear hb7 hhr hpl hhn O6 B6 y0
      go_wp2_with fail
      refine (check_any HHR.out HOKK.out).mono ?_
      rintro e w8 ⟨rfl,hb8⟩
      have O8:=Box.mk (O7.out.below hb8)
      have B8:=Box.mk (B7.out.trans (hb8.mono O7.out.1))
      have HH8:=Box.mk (HHR.out.below hb8)
      clear hb8 O7 B7 HHR
      go_wp2_with fail
      refine (serial_any HH8.out HOKK.out).mono ?_
      rintro e w9 ⟨hb9,sv,sb,rfl,hsb⟩
      have O9:=Box.mk (O8.out.below hb9)
      have B9:=Box.mk (B8.out.trans (hb9.mono O8.out.1))
      obtain rfl:sb=true:=hsb (J5.out.x.kok HPL.out)
      clear hb9 hsb O8 B8 HH8 HOKK HPL HHN
      go_wp2_with fail
      go_roundg (ln - (i+1))
      case measure=>omega
      case rel=>exact ⟨i+1,by omega,by omega,by go_num,⟨⟨com',wt',X',S',hs',G',mw',mi',ms',n',tick',gx',gg',bw',bi',bs',a0',c0',a1',c1',ha',hc',O9.out,J5.out⟩,B9.out⟩⟩
   ·obtain rfl:i=ln:=by omega
    obtain ⟨⟨com,wt,X,S,hs,G,mw,mi,ms,n,tick,gx,gg,bw,bi,bs,a0,c0,a1,c1,ha,hc,hO,hJ⟩,hB⟩:=HB.out
    have HJ:=Box.mk hJ
    have O3:=Box.mk hO
    have B3:=Box.mk hB
    have htk:=hJ.tk
    clear hO hJ hB HB
    have hw1:IntKind.i64.wrap (tick+2)=tick+2:=IntWalk.i64_in _ (by omega)
    have y7:wr.cell? ⟨gd,7,none⟩=some (.int .i64 tick):=(O3.out.blk 1 rfl).1.cellOf (i:=7) rfl
    have HST:=Box.mk (O3.out.setRow 1 rfl (splice (dkC gx gg ⟨a0,(verT (cwOf com) 0).length,c0⟩ ⟨a1,(verT (cwOf com) 1).length,c1⟩ bw bi n tick ⟨ha,hs.length,hc⟩ bs) 7 [.int .i64 (tick+2)]))
    have HRN:=Box.mk (run_dk (Q:=QX ser X) QX.step (show Own _ _ (DkL gd gx gg bw bi bs n (tick+2) com X S hs G mw mi (SeenO bs ms) a0 c0 a1 c1 ha hc) from HST.out.1) HJ.out.d ⟨HJ.out.x,rfl,fun t ht=>ht⟩ (by omega))
    go_wp2_with ((with_reducible show wpList _ _ _ _ _ _);refine wpList_store_part rfl 3 (.tmp 84) (.tmp 82) rfl rfl (size:=1) (off:=7) (by kernel_rfl) (O3.out.blk 1 rfl).1 (by simp [dkC]) rfl (cs:=[.int .i64 (tick+2)]) rfl rfl (by simp [Value.oneCell']) ?_)
    have B4:=Box.mk (B3.out.trans HST.out.2)
    clear HST O3 B3 y7 htk
    refine HRN.out.mono ?_
    rintro e w5 ⟨rfl,hb5,mm,k,X',S',hs',G',a0',c0',a1',c1',ha',hc',hO5,hd,hq,hact,hbeg,hlen,hsub⟩
    obtain ⟨cm,hcm⟩:∃cm,com++mm=cm:=⟨_,rfl⟩
    rw [hcm] at hO5 hd
    have O5:=Box.mk hO5
    have B5:=Box.mk (B4.out.trans hb5)
    have HD:=Box.mk hd
    have HB5:=Box.mk (show hs'.length+2 * (wt.drop k).length≤200∧cm.length≤100 from ⟨by have:=HJ.out.b2;omega,by have:=hd.b1;omega⟩)
    clear hO5 hd hq hact hbeg hlen hsub hb5 B4 HRN HJ hcm
    have y8:w5.cell? ⟨gd,8,none⟩=some (.slice ha' hs'.length hc'):=(O5.out.blk 1 rfl).1.cellOf (i:=8) rfl
    have HRT:=Box.mk (show Calls Tryz.prog 13 #[.slice ha' hs'.length hc'] w5 (RetV (.bool true) w5) from by
     obtain ⟨f,hr,_⟩:=HD.out.trc.run
     exact right_any hr (Own.hsRd O5.out 8 4 rfl rfl HD.out.ev) (by have:=HB5.out.1;omega))
    go_wp2_with fail
    refine HRT.out.mono ?_
    rintro e w6 ⟨rfl,hb6⟩
    have O6:=Box.mk (O5.out.below hb6)
    have B6:=Box.mk (B5.out.trans (hb6.mono O5.out.1))
    clear hb6 O5 B5 y8 HRT
    go_wp2_with fail
    refine (see_dk (com:=cwOf cm) (X:=X') (t0:=⟨a0',(verT (cwOf cm) 0).length,c0'⟩) (t1:=⟨a1',(verT (cwOf cm) 1).length,c1'⟩) (sh:=⟨ha',hs'.length,hc'⟩) (hs:=hs') O6.out (by rw [HD.out.shown,List.length_map]) (by rw [List.length_map];have:=HB5.out.2;omega) (by show hs'.length≤1000;have:=HB5.out.1;omega)).mono ?_
    rintro e w7 ⟨rfl,hb7,a9,c9,ra,rc,hO7⟩
    rw [show (cwOf cm).length=cm.length from List.length_map _] at hO7
    have hO7:=Own.immLast (l:=[TxsO gx X',BlkP gd 36 (dkC gx gg ⟨a0',(verT (cwOf cm) 0).length,c0'⟩ ⟨a1',(verT (cwOf cm) 1).length,c1'⟩ bw bi n (tick+2) ⟨a9,hs'.length+1,c9⟩ bs),RowP 93 4 a0' (verT (cwOf cm) 0).length c0' (recC VerP.enc (verT (cwOf cm) 0)),RowP 93 4 a1' (verT (cwOf cm) 1).length c1' (recC VerP.enc (verT (cwOf cm) 1)),RowP 84 5 a9 (hs'.length+1) c9 (recC HpP.enc (hs'++[⟨5,0,cm.length,none,0,[],ra,rc,rowsH (cwOf cm) cm.length⟩])),Gr.GrpP gg S',WrsO bw mw,IntO bi mi,ImmO G',SeenO bs ms]) hO7 8 rfl
    have hd7:=HD.out.see ra rc (by have:=HB5.out.1;have:=HD.out.b1;omega)
    obtain ⟨hx,hhx⟩:∃hx,hs'++[(⟨5,0,cm.length,none,0,[],ra,rc,rowsH (cwOf cm) cm.length⟩:HpP)]=hx:=⟨_,rfl⟩
    have hxl:hs'.length+1=hx.length:=by rw [← hhx,List.length_append];rfl
    obtain ⟨G7,hG7⟩:∃G7,(⟨ra,(rowsH (cwOf cm) cm.length).length,rc,4,recC HdP.enc (rowsH (cwOf cm) cm.length)⟩:RdD)::G'=G7:=⟨_,rfl⟩
    simp only [List.set_cons_succ,List.set_cons_zero] at hO7
    rw [hhx,hxl,hG7] at hO7
    have hd8:DkI cm (wt.drop k) X' S' hx G7 mw mi n:=by rw [← hhx,← hG7];exact hd7
    have O7:=Box.mk hO7
    have B7:=Box.mk (B6.out.trans hb7)
    have HD7:=Box.mk hd8
    have HXL:=Box.mk (show hx.length≤400 from by have:=HB5.out.1;omega)
    clear hO7 hb7 hd7 hd8 hhx hxl hG7 O6 B6 HD
    obtain ⟨f,hr,hf⟩:=HD7.out.trc.run
    have HR:=Box.mk hr
    have HFI:=Box.mk (show (f hx.length).ids=cm.map (·.1)∧(f hx.length).cw=cwOf cm∧(f hx.length).com.length=cm.length from by rw [hf];exact ⟨rfl,rfl,rfl⟩)
    clear hr hf
    have HS7:=Box.mk (Own.hsRd O7.out 8 4 rfl rfl HD7.out.ev)
    have y8:w7.cell? ⟨gd,8,none⟩=some (.slice a9 hx.length c9):=(O7.out.blk 1 rfl).1.cellOf (i:=8) rfl
    go_wp2_with fail
    refine (explain_any HR.out HS7.out HXL.out).mono ?_
    rintro e w8 ⟨hb8,oa,oc,rfl,hoa⟩
    obtain ⟨ids,hids⟩:∃ids,(f hx.length).ids=ids:=⟨_,rfl⟩
    rw [hids] at hoa ⊢
    have O8:=Box.mk (O7.out.below hb8)
    have B8:=Box.mk (B7.out.trans (hb8.mono O7.out.1))
    have HS8:=Box.mk (HS7.out.below hb8 (Nat.le_refl _))
    have HOA:=Box.mk hoa
    have HID:=Box.mk hids
    clear hb8 hoa hids O7 B7 HS7 y8
    have y8:w8.cell? ⟨gd,8,none⟩=some (.slice a9 hx.length c9):=(O8.out.blk 1 rfl).1.cellOf (i:=8) rfl
    go_wp2_with fail
    refine (check_h HR.out HS8.out HXL.out (oa:=oa) (om:=ids.length) (oc:=oc) (by rw [HID.out];exact HOA.out)).mono ?_
    rintro e w9 ⟨rfl,hb9⟩
    have B9:=Box.mk hb9
    clear hb9 y8
    go_upto_region 29 with fail
    have HF0:=Box.mk (And.intro (O8.out.below B9.out).drew B9.out.drew)
    have HS0:(Own w.heap.size w9.drew [BlkP gd 36 (dkC gx gg ⟨a0',(verT (cwOf cm) 0).length,c0'⟩ ⟨a1',(verT (cwOf cm) 1).length,c1'⟩ bw bi n (tick+2) ⟨a9,hx.length,c9⟩ bs)]∧Below w8.heap.size w8 w9.drew):=⟨HF0.out.1.only 1 rfl,HF0.out.2⟩
    clear B9
    refine wp_region_held_drew (S:=fun w'=>(Own w.heap.size w' [BlkP gd 36 (dkC gx gg ⟨a0',(verT (cwOf cm) 0).length,c0'⟩ ⟨a1',(verT (cwOf cm) 1).length,c1'⟩ bw bi n (tick+2) ⟨a9,hx.length,c9⟩ bs)]∧Below w8.heap.size w8 w')) (by kernel_rfl) HS0 (fun _=>?_)
    generalize w9.drew=wd9 at *
    conv=>arg 8;simp [go_sem]
    refine ar 0 rfl fun K' hK'=>?_
    refine oper_call (by rfl) 4 [] #[] rfl (vs:=[]) rfl Tryz.func4 nm_awake bd_awake (awake_any (Lib.TabBelow.on HT.out (B8.out.trans (HF0.out.2.mono B8.out.size))) (Nat.le_trans B8.out.size HF0.out.2.size)) ?_
    rintro e wa ⟨rfl,hb⟩
    have HF1:=Box.mk (And.intro (HF0.out.1.below hb) (HF0.out.2.trans (hb.mono HF0.out.2.size)))
    clear hb
    have HT2:=(show Own _ _ [BlkP gd 36 (dkC gx gg ⟨a0',(verT (cwOf cm) 0).length,c0'⟩ ⟨a1',(verT (cwOf cm) 1).length,c1'⟩ bw bi n (tick+2) ⟨a9,hx.length,c9⟩ bs)]∧Below _ _ _ from And.intro (HF1.out.1.only 1 rfl) HF1.out.2)
    refine ⟨_,rfl,hK'.out _ _ HT2 (fun _=>?_)⟩
    clear hK' K'
    conv=>arg 8;simp [go_sem]
    refine tw 1 rfl HT2 ?_
    conv=>arg 8;simp [go_sem]
    refine tw 2 rfl HT2 ?_
    conv=>arg 8;simp [go_sem]
    refine tw 3 rfl HT2 ?_
    conv=>arg 8;simp [go_sem]
    refine tw 4 rfl HT2 ?_
    conv=>arg 8;simp [go_sem]
    refine tv 5 rfl (fun w' hS=>by have e:w'.cell? ⟨gd,8,none⟩=some (.slice a9 hx.length c9):=(hS.1.blk 0 rfl).1.cellOf (i:=8) rfl;go_simp;all_goals with_reducible rfl) HT2 ?_
    conv=>arg 8;simp [go_sem]
    refine tw 6 rfl HT2 ?_
    conv=>arg 8;simp [go_sem]
    refine tw 7 rfl HT2 ?_
    conv=>arg 8;simp [go_sem]
    refine tw 8 rfl HT2 ?_
    conv=>arg 8;simp [go_sem]
    refine tw 10 rfl HT2 ?_
    conv=>arg 8;simp [go_sem]
    refine tw 11 rfl HT2 ?_
    conv=>arg 8;simp [go_sem]
    refine tw 12 rfl HT2 ?_
    conv=>arg 8;simp [go_sem]
    refine tw 13 rfl HT2 ?_
    conv=>arg 8;simp [go_sem]
    refine tv 14 rfl (fun w' hS=>by have e:w'.cell? ⟨gd,0,none⟩=some (.pointer (some ⟨gx,0,none⟩)):=(hS.1.blk 0 rfl).1.cellOf (i:=0) rfl;go_simp;all_goals with_reducible rfl) HT2 ?_
    conv=>arg 8;simp [go_sem]
    refine ar 9 rfl fun K' hK'=>?_
    refine oper_call (by rfl) 18 [.tmp 130,.tmp 131,.tmp 133] #[34,44,3] rfl (vs:=[.slice a9 hx.length c9,.slice oa ids.length oc,.int .i64 (ids.length:Int)]) rfl Tryz.func18 nm_stateL bd_stateL (state_any HR.out (HS8.out.below HF1.out.2 (Nat.le_refl _)) (by have:=HXL.out;omega) (oa:=oa) (om:=ids.length) (oc:=oc) (by rw [HID.out,List.take_length];exact HOA.out.below HF1.out.2 (Nat.le_refl _)) (by rw [HFI.out.2.2,← HID.out,HFI.out.1,List.length_map];exact Nat.le_refl _) (Nat.le_refl _)) ?_
    rintro e wa ⟨hb,sa,sc,rfl,hrow⟩
    rw [HFI.out.2.1,show ids.length=cm.length from by rw [← HID.out,HFI.out.1,List.length_map]] at hrow ⊢
    have HF3:=Box.mk (And.intro (HF1.out.1.newRow hb hrow (Nat.le_refl _)) (HF1.out.2.trans (hb.mono HF1.out.2.size)))
    clear hb hrow
    have HT4:=(show Own _ _ [BlkP gd 36 (dkC gx gg ⟨a0',(verT (cwOf cm) 0).length,c0'⟩ ⟨a1',(verT (cwOf cm) 1).length,c1'⟩ bw bi n (tick+2) ⟨a9,hx.length,c9⟩ bs)]∧Below _ _ _ from And.intro (HF3.out.1.only 1 rfl) HF3.out.2)
    refine ⟨_,rfl,hK'.out _ _ HT4 (fun _=>?_)⟩
    clear hK' K'
    conv=>arg 8;simp [go_sem]
    refine ar 15 rfl fun K' hK'=>?_
    refine oper_call (by rfl) 20 [.tmp 139] #[25] rfl (vs:=[.pointer (some ⟨gx,0,none⟩)]) rfl Tryz.func20 nm_shn bd_shn (shown_any (Own.txs (show Own _ _ (TxsO gx X'::_) from HF3.out.1))) ?_
    rintro e wa ⟨rfl,hb⟩
    rw [HD7.out.shown]
    have HF5:=Box.mk (And.intro (HF3.out.1.below hb) (HF3.out.2.trans (hb.mono HF3.out.2.size)))
    clear hb
    have HT6:=(show Own _ _ [BlkP gd 36 (dkC gx gg ⟨a0',(verT (cwOf cm) 0).length,c0'⟩ ⟨a1',(verT (cwOf cm) 1).length,c1'⟩ bw bi n (tick+2) ⟨a9,hx.length,c9⟩ bs)]∧Below _ _ _ from And.intro (HF5.out.1.only 1 rfl) HF5.out.2)
    refine ⟨_,rfl,hK'.out _ _ HT6 (fun _=>?_)⟩
    clear hK' K'
    conv=>arg 8;simp [go_sem]
    refine ar 16 rfl fun K' hK'=>?_
    refine oper_call (by rfl) 19 [.tmp 135,.tmp 140] #[24,3] rfl (vs:=[.pointer (some ⟨gd,0,none⟩),.int .i64 (cm.length:Int)]) rfl Tryz.func19 nm_rws bd_rws (rows_dk (com:=cwOf cm) (t0:=⟨a0',(verT (cwOf cm) 0).length,c0'⟩) (t1:=⟨a1',(verT (cwOf cm) 1).length,c1'⟩) (HF5.out.1.blk 1 rfl).1 (Rd.ofOwn (HF5.out.1.row 2 rfl)) (Rd.ofOwn (HF5.out.1.row 3 rfl)) (by rw [List.length_map];have:=HB5.out.2;omega) cm.length) ?_
    rintro e wa ⟨hb,qa,qc,rfl,hrow⟩
    have HF7:=Box.mk (And.intro (HF5.out.1.newRow hb hrow (Nat.le_refl _)) (HF5.out.2.trans (hb.mono HF5.out.2.size)))
    clear hb hrow
    have HT8:=(show Own _ _ [BlkP gd 36 (dkC gx gg ⟨a0',(verT (cwOf cm) 0).length,c0'⟩ ⟨a1',(verT (cwOf cm) 1).length,c1'⟩ bw bi n (tick+2) ⟨a9,hx.length,c9⟩ bs)]∧Below _ _ _ from And.intro (HF7.out.1.only 1 rfl) HF7.out.2)
    refine ⟨_,rfl,hK'.out _ _ HT8 (fun _=>?_)⟩
    clear hK' K'
    conv=>arg 8;simp [go_sem]
    refine ar 17 rfl fun K' hK'=>?_
    refine oper_call (by rfl) 17 [.tmp 134,.tmp 141] #[52,52] rfl (vs:=[.slice sa (rowsH (cwOf cm) cm.length).length sc,.slice qa (rowsH (cwOf cm) cm.length).length qc]) rfl Tryz.func17 nm_sameL bd_sameL (samerows_any (ys:=[]) (Rd.ofOwn (HF7.out.1.row 10 rfl)) (Rd.ofOwn (HF7.out.1.row 11 rfl)) (fun y hy=>by obtain ⟨ws,h1,z,h2,h3,h4,h5⟩:=rowsH_vals hy;rw [h3,h4,h5];exact HF7.out.1.imm 8 rfl (HD7.out.vals ws (List.mem_append.2 (.inl h1)) z h2))) ?_
    rintro e wa ⟨rfl,hb⟩
    have HF9:=Box.mk (And.intro (HF7.out.1.below hb) (HF7.out.2.trans (hb.mono HF7.out.2.size)))
    clear hb
    have HT10:=(show Own _ _ [BlkP gd 36 (dkC gx gg ⟨a0',(verT (cwOf cm) 0).length,c0'⟩ ⟨a1',(verT (cwOf cm) 1).length,c1'⟩ bw bi n (tick+2) ⟨a9,hx.length,c9⟩ bs)]∧Below _ _ _ from And.intro (HF9.out.1.only 1 rfl) HF9.out.2)
    refine ⟨_,rfl,hK'.out _ _ HT10 (fun _=>?_)⟩
    clear hK' K'
    conv=>arg 8;simp [go_sem]
    refine tw 18 rfl HT10 ?_
    conv=>arg 8;simp [go_sem]
    refine tw 19 rfl HT10 ?_
    conv=>arg 8;simp [go_sem]
    refine ⟨by kernel_rfl,?_⟩
    conv =>
     arg 5
     simp [go_sem]
    go_wp2_with fail
    go_ret
    exact ⟨rfl,B8.out.trans (HF9.out.2.mono B8.out.size)⟩
end
end Go.Proofs.YtlfghapllmaigaaGreatDoor
