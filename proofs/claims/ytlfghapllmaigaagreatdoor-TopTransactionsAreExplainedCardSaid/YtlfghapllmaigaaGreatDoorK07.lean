/-
  The walk of conflict's order. Conditions: each theorem's own hypotheses.
-/
import Derived.Test.YtlfghapllmaigaaGreatDoorK06
import Derived.Test.YtlfghapllmaigaaGreatDoorK05
namespace Go.Proofs.YtlfghapllmaigaaGreatDoor
section
open Go.RowKit Go.Maps
def cntE (hs:List AccP) (L:List Nat) (j:Nat):Int:=((L.filter fun i=>decide (edgeI hs i j≠0)).length:Int)
theorem cntE_erase {hs:List AccP} {L:List Nat} {x:Nat} (hx:x∈L) (j:Nat):cntE hs (L.erase x) j=cntE hs L j - (if edgeI hs x j=0 then 0 else 1):=by
 have hp:=((List.perm_cons_erase hx).filter fun i=>decide (edgeI hs i j≠0)).length_eq
 unfold cntE
 rw [hp,List.filter_cons]
 by_cases h:edgeI hs x j=0
 ·simp [h]
 ·simp [h]
theorem cntE_zero {hs:List AccP} {L:List Nat} {j:Nat} (h:∀i∈L,edgeI hs i j=0):cntE hs L j=0:=by
 unfold cntE
 rw [List.filter_eq_nil_iff.2 (fun i hi=>by simp [h i hi])];rfl
theorem cntE_le (hs:List AccP) (L:List Nat) (j:Nat):0≤cntE hs L j∧cntE hs L j≤L.length:=by
 unfold cntE
 have:=List.length_filter_le (fun i=>decide (edgeI hs i j≠0)) L
 omega
theorem cntE_succ (hs:List AccP) (i j:Nat):cntE hs (List.range (i+1)) j=cntE hs (List.range i) j+(if edgeI hs i j=0 then 0 else 1):=by
 unfold cntE
 rw [List.range_succ,List.filter_append,List.length_append]
 by_cases h:edgeI hs i j=0
 ·simp [h]
 ·simp [h]
def doneL (hs:List AccP) (j:Nat):List Nat:=(List.range j).filter fun i=>(hs.getD i default).done
theorem doneL_succ (hs:List AccP) (j:Nat):doneL hs (j+1)=doneL hs j++(if (hs.getD j default).done=true then [j] else []):=by
 unfold doneL
 rw [List.range_succ,List.filter_append]
 congr 1
 by_cases h:(hs.getD j default).done=true
 ·rw [if_pos h,List.filter_cons,if_pos h];rfl
 ·rw [if_neg h,List.filter_cons,if_neg h];rfl
theorem mem_doneL {hs:List AccP} {n j:Nat}:j∈doneL hs n↔j<n∧(hs.getD j default).done=true:=by unfold doneL;rw [List.mem_filter,List.mem_range]
theorem doneL_len (hs:List AccP) (n:Nat):(doneL hs n).length≤n:=by
 have:=List.length_filter_le (fun i=>(hs.getD i default).done) (List.range n)
 rw [List.length_range] at this;exact this
theorem edgeI_done {hs:List AccP} {i j:Nat} (h:edgeI hs i j≠0):(hs.getD i default).done=true:=by
 unfold edgeI at h
 split at h
 ·exact absurd rfl h
 ·rename_i hn
  cases hd:(hs.getD i default).done with
  | true=>rfl
  | false=>exact absurd (.inr (.inl hd)) hn
theorem cntE_done (hs:List AccP) (n j:Nat):cntE hs (List.range n) j=cntE hs (doneL hs n) j:=by
 unfold cntE doneL
 rw [List.filter_filter]
 congr 2
 apply List.filter_congr
 intro i _
 by_cases h:edgeI hs i j=0
 ·simp [h]
 ·rw [edgeI_done h,Bool.and_true]
def KOk (hs:List AccP) (n:Nat):Prop:=∀L:List Nat,L≠[]→(∀j∈L,j<n∧(hs.getD j default).done=true)→∃j∈L,∀i∈L,edgeI hs i j=0
def RetOrd (p:Prop) (w:World) (e:Ending) (w':World):Prop:=Below w.heap.size w w'∧∃v b,e=.returned (.tuple #[v,.bool b])∧(p→b=true)
def kN (j:Nat):Value:=.int .i64 (j:Int)
def vN (x:Int):Value:=.int .i64 x
theorem kN_inj:∀a a',kN a=kN a'→a=a':=fun a a' h=>by unfold kN at h;simp only [Value.int.injEq,true_and] at h;omega
set_option maxRecDepth 20000 in
theorem key_int {x:Int} (h:In64 x):keyOf Tryz.prog 3 (.int .i64 x)=some (.int .i64 x):=keyOf_int_mk und_int (wf64 h)
theorem und_mii:Tryz.prog.underlying 30=some (.map 3 3):=by kernel_rfl
theorem K_int:Keyed Tryz.prog 3:=int_keyed und_int
set_option maxRecDepth 20000 in
theorem z_int:∀w,(zeroValue 3).run Tryz.prog w=.ok (.int .i64 0) w:=fun w=>by rfl
abbrev WtO (b:Nat) (l:List (Nat×Int)):HP:=MapO Tryz.prog 3 kN vN b l
abbrev WtR (b r:Nat) (l:List (Nat×Int)) (S:List Nat):HP:=MapRO Tryz.prog 3 kN vN b r l S
theorem keyN {j:Nat} (h:j≤1000000):keyOf Tryz.prog 3 (kN j)=some (.int .i64 (j:Int)):=key_int (by unfold In64;omega)
theorem Own.wput {B:Nat} {w:World} {l:List HP} (O:Own B w l) (i:Nat) {b:Nat} {m:List (Nat×Int)} (hi:l[i]?=some (WtO b m)) {j:Nat} (hj:j≤1000000) (v:Int) :
  ∃w',(Instr.mapUpdate 30 (.map (some b)) (.int .i64 (j:Int)) (.int .i64 v)).run Tryz.prog w=.ok () w'∧Own B w' (l.set i (WtO b (putA m j v)))∧Below B w w':=by
 obtain ⟨w',h1,h2,h3,_⟩:=O.putMap K_int kN_inj und_mii i hi (keyN hj) v
 exact ⟨w',h1,h2,h3⟩
theorem Own.wlook {B:Nat} {w:World} {l:List HP} (O:Own B w l) (i:Nat) {b:Nat} {m:List (Nat×Int)} (hi:l[i]?=some (WtO b m)) {j:Nat} (hj:j≤1000000) {v:Int} (hv:getA m j=some v) :
  (Instr.lookup 30 (.map (some b)) (.int .i64 (j:Int)) false).run Tryz.prog w=.ok (.int .i64 v) w:=by
 have:=(O.map i hi).1.look K_int kN_inj und_mii z_int (keyN hj)
 rw [hv] at this
 exact this
theorem Own.wdel {B:Nat} {w:World} {l:List HP} (O:Own B w l) (i:Nat) {b:Nat} {m:List (Nat×Int)} (hi:l[i]?=some (WtO b m)) {j:Nat} (hj:j≤1000000) :
  ∃w',(Builtin.delete_ #[30,3] 0 #[.map (some b),.int .i64 (j:Int)]).run Tryz.prog w=.ok (.tuple #[]) w'∧Own B w' (l.set i (WtO b (delA m j)))∧Below B w w':=by
 obtain ⟨w',h1,h2,h3,_⟩:=O.delMap K_int kN_inj und_mii i hi (keyN hj) 0
 exact ⟨w',h1,h2,h3⟩
theorem Own.wnext {B:Nat} {w:World} {l:List HP} (O:Own B w l) (i:Nat) {b r:Nat} {m:List (Nat×Int)} {S:List Nat} (hi:l[i]?=some (WtR b r m S)) :
  ((∀p∈m,p.1∈S)∧(Instr.next (.pointer (some ⟨r,0,none⟩)) false 0).run Tryz.prog w=.ok (.tuple #[.bool false]) w) ∨
  ∃ (x:Nat) (v:Int) (w':World),(x,v)∈m∧x∉S∧(Instr.next (.pointer (some ⟨r,0,none⟩)) false 0).run Tryz.prog w=.ok (.tuple #[.bool true,.int .i64 (x:Int),.int .i64 v]) w'∧Own B w' (l.set i (WtR b r m (x::S)))∧Below B w w' ∧
   (Instr.entry (.pointer (some ⟨r,0,none⟩))).run Tryz.prog w'=.ok (.tuple #[.int .i64 (x:Int),.int .i64 v]) w':=by
 rcases O.nextM kN_inj i hi 0 with h | ⟨x,v,w',h1,h2,h3,h4,h5,_,h7⟩
 ·exact .inl h
 ·exact .inr ⟨x,v,w',h1,h2,h3,h4,h5,h7⟩
theorem Own.wputR {B:Nat} {w:World} {l:List HP} (O:Own B w l) (i:Nat) {b r:Nat} {m:List (Nat×Int)} {S:List Nat} (hi:l[i]?=some (WtR b r m S)) {j:Nat} (hm:j∈keysA m) (hj:j≤1000000) (v:Int) :
  ∃w',(Instr.mapUpdate 30 (.map (some b)) (.int .i64 (j:Int)) (.int .i64 v)).run Tryz.prog w=.ok () w'∧Own B w' (l.set i (WtR b r (putA m j v) S))∧Below B w w' :=
 O.putR K_int kN_inj und_mii i hi hm (keyN hj) v
theorem Own.wlookR {B:Nat} {w:World} {l:List HP} (O:Own B w l) (i:Nat) {b r:Nat} {m:List (Nat×Int)} {S:List Nat} (hi:l[i]?=some (WtR b r m S)) {j:Nat} (hj:j≤1000000) {v:Int} (hv:getA m j=some v) :
  (Instr.lookup 30 (.map (some b)) (.int .i64 (j:Int)) false).run Tryz.prog w=.ok (.int .i64 v) w:=by
 have:=(O.mapR i hi).map.look K_int kN_inj und_mii z_int (keyN hj)
 rw [hv] at this
 exact this
theorem putA_last {l:List (Nat×Int)} {j:Nat} (h:j∉keysA l) (v v':Int):putA (l++[(j,v)]) j v'=l++[(j,v')]:=by
 induction l with
 | nil=>simp [putA]
 | cons p r ih =>
  obtain ⟨a,b⟩:=p
  simp only [keysA,List.map_cons,List.mem_cons,not_or] at h
  simp only [List.cons_append,putA]
  rw [if_neg (Ne.symm h.1),ih h.2]
theorem getA_last {l:List (Nat×Int)} {j:Nat} (h:j∉keysA l) (v:Int):getA (l++[(j,v)]) j=some v:=by
 induction l with
 | nil=>simp [getA]
 | cons p r ih =>
  obtain ⟨a,b⟩:=p
  simp only [keysA,List.map_cons,List.mem_cons,not_or] at h
  simp only [List.cons_append,getA]
  rw [if_neg (Ne.symm h.1),ih h.2]
theorem keysA_app (l:List (Nat×Int)) (j:Nat) (v:Int):keysA (l++[(j,v)])=keysA l++[j]:=by simp [keysA]
theorem GrRd.h0 {w:World} {g:Nat} {a:Option Addr} {n c:Nat} {hs:List AccP} (h:GrRd w g a n c hs):w.cell? ⟨g,0,none⟩=some (.slice a n c):=by
 obtain ⟨ge,rs,h1,_⟩:=h.ex
 exact h1.cellOf rfl
set_option maxRecDepth 20000 in
set_option maxHeartbeats 8000000 in
theorem order_any {hs:List AccP} {a:Option Addr} {n c g:Nat} {w:World} (hgr:GrRd w g a n c hs) (hr:HistRd w a n c hs) (hlen:n≤100) :
  Calls Tryz.prog 51 #[.pointer (some ⟨g,0,none⟩)] w (RetOrd (KOk hs n) w):=by
 have hln:=hr.rd.rlen AccP.cs_len (by omega)
 have HR:=Box.mk hr
 have HG:=Box.mk hgr
 clear hr hgr
 have hmm:=@run_makeMap Tryz.prog
 have O0:=Box.mk (Own.newMap (P:=Tryz.prog) (k:=3) (ek:=kN) (ev:=vN) (Own.start w))
 have B0:=Box.mk ((Below.refl w.heap.size w).alloc (Nat.le_refl _) (.map #[] 0))
 go_enter Tryz.func51,Tryz.ntmps51
 go_upto_region 2 with fail
 generalize (w.alloc (.map #[] 0))=w1 at *
 have g0:=(HG.out.below B0.out).h0
 go_wp2_with fail
 clear g0
 go_loopg [5,6,7,19,34] n (fun gg _ _ _ s19 _ wr=>∃j:Nat,j≤n∧n - j≤gg∧s19=.int .i64 j∧Box (∃l,Own w.heap.size wr [WtO w.heap.size l]∧Below w.heap.size w wr∧keysA l=doneL hs j∧∀p∈l,p.2=cntE hs (List.range n) p.1))
 case atStart=>exact ⟨0,Nat.zero_le _,by omega,rfl,⟨[],O0.out,B0.out,rfl,by simp⟩⟩
 case round =>
  obtain ⟨j,hj,hg,rfl,HL⟩:=hrel
  obtain ⟨l,hO,hB,hk,hv⟩:=HL.out
  have HL:=Box.mk (And.intro hO (And.intro hB (And.intro hk hv)))
  clear hO hB hk hv
  by_cases hlt:j<n
  ·obtain ⟨b,off,x,rfl,hx,hxm,hxr,c0,c1,c2,c3,c4,c5⟩:=(HR.out.below HL.out.2.1).at j hlt
   have H1:=Box.mk (x.fresh HL.out.2.1)
   obtain ⟨x0,x1,x2,x3,x4,x5⟩:=AccP.cells H1.out.1
   have O1:=Box.mk (HL.out.1.below H1.out.2.2)
   have HX:=Box.mk hx
   clear hx hxm hxr
   go_upto_region 5 with fail
   clear c0 c1 c2 c3 c4 c5
   generalize (wr.alloc (.cells #[.int .i64 x.mode,.int .i64 x.snap,.bool x.done,.int .i64 x.stamp,.slice x.ra x.reads.length x.rc,.slice x.wa x.writes.length x.wc] 102))=w2 at *
   have B2:=Box.mk H1.out.2.1
   clear H1 x0 x1 x3 x4 x5
   obtain ⟨d,hd⟩:∃d,x.done=d:=⟨_,rfl⟩
   rw [hd] at x2
   cases d with
   | false =>
    have HD:=Box.mk (show doneL hs (j+1)=doneL hs j by rw [doneL_succ,HX.out,hd];simp)
    clear hd
    go_wp2_with fail
    go_roundg (n - (j+1))
    case measure=>omega
    case rel=>exact ⟨j+1,by omega,by omega,by go_num,⟨l,O1.out,B2.out,by rw [HD.out];exact HL.out.2.2.1,HL.out.2.2.2⟩⟩
   | true =>
    have HD:=Box.mk (show doneL hs (j+1)=doneL hs j++[j] by rw [doneL_succ,HX.out,hd];simp)
    have HNM:=Box.mk (show j∉keysA l by rw [HL.out.2.2.1,mem_doneL];omega)
    clear hd
    obtain ⟨w3,hrun,O3,hb3⟩:=O1.out.wput 0 rfl (j:=j) (by omega) 0
    have O3:=Box.mk (show Own w.heap.size w3 [WtO w.heap.size (l++[(j,0)])] from by have h:=O3;rw [putA_new HNM.out] at h;exact h)
    have B3:=Box.mk (B2.out.trans hb3)
    have g0:=(HG.out.below B3.out).h0
    clear O1 B2 hb3
    go_wp2_with fail
    clear hrun g0 x2
    go_loopg [7,34] n (fun gg _ s34 wq=>∃i:Nat,i≤n∧n - i≤gg∧s34=.int .i64 i∧Box (Own w.heap.size wq [WtO w.heap.size (l++[(j,cntE hs (List.range i) j)])]∧Below w.heap.size w wq))
    case atStart=>exact ⟨0,Nat.zero_le _,by omega,rfl,⟨O3.out,B3.out⟩⟩
    case round =>
     obtain ⟨i,hi,hg2,rfl,HI⟩:=hrel
     by_cases hlt2:i<n
     ·obtain ⟨ge,r,e0,e1,e2,e3⟩:=(HG.out.below HI.out.2).edge hlt2 hlt
      have hlook:=HI.out.1.wlook 0 rfl (j:=j) (by omega) (getA_last HNM.out _)
      have HS:=Box.mk (cntE_succ hs i j)
      have HC:=Box.mk (cntE_le hs (List.range i) j)
      have hcl:=HC.out.1
      have hcu:=HC.out.2
      rw [List.length_range] at hcu
      obtain ⟨v,hv⟩:∃v,edgeI hs i j=v:=⟨_,rfl⟩
      rw [hv] at e3 HS
      by_cases hv0:v=0
      ·have t1:(v==0)=true:=by simp [hv0]
       have t2:(v != 0)=false:=by simp [hv0]
       rw [if_pos hv0] at HS
       clear hv hv0
       go_wp2_with fail
       go_roundg (n - (i+1))
       case measure=>omega
       case rel=>exact ⟨i+1,by omega,by omega,by go_num,⟨by rw [HS.out,Int.add_zero];exact HI.out.1,HI.out.2⟩⟩
      ·have t1:(v==0)=false:=by simp [hv0]
       have t2:(v != 0)=true:=by simp [hv0]
       rw [if_neg hv0] at HS
       obtain ⟨w4,hrun,O4,hb4⟩:=HI.out.1.wput 0 rfl (j:=j) (by omega) (cntE hs (List.range i) j+1)
       have O4:=Box.mk (show Own w.heap.size w4 [WtO w.heap.size (l++[(j,cntE hs (List.range i) j+1)])] from by have h:=O4;rw [putA_last HNM.out] at h;exact h)
       have B4:=Box.mk (HI.out.2.trans hb4)
       clear hv hv0 hb4
       generalize cntE hs (List.range i) j=z at *
       go_wp2_with fail
       go_roundg (n - (i+1))
       case measure=>omega
       case rel=>exact ⟨i+1,by omega,by omega,by go_num,⟨by rw [HS.out];exact O4.out,B4.out⟩⟩
     ·obtain rfl:i=n:=by omega
      go_wp2_with fail
      go_roundg (i - (j+1))
      case measure=>omega
      case rel=>exact ⟨j+1,by omega,by omega,by go_num,⟨_,HI.out.1,HI.out.2,by rw [keysA_app,HD.out,HL.out.2.2.1],fun p hp=>by
       rcases List.mem_append.1 hp with hp | hp
       ·exact HL.out.2.2.2 p hp
       ·have:p=(j,cntE hs (List.range i) j):=by simpa using hp
        rw [this]⟩⟩
  ·obtain rfl:j=n:=by omega
   have HW:=Box.mk (show ∀p∈l,p.2=cntE hs (keysA l) p.1 from fun p hp=>by rw [HL.out.2.2.2 p hp,cntE_done,HL.out.2.2.1])
   have HK:=Box.mk (show ∀i∈keysA l,i<j∧(hs.getD i default).done=true from fun i hi=>by rw [HL.out.2.2.1] at hi;exact mem_doneL.1 hi)
   have hll:l.length≤j:=by
    have:=doneL_len hs j
    rw [← HL.out.2.2.1] at this
    simpa [keysA] using this
   have O1:=Box.mk (HL.out.1.nilRow 3 1)
   have B1:=Box.mk HL.out.2.1
   clear HL hlt hg
   go_wp2_with fail
   go_loopg [8,9,10,11,12] j (fun gg s8 _ _ _ _ wq=>∃ (l:List (Nat×Int)) (m:Nat) (a':Option Addr) (c':Nat) (xs:List Value),l.length≤gg∧m+l.length≤j∧s8=.slice a' m c' ∧
    Box (Own w.heap.size wq [WtO w.heap.size l,RowP 3 1 a' m c' xs]∧Below w.heap.size w wq∧(∀p∈l,p.2=cntE hs (keysA l) p.1)∧∀i∈keysA l,i<j∧(hs.getD i default).done=true))
   case atStart=>exact ⟨l,0,none,0,[],hll,by omega,rfl,⟨O1.out,B1.out,HW.out,HK.out⟩⟩
   clear hll O1 B1 HW HK l
   case round =>
    obtain ⟨l,m,a',c',xs,hg,hml,rfl,HL⟩:=hrel
    have hln:=(HL.out.1.map 0 rfl).1.len und_mii 3
    have HND:=Box.mk (HL.out.1.map 0 rfl).1.nodup
    by_cases hl0:l=[]
    ·subst hl0
     go_wp2_with fail
     go_ret2
     exact ⟨HL.out.2.1,_,true,rfl,fun _=>rfl⟩
    ·have hpos:0<l.length:=List.length_pos_iff.2 hl0
     have HNE:=Box.mk hl0
     clear hl0
     obtain ⟨o,hrg,O2,hb2⟩:=HL.out.1.rangeM und_mii 0 rfl
     have B2:=Box.mk (HL.out.2.1.trans hb2)
     have O2:=Box.mk (show Own w.heap.size _ [WtR w.heap.size wr.heap.size l [],RowP 3 1 a' m c' xs] from O2)
     have HP:=Box.mk HL.out.2.2
     clear HL hb2
     go_wp2_with fail
     clear hrg hln
     generalize wr.alloc o=w2 at *
     generalize wr.heap.size=r at *
     go_loopg [9,10,11] l.length (fun gg s9 _ _ wz=>∃ (S:List Nat) (nx:Int),leftA l S≤gg∧s9=.int .i64 nx ∧
      Box (Own w.heap.size wz [WtR w.heap.size r l S,RowP 3 1 a' m c' xs]∧Below w.heap.size w wz∧(nx<0→∀p∈l,p.1∈S→p.2≠0)∧(0≤nx→∃y:Nat,nx=(y:Int)∧(y,0)∈l)))
     case atStart=>exact ⟨[],-1,leftA_le _ _,rfl,⟨O2.out,B2.out,fun _ p _ h=>by simp at h,fun h=>by omega⟩⟩
     clear O2 B2
     case round =>
      obtain ⟨S,nx,hg4,rfl,HI⟩:=hrel
      rcases HI.out.1.wnext 0 rfl with ⟨hall,hnx⟩ | ⟨y,v,w3,hym,hyS,hnx,O3,hb3,hen⟩
      ·by_cases hneg:nx<0
       ·have HF:=Box.mk (show ¬ KOk hs j from fun hk=>by
         obtain ⟨y,hy,h0⟩:=hk (keysA l) (fun e=>HNE.out (by cases l with | nil=>rfl | cons _ _=>simp [keysA] at e)) HP.out.2
         obtain ⟨p,hp,rfl⟩:=List.mem_map.1 hy
         exact HI.out.2.2.1 hneg p hp (hall p hp) (by rw [HP.out.1 p hp];exact cntE_zero h0))
        have BI:=Box.mk HI.out.2.1
        clear hall HI
        go_wp2_with fail
        go_ret2
        exact ⟨BI.out,_,false,rfl,fun h=>absurd h HF.out⟩
       ·obtain ⟨y,rfl,hym⟩:=HI.out.2.2.2 (by omega)
        have hky:=HP.out.2 y (mem_keysA_of hym)
        have hyj:=hky.1
        obtain ⟨w4,hdel,O4,hb4⟩:=(HI.out.1.unrange 0 rfl).wdel 0 rfl (j:=y) (by omega)
        have O4:=Box.mk (show Own w.heap.size w4 [WtO w.heap.size (delA l y),RowP 3 1 a' m c' xs] from O4)
        have B4:=Box.mk (HI.out.2.1.trans hb4)
        have HDL:=Box.mk (show (delA l y).length+1=l.length from by
         have h:=keysA_delA l y
         have h2:=List.length_erase_of_mem (mem_keysA_of hym)
         rw [← h] at h2
         simp only [keysA,List.length_map] at h2
         omega)
        have HDK:=Box.mk (show ∀p∈delA l y,p.2=cntE hs (keysA (delA l y)) p.1+(if edgeI hs y p.1=0 then 0 else 1) from fun p hp=>by
         have hp2:=((mem_delA HND.out).1 hp).1
         rw [HP.out.1 p hp2,keysA_delA,cntE_erase (mem_keysA_of hym),Int.sub_add_cancel])
        have HDD:=Box.mk (show ∀i∈keysA (delA l y),i<j∧(hs.getD i default).done=true from fun i hi=>HP.out.2 i (by rw [keysA_delA] at hi;exact List.mem_of_mem_erase hi))
        obtain ⟨o5,hrg,O5,hb5⟩:=O4.out.rangeM und_mii 0 rfl
        have O5:=Box.mk (show Own w.heap.size _ [WtR w.heap.size w4.heap.size (delA l y) [],RowP 3 1 a' m c' xs] from O5)
        have B5:=Box.mk (B4.out.trans hb5)
        clear hall HI hb4 hb5 O4 B4 hym hky
        go_wp2_with fail
        clear hdel hrg hnx
        generalize w4.alloc o5=w5 at *
        generalize w4.heap.size=r5 at *
        go_loopg [12] l.length (fun gg _ wz=>∃ (S:List Nat) (l5:List (Nat×Int)),leftA l5 S≤gg∧Box (Own w.heap.size wz [WtR w.heap.size r5 l5 S,RowP 3 1 a' m c' xs]∧Below w.heap.size w wz∧keysA l5=keysA (delA l y) ∧
         ∀p∈l5,p.2=cntE hs (keysA (delA l y)) p.1+(if p.1∈S∨edgeI hs y p.1=0 then 0 else 1)))
        case atStart=>exact ⟨[],delA l y,by have:=leftA_le (delA l y) [];have:=HDL.out;omega,⟨O5.out,B5.out,rfl,fun p hp=>by rw [HDK.out p hp];simp⟩⟩
        clear O5 B5
        case round =>
         obtain ⟨S5,l5,hg5,HI⟩:=hrel
         rcases HI.out.1.wnext 0 rfl with ⟨hall,hnx⟩ | ⟨z,v,w6,hzm,hzS,hnx,O6,hb6,hen⟩
         ·have O7:=Box.mk (HI.out.1.unrange 0 rfl)
          have B7:=Box.mk HI.out.2.1
          have HV:=Box.mk (show ∀p∈l5,p.2=cntE hs (keysA l5) p.1 from fun p hp=>by rw [HI.out.2.2.2 p hp,if_pos (.inl (hall p hp)),HI.out.2.2.1];omega)
          have HKK:=Box.mk HI.out.2.2.1
          have HLL:=Box.mk (show l5.length+1=l.length from by
           have h:=congrArg List.length HKK.out
           simp only [keysA,List.length_map] at h
           rw [h];exact HDL.out)
          have hll5:=HLL.out
          clear hall HI
          go_wp2_with (at_builtin;refine wpList_append_O rfl _ _ 44 44 rfl sl_int (.inl sl_int.ht) (O7.out.alloc _) 1 rfl rfl rfl (Src.oneNew _ _ _ rfl) (by omega) (by unfold maxLen;omega) ?_;intro a9 c9 w9 O9 hb9)
          go_roundg (l.length - 1)
          case measure=>omega
          case rel=>exact ⟨l5,m+1,a9,c9,_,by omega,by omega,rfl,⟨O9,(B7.out.alloc (B7.out.size) _).trans hb9,HV.out,fun i hi=>HDD.out i (by rw [← HKK.out];exact hi)⟩⟩
         ·have hkz:z∈keysA (delA l y):=by rw [← HI.out.2.2.1];exact mem_keysA_of hzm
          have hzj:=(HDD.out z hkz).1
          have B6:=Box.mk (HI.out.2.1.trans hb6)
          have O6:=Box.mk (show Own w.heap.size w6 [WtR w.heap.size r5 l5 (z::S5),RowP 3 1 a' m c' xs] from O6)
          have hlt6:=leftA_lt (mem_keysA_of hzm) hzS
          have HN5:=Box.mk (HI.out.1.mapR 0 rfl).map.nodup
          have HI5:=Box.mk (And.intro HI.out.2.2.1 HI.out.2.2.2)
          have HZ:=Box.mk (And.intro hzm hzS)
          obtain ⟨ge,rr,e0,e1,e2,e3⟩:=(HG.out.below B6.out).edge (i:=y) (j:=z) hyj hzj
          clear hb6 HI hzm hzS hkz
          go_upto_region 28 with fail
          clear hnx hen
          obtain ⟨ev,hev⟩:∃ev,edgeI hs y z=ev:=⟨_,rfl⟩
          rw [hev] at e3
          by_cases hv0:ev=0
          ·have t2:(ev != 0)=false:=by simp [hv0]
           have HE:=Box.mk (show edgeI hs y z=0 by rw [hev,hv0])
           clear hev hv0
           go_wp2_with fail
           go_roundg (leftA l5 (z::S5))
           case measure=>omega
           case rel=>exact ⟨z::S5,l5,Nat.le_refl _,⟨O6.out,B6.out,HI5.out.1,fun p hp=>by
            rw [HI5.out.2 p hp]
            by_cases e:p.1=z
            ·rw [e,if_pos (.inr HE.out),if_pos (.inr HE.out)]
            ·simp [e]⟩⟩
          ·have t2:(ev != 0)=true:=by simp [hv0]
           have HE:=Box.mk (show edgeI hs y z≠0 by rw [hev];exact hv0)
           have HVV:=Box.mk (show v=cntE hs (keysA (delA l y)) z+1 by
            have h:=HI5.out.2 _ HZ.out.1
            rw [if_neg (fun e=>by rcases e with e | e;exact HZ.out.2 e;exact HE.out e)] at h
            exact h)
           have hvb:0≤v∧v≤1000000:=by
            have h1:=cntE_le hs (keysA (delA l y)) z
            have h2:=HVV.out
            have h3:(keysA (delA l y)).length=(delA l y).length:=by simp [keysA]
            have h4:=HDL.out
            omega
           have hv1:=hvb.1
           have hv2:=hvb.2
           have hlook:=O6.out.wlookR 0 rfl (j:=z) (by omega) (getA_of_mem HN5.out HZ.out.1)
           obtain ⟨w7,hrun,O7,hb7⟩:=O6.out.wputR 0 rfl (j:=z) (mem_keysA_of HZ.out.1) (by omega) (v - 1)
           have O7:=Box.mk (show Own w.heap.size w7 [WtR w.heap.size r5 (putA l5 z (v - 1)) (z::S5),RowP 3 1 a' m c' xs] from O7)
           have B7:=Box.mk (B6.out.trans hb7)
           clear hev hv0 hb7 hvb O6 B6
           go_wp2_with fail
           go_roundg (leftA l5 (z::S5))
           case measure=>omega
           case rel=>exact ⟨z::S5,putA l5 z (v - 1),Nat.le_of_eq (leftA_put (mem_keysA_of HZ.out.1) _ _),⟨O7.out,B7.out,by rw [keysA_putA_mem (mem_keysA_of HZ.out.1)];exact HI5.out.1,fun p hp=>by
            have hg:=getA_of_mem (putA_nodup HN5.out z (v - 1)) (show (p.1,p.2)∈putA l5 z (v - 1) from hp)
            rw [getA_putA] at hg
            by_cases e:z=p.1
            ·rw [if_pos e] at hg
             have:p.2=v - 1:=by simpa using hg.symm
             rw [this,HVV.out,← e,if_pos (.inl (by simp))];omega
            ·rw [if_neg e] at hg
             rw [HI5.out.2 _ (getA_mem hg)]
             simp [Ne.symm e]⟩⟩
      ·have O3:=Box.mk (show Own w.heap.size w3 [WtR w.heap.size r l (y::S),RowP 3 1 a' m c' xs] from O3)
       have B3:=Box.mk (HI.out.2.1.trans hb3)
       have hlt3:=leftA_lt (mem_keysA_of hym) hyS
       have HI3:=Box.mk HI.out.2.2
       have HY:=Box.mk hym
       clear hb3 HI hyS hym
       go_upto_region 20 with fail
       clear hnx hen
       by_cases hv:v=0
       ·have t1:(v==0)=true:=by simp [hv]
        have HY0:=Box.mk (show (y,0)∈l by rw [← hv];exact HY.out)
        clear hv
        by_cases hneg:nx<0
        ·have t2:decide (nx<0)=true:=decide_eq_true hneg
         clear hneg
         go_wp2_with fail
         go_roundg (leftA l (y::S))
         case measure=>omega
         case rel=>exact ⟨y::S,y,Nat.le_refl _,rfl,⟨O3.out,B3.out,fun h=>by omega,fun _=>⟨y,rfl,HY0.out⟩⟩⟩
        ·have t2:decide (nx<0)=false:=decide_eq_false hneg
         by_cases hlt2:(y:Int)<nx
         ·have t3:decide ((y:Int)<nx)=true:=decide_eq_true hlt2
          clear hneg hlt2
          go_wp2_with fail
          go_roundg (leftA l (y::S))
          case measure=>omega
          case rel=>exact ⟨y::S,y,Nat.le_refl _,rfl,⟨O3.out,B3.out,fun h=>by omega,fun _=>⟨y,rfl,HY0.out⟩⟩⟩
         ·have t3:decide ((y:Int)<nx)=false:=decide_eq_false hlt2
          have HN:=Box.mk hneg
          clear hneg hlt2
          go_wp2_with fail
          go_roundg (leftA l (y::S))
          case measure=>omega
          case rel=>exact ⟨y::S,nx,Nat.le_refl _,rfl,⟨O3.out,B3.out,fun h=>by have:=HN.out;omega,HI3.out.2⟩⟩
       ·have t1:(v==0)=false:=by simp [hv]
        have HV0:=Box.mk hv
        clear hv
        go_wp2_with fail
        go_roundg (leftA l (y::S))
        case measure=>omega
        case rel=>exact ⟨y::S,nx,Nat.le_refl _,rfl,⟨O3.out,B3.out,fun h p hp hpS=>by
         rcases List.mem_cons.1 hpS with e | e
         ·have h1:=getA_of_mem HND.out (show (p.1,p.2)∈l from hp)
          have h2:=getA_of_mem HND.out HY.out
          rw [e,h2] at h1
          have:v=p.2:=by simpa using h1
          rw [← this];exact HV0.out
         ·exact HI3.out.1 h p hp e,HI3.out.2⟩⟩
end
end Go.Proofs.YtlfghapllmaigaaGreatDoor
