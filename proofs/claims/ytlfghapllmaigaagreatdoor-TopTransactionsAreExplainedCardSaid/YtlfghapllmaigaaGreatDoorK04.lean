/-
  The walk of conflict.of at integers; The records of histories: writes, versions, rows, events; predicates on the members of a list; The walks of IndexFunc and ContainsFunc by a predicate on the members of the list; The walk of conflict's meets; The walk of conflict.Check at a history that is right. Conditions: each theorem's own hypotheses.
-/
import Derived.Test.YtlfghapllmaigaaGreatDoorK03
import Derived.Test.YtlfghapllmaigaaGreatDoorK02
namespace Go.Proofs.YtlfghapllmaigaaGreatDoor
section
open Go.RowKit Go.Maps
theorem und_set:Tryz.prog.underlying 113=some (.map 3 4):=by kernel_rfl
theorem und_int:Tryz.prog.underlying 3=some (.int .i64):=by kernel_rfl
theorem und_bool:Tryz.prog.underlying 4=some .bool:=by kernel_rfl
def RetSet (ks:List Int) (w:World) (e:Ending) (w':World):Prop:=Below w.heap.size w w'∧∃b,w.heap.size≤b∧e=.returned (.map (some b))∧SetM Tryz.prog 3 4 w' b ks
set_option maxRecDepth 20000 in
set_option maxHeartbeats 2000000 in
theorem of_any {l:List Int} {a:Option Addr} {n c:Nat} {w:World} (hr:Rd w a n c 1 (intVals l)) (hd:l.Nodup) (h64:∀x∈l,In64 x):Calls Tryz.prog 46 #[.slice a n c] w (RetSet l w):=by
 have hln:=hr.ilen
 have hmx:=hr.lenMax
 have HR:=Box.mk hr
 have HD:=Box.mk (And.intro hd h64)
 have HM:=Box.mk (SetM.made (P:=Tryz.prog) (k:=3) (e:=4) w)
 have HB:=Box.mk ((Below.refl w.heap.size w).alloc (Nat.le_refl _) (.map #[] 0))
 clear hr hd h64
 have hmm:=@run_makeMap Tryz.prog
 go_enter Tryz.func46,Tryz.ntmps46
 go_wp2_with fail
 go_loopw [9] (fun i wr=>∃k:Nat,k≤n∧i=.int .i64 k∧Box (SetM Tryz.prog 3 4 wr w.heap.size (l.take k)∧Below w.heap.size w wr)) (fun i _=>n - (intOf i).toNat)
 case atStart=>exact ⟨0,Nat.zero_le _,rfl,⟨HM.out,HB.out⟩⟩
 case round =>
  obtain ⟨k,hk,rfl,HK⟩:=hrel
  by_cases hlt:k<n
  ·obtain ⟨g,off,rfl,hc0⟩:=HR.out.intAtD k hlt
   have hc:=(HK.out.2.cell (p:=⟨g,off+k,none⟩) (cell_block_lt hc0)).trans hc0
   have htk:l.take (k+1)=l.take k++[l.getD k 0]:=by rw [List.take_add_one,List.getElem?_eq_getElem (by omega),List.getD_eq_getElem?_getD,List.getElem?_eq_getElem (by omega)];rfl
   have hx:In64 (l.getD k 0):=HD.out.2 _ (by rw [List.getD_eq_getElem?_getD,List.getElem?_eq_getElem (by omega)];exact List.getElem_mem _)
   have hnew:l.getD k 0∉l.take k:=fun hm=>by
    have hn2:=HD.out.1
    have h2:(l.take (k+1)).Nodup:=(List.take_sublist _ _).nodup hn2
    rw [htk,List.nodup_append] at h2
    exact h2.2.2 _ hm _ (by simp) rfl
   obtain ⟨w',hrun,hset,htu⟩:=HK.out.1.store und_int und_bool und_set hx hnew (by unfold maxLen;rw [List.length_take];omega)
   have H2:=Box.mk (And.intro (htk▸hset) htu)
   generalize l.getD k 0=x at *
   clear hc0 hset htu hnew hx htk
   go_wp2_with fail
   exact ⟨⟨k+1,by omega,by go_num,⟨H2.out.1,((But.ofBelow (F:=[]) HK.out.2).turned H2.out.2 (.inr (Nat.le_refl _))).toBelow (Nat.le_refl _) (by simp)⟩⟩,by simp [intOf];omega⟩
  ·obtain rfl:k=n:=by omega
   have hz:=HK.out.1
   rw [List.take_of_length_le (by omega)] at hz
   have HZ:=Box.mk hz
   clear hz
   go_wp2_with fail
   go_ret
   exact ⟨HK.out.2,w.heap.size,Nat.le_refl _,rfl,HZ.out⟩
end
section
open Go.RowKit
structure WrP where
 table:Int
 row:Int
 dead:Bool
 va:Option Addr
 vc:Nat
 vals:List Val
 deriving Inhabited
def WrP.enc (x:WrP):List Value:=[.int .i64 x.table,.int .i64 x.row,.bool x.dead,.slice x.va x.vals.length x.vc]
def WrP.v (x:WrP):Value:=.agg #[.int .i64 x.table,.int .i64 x.row,.bool x.dead,.slice x.va x.vals.length x.vc]
theorem WrP.enc_len (x:WrP):x.enc.length=4:=rfl
theorem WrP.enc_one (x:WrP):∀u∈x.enc,u.oneCell'=true:=by intro u hu;simp [WrP.enc] at hu;rcases hu with rfl | rfl | rfl | rfl<;>rfl
structure VerP where
 row:Int
 stamp:Int
 dead:Bool
 va:Option Addr
 vc:Nat
 vals:List Val
 deriving Inhabited
def VerP.enc (x:VerP):List Value:=[.int .i64 x.row,.int .i64 x.stamp,.bool x.dead,.slice x.va x.vals.length x.vc]
def VerP.v (x:VerP):Value:=.agg #[.int .i64 x.row,.int .i64 x.stamp,.bool x.dead,.slice x.va x.vals.length x.vc]
theorem VerP.enc_len (x:VerP):x.enc.length=4:=rfl
theorem VerP.enc_one (x:VerP):∀u∈x.enc,u.oneCell'=true:=by intro u hu;simp [VerP.enc] at hu;rcases hu with rfl | rfl | rfl | rfl<;>rfl
structure HdP where
 table:Int
 row:Int
 stamp:Int
 va:Option Addr
 vc:Nat
 vals:List Val
 deriving Inhabited
def HdP.enc (x:HdP):List Value:=[.int .i64 x.table,.int .i64 x.row,.int .i64 x.stamp,.slice x.va x.vals.length x.vc]
def HdP.v (x:HdP):Value:=.agg #[.int .i64 x.table,.int .i64 x.row,.int .i64 x.stamp,.slice x.va x.vals.length x.vc]
theorem HdP.enc_len (x:HdP):x.enc.length=4:=rfl
theorem HdP.enc_one (x:HdP):∀u∈x.enc,u.oneCell'=true:=by intro u hu;simp [HdP.enc] at hu;rcases hu with rfl | rfl | rfl | rfl<;>rfl
structure HpP where
 kind:Int
 tx:Int
 stamp:Int
 wa:Option Addr
 wc:Nat
 writes:List WrP
 ra:Option Addr
 rc:Nat
 rows:List HdP
 deriving Inhabited
def HpP.enc (x:HpP):List Value:=[.int .i64 x.kind,.int .i64 x.tx,.int .i64 x.stamp,.slice x.wa x.writes.length x.wc,.slice x.ra x.rows.length x.rc]
def HpP.v (x:HpP):Value:=.agg #[.int .i64 x.kind,.int .i64 x.tx,.int .i64 x.stamp,.slice x.wa x.writes.length x.wc,.slice x.ra x.rows.length x.rc]
theorem HpP.enc_len (x:HpP):x.enc.length=5:=rfl
theorem AccP.cs_len (x:AccP):x.cs.length=6:=rfl
theorem AccP.cs_one (x:AccP):∀u∈x.cs,u.oneCell'=true:=by intro u hu;simp [AccP.cs] at hu;rcases hu with rfl | rfl | rfl | rfl | rfl | rfl<;>rfl
theorem aggWr:AggT Tryz.prog 90 4:=⟨by kernel_rfl,by kernel_rfl⟩
theorem aggVer:AggT Tryz.prog 93 4:=⟨by kernel_rfl,by kernel_rfl⟩
theorem aggHd:AggT Tryz.prog 136 4:=⟨by kernel_rfl,by kernel_rfl⟩
theorem aggHp:AggT Tryz.prog 84 5:=⟨by kernel_rfl,by kernel_rfl⟩
theorem aggAcc:AggT Tryz.prog 102 6:=⟨by kernel_rfl,by kernel_rfl⟩
def PredM {α:Type} (g:Nat) (lb:Array Value) (enc:α→Value) (p:α→Bool) (zs:List α) (w:World):Prop :=
 ∀ (W:World) (x:α),x∈zs→Below w.heap.size w W→Calls Tryz.prog g (#[enc x]++lb) W (RetV (.bool (p x)) W)
end
section
open Go.RowKit
set_option maxRecDepth 20000 in
set_option maxHeartbeats 2000000 in
theorem nIdxM (p:Int→Bool) (g:Nat) (lb:Array Value) (eg:∀args w,(callFunc g args).run Tryz.prog w=.ok (.enter g args) w) (zs:List Int) (a:Option Addr) (n cap:Nat) (w:World)
  (hr:Rd w a n cap 1 (intVals zs)) (hp:PredM g lb intV p zs w) :
  Calls Tryz.prog 128 #[.slice a n cap,.func (.func g) #[] lb] w (RetV (.int .i64 (idxP p zs)) w):=by
 have hln:=hr.ilen
 have hmax:=hr.lenMax
 have R:=Box.mk hr;clear hr
 have HP:=Box.mk hp;clear hp
 go_enter Tryz.func128,Tryz.ntmps128
 go_wp2_with fail
 go_loopg [5,8] n (fun gg _ s8 wr=>∃k:Nat,k≤n∧n - k≤gg∧s8=.int .i64 k∧Box (Below w.heap.size w wr)∧Box (∀j,j<k→p (zs.getD j default)=false))
 case atStart=>exact ⟨0,Nat.zero_le _,by omega,rfl,⟨Below.refl _ w⟩,⟨fun j hj=>by omega⟩⟩
 case round =>
  obtain ⟨k,hk,hg,rfl,BW,A⟩:=hrel
  by_cases hlt:k<n
  ·obtain ⟨b,off,rfl,hc⟩:=(R.out.below BW.out (Nat.le_refl _)).intAtD k hlt
   have hcall:=HP.out wr (zs.getD k default) (getD_mem (by omega)) BW.out
   cases hq:p (zs.getD k default) with
   | true =>
    have HI:=Box.mk (idxP_hit (p:=p) (l:=zs) (k:=k) A.out (by omega) hq)
    rw [hq] at hcall
    have hz:zs.getD k 0=zs.getD k default:=rfl
    rw [hz] at hc
    generalize zs.getD k default=y at *
    clear hq
    simp only [intV] at hcall
    go_wp2_with fail
    refine hcall.mono ?_
    rintro e w' ⟨rfl,hb'⟩
    clear hcall
    go_wp2_with fail
    go_ret
    exact ⟨by rw [HI.out];rfl,BW.out.trans (hb'.mono BW.out.size)⟩
   | false =>
    have HI:=Box.mk (show ∀j,j<k+1→p (zs.getD j default)=false from fun j hj=>by
     by_cases e:j=k
     ·subst e;exact hq
     ·exact A.out j (by omega))
    rw [hq] at hcall
    have hz:zs.getD k 0=zs.getD k default:=rfl
    rw [hz] at hc
    generalize zs.getD k default=y at *
    clear hq
    simp only [intV] at hcall
    go_wp2_with fail
    refine hcall.mono ?_
    rintro e w' ⟨rfl,hb'⟩
    clear hcall
    go_wp2_with fail
    go_roundg (n - (k+1))
    case measure=>omega
    case rel=>exact ⟨k+1,by omega,by omega,by go_num,⟨BW.out.trans (hb'.mono BW.out.size)⟩,HI⟩
  ·have hkn:k=n:=by omega
   have HI:=Box.mk (idxP_miss (p:=p) (l:=zs) (fun j hj=>A.out j (by omega)))
   go_wp2_with fail
   go_ret
   exact ⟨by rw [HI.out];rfl,BW.out⟩
set_option maxRecDepth 20000 in
set_option maxHeartbeats 2000000 in
theorem nAnyM (p:Int→Bool) (g:Nat) (lb:Array Value) (eg:∀args w,(callFunc g args).run Tryz.prog w=.ok (.enter g args) w) (zs:List Int) (a:Option Addr) (n cap:Nat) (w:World)
  (hr:Rd w a n cap 1 (intVals zs)) (hp:PredM g lb intV p zs w) :
  Calls Tryz.prog 76 #[.slice a n cap,.func (.func g) #[] lb] w (RetV (.bool (zs.any p)) w):=by
 have HC:=Box.mk (nIdxM p g lb eg zs a n cap w hr hp)
 have HD:=idxP_nonneg p zs
 generalize idxP p zs=i at *
 generalize zs.any p=d at *
 go_enter Tryz.func76,Tryz.ntmps76
 go_wp2_with fail
 refine HC.out.mono ?_
 rintro e w1 ⟨rfl,hb⟩
 go_wp2_with fail
 go_ret
 exact ⟨by first | rfl | rw [HD],hb⟩
set_option maxRecDepth 20000 in
set_option maxHeartbeats 2000000 in
theorem wrIdxM (p:WrP→Bool) (g:Nat) (lb:Array Value) (eg:∀args w,(callFunc g args).run Tryz.prog w=.ok (.enter g args) w) (zs:List WrP) (a:Option Addr) (n cap:Nat) (w:World)
  (hr:Rd w a n cap 4 (recC WrP.enc zs)) (hp:PredM g lb WrP.v p zs w) :
  Calls Tryz.prog 41 #[.slice a n cap,.func (.func g) #[] lb] w (RetV (.int .i64 (idxP p zs)) w):=by
 have hln:=hr.rlen WrP.enc_len (by omega)
 have hmax:=hr.lenMax
 have R:=Box.mk hr;clear hr
 have HP:=Box.mk hp;clear hp
 go_enter Tryz.func41,Tryz.ntmps41
 go_wp2_with fail
 go_loopg [5,8] n (fun gg _ s8 wr=>∃k:Nat,k≤n∧n - k≤gg∧s8=.int .i64 k∧Box (Below w.heap.size w wr)∧Box (∀j,j<k→p (zs.getD j default)=false))
 case atStart=>exact ⟨0,Nat.zero_le _,by omega,rfl,⟨Below.refl _ w⟩,⟨fun j hj=>by omega⟩⟩
 case round =>
  obtain ⟨k,hk,hg,rfl,BW,A⟩:=hrel
  by_cases hlt:k<n
  ·obtain ⟨b,off,rfl,hb,hc⟩:=(R.out.below BW.out (Nat.le_refl _)).recAt WrP.enc_len (by omega) k hlt
   have hcall:=HP.out wr (zs.getD k default) (getD_mem (by omega)) BW.out
   cases hq:p (zs.getD k default) with
   | true =>
    have HI:=Box.mk (idxP_hit (p:=p) (l:=zs) (k:=k) A.out (by omega) hq)
    rw [hq] at hcall
    generalize zs.getD k default=y at *
    obtain ⟨yt,yr,yd,ya,yc,yl⟩:=y
    have c0:=hc 0 _ rfl
    have c1:=hc 1 _ rfl
    have c2:=hc 2 _ rfl
    have c3:=hc 3 _ rfl
    clear hc hq
    simp only [WrP.v,Nat.add_zero] at hcall c0 c1 c2 c3
    generalize yl.length=ny at *
    go_wp2_with fail
    refine hcall.mono ?_
    rintro e w' ⟨rfl,hb'⟩
    clear hcall
    go_wp2_with fail
    go_ret
    exact ⟨by rw [HI.out];rfl,BW.out.trans (hb'.mono BW.out.size)⟩
   | false =>
    have HI:=Box.mk (show ∀j,j<k+1→p (zs.getD j default)=false from fun j hj=>by
     by_cases e:j=k
     ·subst e;exact hq
     ·exact A.out j (by omega))
    rw [hq] at hcall
    generalize zs.getD k default=y at *
    obtain ⟨yt,yr,yd,ya,yc,yl⟩:=y
    have c0:=hc 0 _ rfl
    have c1:=hc 1 _ rfl
    have c2:=hc 2 _ rfl
    have c3:=hc 3 _ rfl
    clear hc hq
    simp only [WrP.v,Nat.add_zero] at hcall c0 c1 c2 c3
    generalize yl.length=ny at *
    go_wp2_with fail
    refine hcall.mono ?_
    rintro e w' ⟨rfl,hb'⟩
    clear hcall
    go_wp2_with fail
    go_roundg (n - (k+1))
    case measure=>omega
    case rel=>exact ⟨k+1,by omega,by omega,by go_num,⟨BW.out.trans (hb'.mono BW.out.size)⟩,HI⟩
  ·have hkn:k=n:=by omega
   have HI:=Box.mk (idxP_miss (p:=p) (l:=zs) (fun j hj=>A.out j (by omega)))
   go_wp2_with fail
   go_ret
   exact ⟨by rw [HI.out];rfl,BW.out⟩
set_option maxRecDepth 20000 in
set_option maxHeartbeats 2000000 in
theorem wrAnyM (p:WrP→Bool) (g:Nat) (lb:Array Value) (eg:∀args w,(callFunc g args).run Tryz.prog w=.ok (.enter g args) w) (zs:List WrP) (a:Option Addr) (n cap:Nat) (w:World)
  (hr:Rd w a n cap 4 (recC WrP.enc zs)) (hp:PredM g lb WrP.v p zs w) :
  Calls Tryz.prog 102 #[.slice a n cap,.func (.func g) #[] lb] w (RetV (.bool (zs.any p)) w):=by
 have HC:=Box.mk (wrIdxM p g lb eg zs a n cap w hr hp)
 have HD:=idxP_nonneg p zs
 generalize idxP p zs=i at *
 generalize zs.any p=d at *
 go_enter Tryz.func102,Tryz.ntmps102
 go_wp2_with fail
 refine HC.out.mono ?_
 rintro e w1 ⟨rfl,hb⟩
 go_wp2_with fail
 go_ret
 exact ⟨by first | rfl | rw [HD],hb⟩
set_option maxRecDepth 20000 in
set_option maxHeartbeats 2000000 in
theorem hdIdxM (p:HdP→Bool) (g:Nat) (lb:Array Value) (eg:∀args w,(callFunc g args).run Tryz.prog w=.ok (.enter g args) w) (zs:List HdP) (a:Option Addr) (n cap:Nat) (w:World)
  (hr:Rd w a n cap 4 (recC HdP.enc zs)) (hp:PredM g lb HdP.v p zs w) :
  Calls Tryz.prog 120 #[.slice a n cap,.func (.func g) #[] lb] w (RetV (.int .i64 (idxP p zs)) w):=by
 have hln:=hr.rlen HdP.enc_len (by omega)
 have hmax:=hr.lenMax
 have R:=Box.mk hr;clear hr
 have HP:=Box.mk hp;clear hp
 go_enter Tryz.func120,Tryz.ntmps120
 go_wp2_with fail
 go_loopg [5,8] n (fun gg _ s8 wr=>∃k:Nat,k≤n∧n - k≤gg∧s8=.int .i64 k∧Box (Below w.heap.size w wr)∧Box (∀j,j<k→p (zs.getD j default)=false))
 case atStart=>exact ⟨0,Nat.zero_le _,by omega,rfl,⟨Below.refl _ w⟩,⟨fun j hj=>by omega⟩⟩
 case round =>
  obtain ⟨k,hk,hg,rfl,BW,A⟩:=hrel
  by_cases hlt:k<n
  ·obtain ⟨b,off,rfl,hb,hc⟩:=(R.out.below BW.out (Nat.le_refl _)).recAt HdP.enc_len (by omega) k hlt
   have hcall:=HP.out wr (zs.getD k default) (getD_mem (by omega)) BW.out
   cases hq:p (zs.getD k default) with
   | true =>
    have HI:=Box.mk (idxP_hit (p:=p) (l:=zs) (k:=k) A.out (by omega) hq)
    rw [hq] at hcall
    generalize zs.getD k default=y at *
    obtain ⟨yt,yr,ys,ya,yc,yl⟩:=y
    have c0:=hc 0 _ rfl
    have c1:=hc 1 _ rfl
    have c2:=hc 2 _ rfl
    have c3:=hc 3 _ rfl
    clear hc hq
    simp only [HdP.v,Nat.add_zero] at hcall c0 c1 c2 c3
    generalize yl.length=ny at *
    go_wp2_with fail
    refine hcall.mono ?_
    rintro e w' ⟨rfl,hb'⟩
    clear hcall
    go_wp2_with fail
    go_ret
    exact ⟨by rw [HI.out];rfl,BW.out.trans (hb'.mono BW.out.size)⟩
   | false =>
    have HI:=Box.mk (show ∀j,j<k+1→p (zs.getD j default)=false from fun j hj=>by
     by_cases e:j=k
     ·subst e;exact hq
     ·exact A.out j (by omega))
    rw [hq] at hcall
    generalize zs.getD k default=y at *
    obtain ⟨yt,yr,ys,ya,yc,yl⟩:=y
    have c0:=hc 0 _ rfl
    have c1:=hc 1 _ rfl
    have c2:=hc 2 _ rfl
    have c3:=hc 3 _ rfl
    clear hc hq
    simp only [HdP.v,Nat.add_zero] at hcall c0 c1 c2 c3
    generalize yl.length=ny at *
    go_wp2_with fail
    refine hcall.mono ?_
    rintro e w' ⟨rfl,hb'⟩
    clear hcall
    go_wp2_with fail
    go_roundg (n - (k+1))
    case measure=>omega
    case rel=>exact ⟨k+1,by omega,by omega,by go_num,⟨BW.out.trans (hb'.mono BW.out.size)⟩,HI⟩
  ·have hkn:k=n:=by omega
   have HI:=Box.mk (idxP_miss (p:=p) (l:=zs) (fun j hj=>A.out j (by omega)))
   go_wp2_with fail
   go_ret
   exact ⟨by rw [HI.out];rfl,BW.out⟩
set_option maxRecDepth 20000 in
set_option maxHeartbeats 2000000 in
theorem hdAnyM (p:HdP→Bool) (g:Nat) (lb:Array Value) (eg:∀args w,(callFunc g args).run Tryz.prog w=.ok (.enter g args) w) (zs:List HdP) (a:Option Addr) (n cap:Nat) (w:World)
  (hr:Rd w a n cap 4 (recC HdP.enc zs)) (hp:PredM g lb HdP.v p zs w) :
  Calls Tryz.prog 62 #[.slice a n cap,.func (.func g) #[] lb] w (RetV (.bool (zs.any p)) w):=by
 have HC:=Box.mk (hdIdxM p g lb eg zs a n cap w hr hp)
 have HD:=idxP_nonneg p zs
 generalize idxP p zs=i at *
 generalize zs.any p=d at *
 go_enter Tryz.func62,Tryz.ntmps62
 go_wp2_with fail
 refine HC.out.mono ?_
 rintro e w1 ⟨rfl,hb⟩
 go_wp2_with fail
 go_ret
 exact ⟨by first | rfl | rw [HD],hb⟩
set_option maxRecDepth 20000 in
set_option maxHeartbeats 2000000 in
theorem hpIdxM (p:HpP→Bool) (g:Nat) (lb:Array Value) (eg:∀args w,(callFunc g args).run Tryz.prog w=.ok (.enter g args) w) (zs:List HpP) (a:Option Addr) (n cap:Nat) (w:World)
  (hr:Rd w a n cap 5 (recC HpP.enc zs)) (hp:PredM g lb HpP.v p zs w) :
  Calls Tryz.prog 122 #[.slice a n cap,.func (.func g) #[] lb] w (RetV (.int .i64 (idxP p zs)) w):=by
 have hln:=hr.rlen HpP.enc_len (by omega)
 have hmax:=hr.lenMax
 have R:=Box.mk hr;clear hr
 have HP:=Box.mk hp;clear hp
 go_enter Tryz.func122,Tryz.ntmps122
 go_wp2_with fail
 go_loopg [5,8] n (fun gg _ s8 wr=>∃k:Nat,k≤n∧n - k≤gg∧s8=.int .i64 k∧Box (Below w.heap.size w wr)∧Box (∀j,j<k→p (zs.getD j default)=false))
 case atStart=>exact ⟨0,Nat.zero_le _,by omega,rfl,⟨Below.refl _ w⟩,⟨fun j hj=>by omega⟩⟩
 case round =>
  obtain ⟨k,hk,hg,rfl,BW,A⟩:=hrel
  by_cases hlt:k<n
  ·obtain ⟨b,off,rfl,hb,hc⟩:=(R.out.below BW.out (Nat.le_refl _)).recAt HpP.enc_len (by omega) k hlt
   have hcall:=HP.out wr (zs.getD k default) (getD_mem (by omega)) BW.out
   cases hq:p (zs.getD k default) with
   | true =>
    have HI:=Box.mk (idxP_hit (p:=p) (l:=zs) (k:=k) A.out (by omega) hq)
    rw [hq] at hcall
    generalize zs.getD k default=y at *
    obtain ⟨yk,yt,ys,ya,yc,yl,za,zc,zl⟩:=y
    have c0:=hc 0 _ rfl
    have c1:=hc 1 _ rfl
    have c2:=hc 2 _ rfl
    have c3:=hc 3 _ rfl
    have c4:=hc 4 _ rfl
    clear hc hq
    simp only [HpP.v,Nat.add_zero] at hcall c0 c1 c2 c3 c4
    generalize yl.length=ny at *
    generalize zl.length=nz at *
    go_wp2_with fail
    refine hcall.mono ?_
    rintro e w' ⟨rfl,hb'⟩
    clear hcall
    go_wp2_with fail
    go_ret
    exact ⟨by rw [HI.out];rfl,BW.out.trans (hb'.mono BW.out.size)⟩
   | false =>
    have HI:=Box.mk (show ∀j,j<k+1→p (zs.getD j default)=false from fun j hj=>by
     by_cases e:j=k
     ·subst e;exact hq
     ·exact A.out j (by omega))
    rw [hq] at hcall
    generalize zs.getD k default=y at *
    obtain ⟨yk,yt,ys,ya,yc,yl,za,zc,zl⟩:=y
    have c0:=hc 0 _ rfl
    have c1:=hc 1 _ rfl
    have c2:=hc 2 _ rfl
    have c3:=hc 3 _ rfl
    have c4:=hc 4 _ rfl
    clear hc hq
    simp only [HpP.v,Nat.add_zero] at hcall c0 c1 c2 c3 c4
    generalize yl.length=ny at *
    generalize zl.length=nz at *
    go_wp2_with fail
    refine hcall.mono ?_
    rintro e w' ⟨rfl,hb'⟩
    clear hcall
    go_wp2_with fail
    go_roundg (n - (k+1))
    case measure=>omega
    case rel=>exact ⟨k+1,by omega,by omega,by go_num,⟨BW.out.trans (hb'.mono BW.out.size)⟩,HI⟩
  ·have hkn:k=n:=by omega
   have HI:=Box.mk (idxP_miss (p:=p) (l:=zs) (fun j hj=>A.out j (by omega)))
   go_wp2_with fail
   go_ret
   exact ⟨by rw [HI.out];rfl,BW.out⟩
set_option maxRecDepth 20000 in
set_option maxHeartbeats 2000000 in
theorem hpAnyM (p:HpP→Bool) (g:Nat) (lb:Array Value) (eg:∀args w,(callFunc g args).run Tryz.prog w=.ok (.enter g args) w) (zs:List HpP) (a:Option Addr) (n cap:Nat) (w:World)
  (hr:Rd w a n cap 5 (recC HpP.enc zs)) (hp:PredM g lb HpP.v p zs w) :
  Calls Tryz.prog 68 #[.slice a n cap,.func (.func g) #[] lb] w (RetV (.bool (zs.any p)) w):=by
 have HC:=Box.mk (hpIdxM p g lb eg zs a n cap w hr hp)
 have HD:=idxP_nonneg p zs
 generalize idxP p zs=i at *
 generalize zs.any p=d at *
 go_enter Tryz.func68,Tryz.ntmps68
 go_wp2_with fail
 refine HC.out.mono ?_
 rintro e w1 ⟨rfl,hb⟩
 go_wp2_with fail
 go_ret
 exact ⟨by first | rfl | rw [HD],hb⟩
end
section
open Go.RowKit Go.Maps
def meetI (a b:List Int):Bool:=b.any fun x=>decide (x∈a)
set_option maxRecDepth 20000 in
set_option maxHeartbeats 2000000 in
theorem meetsF_any {w:World} {g b:Nat} {ks:List Int} (hs:SetM Tryz.prog 3 4 w b ks) (hg:w.cell? ⟨g,0,none⟩=some (.map (some b))) {x:Int} (hx:In64 x) :
  Calls Tryz.prog 114 #[.int .i64 x,.pointer (some ⟨g,0,none⟩)] w (RetV (.bool (decide (x∈ks))) w):=by
 have hrun:=hs.look (t:=113) und_int und_bool und_set (fun w=>by rfl) hx
 go_enter Tryz.func114,Tryz.ntmps114
 go_wp2_with fail
 go_ret
 exact ⟨rfl,Below.refl _ _⟩
theorem meets_enters (args:Array Value) (w:World):(callFunc 114 args).run Tryz.prog w=.ok (.enter 114 args) w:=enters_fn Tryz.func114 (by kernel_rfl) (by kernel_rfl) args w
set_option maxRecDepth 20000 in
set_option maxHeartbeats 2000000 in
theorem meets_any {w:World} {b:Nat} {ks zs:List Int} {a:Option Addr} {n c:Nat} (hs:SetM Tryz.prog 3 4 w b ks) (hr:Rd w a n c 1 (intVals zs)) (h64:∀x∈zs,In64 x) :
  Calls Tryz.prog 49 #[.map (some b),.slice a n c] w (RetV (.bool (meetI ks zs)) w):=by
 have H1:=Box.mk (And.intro (Blk.new (w:=w) (k:=w.heap.size) (ty:=113) (cs:=[.map (some b)]) rfl rfl) ((Below.refl w.heap.size w).alloc (Nat.le_refl _) (.cells #[.map (some b)] 113)))
 have HC:=Box.mk (nAnyM (fun x=>decide (x∈ks)) 114 #[.pointer (some ⟨w.heap.size,0,none⟩)] meets_enters zs a n c (w.alloc (.cells #[.map (some b)] 113)) (hr.below H1.out.2 (Nat.le_refl _)) (fun W x hx hW=>meetsF_any (hs.eq ((hW.mono (by simp)).block b hs.lt |>.trans (H1.out.2.block b hs.lt))) ((H1.out.1.below hW (Nat.le_refl _)).cellOf (i:=0) rfl) (h64 x hx)))
 clear hs hr h64
 go_enter Tryz.func49,Tryz.ntmps49
 go_wp2_with fail
 refine HC.out.mono ?_
 rintro e w1 ⟨rfl,hb⟩
 go_wp2_with fail
 go_ret
 exact ⟨rfl,H1.out.2.trans (hb.mono H1.out.2.size)⟩
end
section
open Go.RowKit Go.Maps
structure FormOk (x:AccP):Prop where
 mode:0≤x.mode∧x.mode≤2
 snap:0≤x.snap∧x.snap≤1073741824
 ar:ascB x.reads=true
 aw:ascB x.writes=true
 ro:x.mode=2→x.writes.length=0
 wr:x.wr=true→x.snap<x.stamp∧x.stamp≤1073741824
 nw:x.wr=false→x.stamp=0
theorem formB_ok {x:AccP}:formB x=true↔FormOk x:=by
 unfold formB
 constructor
 ·intro h
  split at h
  ·cases h
  ·rename_i h1
   split at h
   ·cases h
   ·rename_i h2
    have e:(¬ x.mode<0∧¬ 2<x.mode∧¬ x.snap<0∧¬ 1073741824<x.snap)∧ascB x.reads=true∧ascB x.writes=true:=by
     refine ⟨⟨fun e=>h1 (.inl e),fun e=>h1 (.inr (.inl e)),fun e=>h1 (.inr (.inr (.inl e))),fun e=>h1 (.inr (.inr (.inr (.inl e))))⟩,?_,?_⟩
     ·cases ha:ascB x.reads with
      | true=>rfl
      | false=>exact absurd (.inr (.inr (.inr (.inr (.inl ha))))) h1
     ·cases ha:ascB x.writes with
      | true=>rfl
      | false=>exact absurd (.inr (.inr (.inr (.inr (.inr ha))))) h1
    refine ⟨⟨by omega,by omega⟩,⟨by omega,by omega⟩,e.2.1,e.2.2,fun hm=>?_,fun hw=>?_,fun hw=>?_⟩
    ·have:¬ 0<x.writes.length:=fun h=>h2 ⟨hm,h⟩
     omega
    ·rw [if_pos hw,Bool.and_eq_true,decide_eq_true_eq,decide_eq_true_eq] at h;exact h
    ·rw [hw,if_neg (by decide),decide_eq_true_eq] at h;exact h
 ·intro h
  rw [if_neg (by have:=h.mode;have:=h.snap;rw [h.ar,h.aw];simp;omega),if_neg (fun e=>by have:=h.ro e.1;omega)]
  cases hw:x.wr with
  | true=>rw [if_pos rfl,decide_eq_true (h.wr hw).1,decide_eq_true (h.wr hw).2];rfl
  | false=>rw [if_neg (by decide),decide_eq_true (h.nw hw)]
theorem FormOk.stamp {x:AccP} (h:FormOk x):0≤x.stamp∧x.stamp≤1073741824:=by
 cases hw:x.wr with
 | true=>have:=h.wr hw;have:=h.snap;omega
 | false=>have:=h.nw hw;omega
theorem formed_is {x:AccP} {b:Bool} (h:formB x=b) {w:World} (hx:AccRd w x):Calls Tryz.prog 45 #[.agg #[.int .i64 x.mode,.int .i64 x.snap,.bool x.done,.int .i64 x.stamp,.slice x.ra x.reads.length x.rc,.slice x.wa x.writes.length x.wc]] w (RetV (.bool b) w):=by
 subst h;exact formed_any x w hx
theorem writesx_is {x:AccP} {b:Bool} (h:x.wr=b) (w:World):Calls Tryz.prog 47 #[.agg #[.int .i64 x.mode,.int .i64 x.snap,.bool x.done,.int .i64 x.stamp,.slice x.ra x.reads.length x.rc,.slice x.wa x.writes.length x.wc]] w (RetV (.bool b) w):=by
 subst h;exact writes_any x w
theorem concx_is {x y:AccP} {b:Bool} (h:conB x y=b) (w:World):Calls Tryz.prog 48 #[.agg #[.int .i64 x.mode,.int .i64 x.snap,.bool x.done,.int .i64 x.stamp,.slice x.ra x.reads.length x.rc,.slice x.wa x.writes.length x.wc],.agg #[.int .i64 y.mode,.int .i64 y.snap,.bool y.done,.int .i64 y.stamp,.slice y.ra y.reads.length y.rc,.slice y.wa y.writes.length y.wc]] w (RetV (.bool b) w):=by
 subst h;exact concurrent_any x y w
theorem asc_lt {l:List Int} (h:ascB l=true):∀k,k+1<l.length→l.getD k 0<l.getD (k+1) 0:=by
 intro k hk
 unfold ascB at h
 rw [List.all_eq_true] at h
 exact of_decide_eq_true (h k (List.mem_range.2 (by omega)))
theorem asc_pair {l:List Int} (h:ascB l=true):l.Pairwise (·<·):=by
 have key:∀d i,i+d+1<l.length→l.getD i 0<l.getD (i+d+1) 0:=by
  intro d
  induction d with
  | zero=>exact fun i hi=>asc_lt h i hi
  | succ d ih =>
  intro i hi
  have h1:=ih i (by omega)
  have h2:=asc_lt h (i+d+1) (by omega)
  have:i+(d+1)+1=i+d+1+1:=by omega
  rw [this]
  omega
 rw [List.pairwise_iff_getElem]
 intro i j hi hj hij
 have:=key (j - i - 1) i (by omega)
 rw [show i+(j - i - 1)+1=j by omega] at this
 rw [List.getD_eq_getElem?_getD,List.getD_eq_getElem?_getD,List.getElem?_eq_getElem hi,List.getElem?_eq_getElem hj] at this
 exact this
theorem asc_nodup {l:List Int} (h:ascB l=true):l.Nodup:=by
 unfold List.Nodup
 exact (asc_pair h).imp fun {a b} hab e=>by omega
structure HistRd (w:World) (a:Option Addr) (n c:Nat) (hs:List AccP):Prop where
 rd:Rd w a n c 6 (recC AccP.cs hs)
 each:∀x∈hs,AccRd w x
theorem HistRd.below {w w':World} {a:Option Addr} {n c:Nat} {hs:List AccP} (h:HistRd w a n c hs) (hb:Below w.heap.size w w'):HistRd w' a n c hs :=
 ⟨h.rd.below hb (Nat.le_refl _),fun x hx=>(h.each x hx).below hb (Nat.le_refl _)⟩
structure HOk (hs:List AccP):Prop where
 len:hs.length≤100
 items:∀x∈hs,x.reads.length≤64∧x.writes.length≤64
 form:∀x∈hs,formB x=true
 stamps:∀i j,i<j→j<hs.length→0<(hs.getD i default).stamp→(hs.getD i default).stamp≠(hs.getD j default).stamp
 ww:∀i j,j<i→i<hs.length→(hs.getD i default).wr=true→(hs.getD j default).wr=true→conB (hs.getD i default) (hs.getD j default)=true→meetI (hs.getD i default).writes (hs.getD j default).writes=false
 i64:∀x∈hs,(∀y∈x.reads,In64 y)∧(∀y∈x.writes,In64 y)
theorem AccP.cells {w:World} {g:Nat} {T:TypeId} {x:AccP} (h:Blk w g T x.cs):w.cell? ⟨g,0,none⟩=some (.int .i64 x.mode)∧w.cell? ⟨g,1,none⟩=some (.int .i64 x.snap)∧w.cell? ⟨g,2,none⟩=some (.bool x.done) ∧
  w.cell? ⟨g,3,none⟩=some (.int .i64 x.stamp)∧w.cell? ⟨g,4,none⟩=some (.slice x.ra x.reads.length x.rc)∧w.cell? ⟨g,5,none⟩=some (.slice x.wa x.writes.length x.wc) :=
 ⟨h.cellOf rfl,h.cellOf rfl,h.cellOf rfl,h.cellOf rfl,h.cellOf rfl,h.cellOf rfl⟩
theorem HistRd.at {w:World} {a:Option Addr} {n c:Nat} {hs:List AccP} (h:HistRd w a n c hs) (k:Nat) (hk:k<n):∃ (b off:Nat) (x:AccP),a=some ⟨b,off,none⟩∧hs.getD k default=x∧x∈hs∧AccRd w x ∧
  w.cell? ⟨b,off+k * 6,none⟩=some (.int .i64 x.mode)∧w.cell? ⟨b,off+k * 6+1,none⟩=some (.int .i64 x.snap)∧w.cell? ⟨b,off+k * 6+2,none⟩=some (.bool x.done) ∧
  w.cell? ⟨b,off+k * 6+3,none⟩=some (.int .i64 x.stamp)∧w.cell? ⟨b,off+k * 6+4,none⟩=some (.slice x.ra x.reads.length x.rc)∧w.cell? ⟨b,off+k * 6+5,none⟩=some (.slice x.wa x.writes.length x.wc):=by
 have hln:=h.rd.rlen AccP.cs_len (by omega)
 obtain ⟨b,off,ha,hb,hc⟩:=h.rd.recAt AccP.cs_len (by omega) k hk
 have hm:=getD_mem (l:=hs) (i:=k) (by omega)
 exact ⟨b,off,_,ha,rfl,hm,h.each _ hm,hc 0 _ rfl,hc 1 _ rfl,hc 2 _ rfl,hc 3 _ rfl,hc 4 _ rfl,hc 5 _ rfl⟩
theorem AccP.fresh {w0 wr:World} (x:AccP) (hb:Below w0.heap.size w0 wr) :
  Blk (wr.alloc (.cells #[.int .i64 x.mode,.int .i64 x.snap,.bool x.done,.int .i64 x.stamp,.slice x.ra x.reads.length x.rc,.slice x.wa x.writes.length x.wc] 102)) wr.heap.size 102 x.cs ∧
  Below w0.heap.size w0 (wr.alloc (.cells #[.int .i64 x.mode,.int .i64 x.snap,.bool x.done,.int .i64 x.stamp,.slice x.ra x.reads.length x.rc,.slice x.wa x.writes.length x.wc] 102)) ∧
  Below wr.heap.size wr (wr.alloc (.cells #[.int .i64 x.mode,.int .i64 x.snap,.bool x.done,.int .i64 x.stamp,.slice x.ra x.reads.length x.rc,.slice x.wa x.writes.length x.wc] 102)) :=
 ⟨Blk.new rfl rfl,hb.new (Nat.le_refl _) _,(Below.refl _ _).new (Nat.le_refl _) _⟩
structure LocXY (w w1 wk:World) (g1 g2:Nat) (x y:AccP):Prop where
 bx:Blk wk g1 102 x.cs
 by_:Blk wk g2 102 y.cs
 b:Below w.heap.size w wk
 b1:Below w1.heap.size w1 wk
 yr:AccRd wk y
theorem LocXY.step {w w1 wk w':World} {g1 g2:Nat} {x y:AccP} (h:LocXY w w1 wk g1 g2 x y) (hb:Below wk.heap.size wk w'):LocXY w w1 w' g1 g2 x y :=
 ⟨h.bx.below hb (Nat.le_refl _),h.by_.below hb (Nat.le_refl _),h.b.trans (hb.mono h.b.size),h.b1.trans (hb.mono h.b1.size),h.yr.below hb (Nat.le_refl _)⟩
set_option maxRecDepth 20000 in
set_option maxHeartbeats 4000000 in
theorem check_any {hs:List AccP} {a:Option Addr} {n c:Nat} {w:World} (hr:HistRd w a n c hs) (ok:HOk hs):Calls Tryz.prog 10 #[.slice a n c] w (RetV (.int .i64 0) w):=by
 have hln:=hr.rd.rlen AccP.cs_len (by omega)
 have hlen:=ok.len
 have HR:=Box.mk hr
 have OK:=Box.mk ok
 have hmm:=@run_makeMap Tryz.prog
 have t1:¬ ((100:Int)<(n:Int)):=by omega
 clear hr ok
 go_enter Tryz.func10,Tryz.ntmps10
 go_wp2_with fail
 go_loopg [4,18] n (fun gg _ s18 wr=>∃k:Nat,k≤n∧n - k≤gg∧s18=.int .i64 k∧Box (Below w.heap.size w wr))
 case atStart=>exact ⟨0,Nat.zero_le _,by omega,rfl,⟨Below.refl _ w⟩⟩
 case round =>
  obtain ⟨k,hk,hg,rfl,BW⟩:=hrel
  by_cases hlt:k<n
  ·obtain ⟨b,off,x,rfl,hx,hxm,hxr,c0,c1,c2,c3,c4,c5⟩:=(HR.out.below BW.out).at k hlt
   have hi:=OK.out.items _ hxm
   have H1:=Box.mk (x.fresh BW.out)
   obtain ⟨x0,x1,x2,x3,x4,x5⟩:=AccP.cells H1.out.1
   clear hx hxm hxr
   go_wp2_with fail
   all_goals
    go_roundg (n - (k+1))
    (case measure=>omega)
    (case rel=>exact ⟨k+1,by omega,by omega,by go_num,⟨H1.out.2.1⟩⟩)
  ·obtain rfl:k=n:=by omega
   clear hlt hg
   obtain ⟨W1,rfl⟩:∃x,x=wr:=⟨_,rfl⟩
   have HM:=Box.mk (SetM.made (P:=Tryz.prog) (k:=3) (e:=4) W1)
   have HB:=Box.mk (BW.out.new (Nat.le_refl _) (.map #[] 0))
   go_wp2_with fail
   go_loopg [7,34] k (fun gg _ s34 wq=>∃j:Nat,j≤k∧k - j≤gg∧s34=.int .i64 j∧Box (∃ks,SetM Tryz.prog 3 4 wq W1.heap.size ks∧ks.length≤j∧(∀x∈ks,∃i,i<j∧x=(hs.getD i default).stamp∧0<x))∧Box (Below w.heap.size w wq∧W1.heap.size<wq.heap.size))
   case atStart=>exact ⟨0,Nat.zero_le _,by omega,rfl,⟨[],HM.out,by simp,by simp⟩,⟨HB.out,by simp⟩⟩
   case round =>
    obtain ⟨j,hj,hg,rfl,HS,BQ⟩:=hrel
    by_cases hlt:j<k
    ·obtain ⟨b,off,x,rfl,hx,hxm,hxr,c0,c1,c2,c3,c4,c5⟩:=(HR.out.below BQ.out.1).at j hlt
     have H1:=Box.mk (x.fresh BQ.out.1)
     obtain ⟨x0,x1,x2,x3,x4,x5⟩:=AccP.cells H1.out.1
     have HX:=Box.mk (And.intro hx (And.intro hxm hxr))
     clear hx hxm hxr
     go_wp2_with fail
     refine (formed_is (OK.out.form _ HX.out.2.1) (HX.out.2.2.below H1.out.2.2 (Nat.le_refl _))).mono ?_
     rintro e w1 ⟨rfl,hb1⟩
     have B2:=Box.mk (And.intro (H1.out.2.1.trans (hb1.mono H1.out.2.1.size)) (H1.out.2.2.trans (hb1.mono H1.out.2.2.size)))
     have K2:=Box.mk (H1.out.1.below hb1 (Nat.le_refl _))
     clear x0 x1 x2 x3 x4 x5 c0 c1 c2 c3 c4 c5 hb1 H1
     obtain ⟨x0,x1,x2,x3,x4,x5⟩:=AccP.cells K2.out
     obtain ⟨ks,hset,hkl,hks⟩:=HS.out
     have hset1:=hset.eq (B2.out.2.block _ hset.lt)
     have hrg:=(formB_ok.1 (OK.out.form _ HX.out.2.1)).stamp
     have hin:In64 x.stamp:=by unfold In64;omega
     have hlook:=hset1.look (t:=113) und_int und_bool und_set (fun w=>by rfl) hin
     have hnm:x.stamp∉ks:=fun hm=>by
      obtain ⟨i,hi,he,hp⟩:=hks _ hm
      exact OK.out.stamps i j hi (by omega) (by rw [← he];exact hp) (by rw [← he,HX.out.1])
     rw [decide_eq_false hnm] at hlook
     by_cases hp:0<x.stamp
     ·obtain ⟨w2,hrun,hset2,htu⟩:=hset1.store (t:=113) und_int und_bool und_set hin hnm (by unfold maxLen;omega)
      have H2:=Box.mk (And.intro hset2 (And.intro (((But.ofBelow (F:=[]) B2.out.1).turned htu (.inr BW.out.size)).toBelow (Nat.le_refl _) (by simp)) (show W1.heap.size<w2.heap.size from hset2.lt)))
      go_wp2_with fail
      go_roundg (k - (j+1))
      case measure=>omega
      case rel =>
       exact ⟨j+1,by omega,by omega,by go_num,⟨ks++[x.stamp],H2.out.1,by rw [List.length_append];simp;omega,fun y hy=>by
        rcases List.mem_append.1 hy with hy | hy
        ·obtain ⟨i,hi,he,hp⟩:=hks _ hy;exact ⟨i,by omega,he,hp⟩
        ·have:y=x.stamp:=by simpa using hy
         subst this;exact ⟨j,by omega,by rw [HX.out.1],hp⟩⟩,⟨H2.out.2.1,H2.out.2.2⟩⟩
     ·have HK:=Box.mk (And.intro hset1 hks)
      clear hset1 hks
      go_wp2_with fail
      go_roundg (k - (j+1))
      case measure=>omega
      case rel=>exact ⟨j+1,by omega,by omega,by go_num,⟨ks,HK.out.1,by omega,fun y hy=>by obtain ⟨i,hi,he,hp⟩:=HK.out.2 _ hy;exact ⟨i,by omega,he,hp⟩⟩,⟨B2.out.1,HK.out.1.lt⟩⟩
    ·obtain rfl:j=k:=by omega
     clear hlt hg HS
     go_wp2_with fail
     go_loopg [8,9,10,12,56] j (fun gg _ _ _ _ s56 wq=>∃i:Nat,i≤j∧j - i≤gg∧s56=.int .i64 i∧Box (Below w.heap.size w wq))
     case atStart=>exact ⟨0,Nat.zero_le _,by omega,rfl,⟨BQ.out.1⟩⟩
     case round =>
      obtain ⟨i,hi,hg,rfl,BI⟩:=hrel
      by_cases hlt:i<j
      ·obtain ⟨b,off,x,rfl,hx,hxm,hxr,c0,c1,c2,c3,c4,c5⟩:=(HR.out.below BI.out).at i hlt
       have H1:=Box.mk (x.fresh BI.out)
       obtain ⟨x0,x1,x2,x3,x4,x5⟩:=AccP.cells H1.out.1
       have HX:=Box.mk (And.intro hx (And.intro hxm hxr))
       clear hx hxm hxr
       go_wp2_with fail
       refine (of_any (HX.out.2.2.wr.below H1.out.2.2 (Nat.le_refl _)) (asc_nodup (formB_ok.1 (OK.out.form _ HX.out.2.1)).aw) (OK.out.i64 _ HX.out.2.1).2).mono ?_
       rintro e w1 ⟨hb1,bs,hbs,rfl,hset⟩
       have HS:=Box.mk hset
       have B2:=Box.mk (And.intro (H1.out.2.1.trans (hb1.mono H1.out.2.1.size)) (H1.out.2.2.trans (hb1.mono H1.out.2.2.size)))
       have K2:=Box.mk (H1.out.1.below hb1 (Nat.le_refl _))
       have hcp:=HR.out.rd.hcap
       clear x0 x1 x2 x3 x4 x5 c0 c1 c2 c3 c4 c5 hb1 H1 hset
       have t2:¬ ((c:Int)<(i:Int)):=by omega
       go_wp2_with fail
       go_loopg [12,68] i (fun gg _ s68 wq=>∃m:Nat,m≤i∧i - m≤gg∧s68=.int .i64 m∧Box (Below w.heap.size w wq∧Below w1.heap.size w1 wq))
       case atStart=>exact ⟨0,Nat.zero_le _,by omega,rfl,⟨B2.out.1,Below.refl _ _⟩⟩
       case round =>
        obtain ⟨m,hm,hg2,rfl,BM⟩:=hrel
        by_cases hlt2:m<i
        ·obtain ⟨b',off',y,hab,hy,hym,hyr,c0,c1,c2,c3,c4,c5⟩:=(HR.out.below BM.out.1).at m (by omega)
         simp only [Option.some.injEq,Addr.mk.injEq,and_true] at hab
         obtain ⟨rfl,rfl⟩:=hab
         have H1:=Box.mk (y.fresh BM.out.1)
         have L1:=Box.mk (show LocXY w w1 _ _ _ x y from ⟨(K2.out.below BM.out.2 (Nat.le_refl _)).below H1.out.2.2 (Nat.le_refl _),H1.out.1,H1.out.2.1,BM.out.2.trans (H1.out.2.2.mono BM.out.2.size),hyr.below H1.out.2.2 (Nat.le_refl _)⟩)
         obtain ⟨x0,x1,x2,x3,x4,x5⟩:=AccP.cells L1.out.bx
         obtain ⟨y0,y1,y2,y3,y4,y5⟩:=AccP.cells L1.out.by_
         have HY:=Box.mk (And.intro hy (And.intro hym (hyr.below H1.out.2.2 (Nat.le_refl _))))
         obtain ⟨bx,hbx⟩:∃b,x.wr=b:=⟨_,rfl⟩
         obtain ⟨by',hby⟩:∃b,y.wr=b:=⟨_,rfl⟩
         obtain ⟨bc,hbc⟩:∃b,conB x y=b:=⟨_,rfl⟩
         have HB:=Box.mk (And.intro hbx (And.intro hby hbc))
         clear hy hym hyr hbx hby hbc H1
         go_upto_region 25 with fail
         generalize (wr.alloc (.cells #[.int .i64 y.mode,.int .i64 y.snap,.bool y.done,.int .i64 y.stamp,.slice y.ra y.reads.length y.rc,.slice y.wa y.writes.length y.wc] 102))=w1' at *
         go_wp2_with fail
         refine (writesx_is HB.out.1 _).mono ?_
         rintro e w2 ⟨rfl,hb⟩
         have L2:=Box.mk (L1.out.step hb)
         clear hb x0 x1 x2 x3 x4 x5 y0 y1 y2 y3 y4 y5
         obtain ⟨x0,x1,x2,x3,x4,x5⟩:=AccP.cells L2.out.bx
         obtain ⟨y0,y1,y2,y3,y4,y5⟩:=AccP.cells L2.out.by_
         cases bx with
         | false =>
          go_wp2_with fail
          go_roundg (i - (m+1))
          case measure=>omega
          case rel=>exact ⟨m+1,by omega,by omega,by go_num,⟨L2.out.b,L2.out.b1⟩⟩
         | true =>
          go_wp2_with fail
          refine (writesx_is HB.out.2.1 _).mono ?_
          rintro e w3 ⟨rfl,hb⟩
          have L3:=Box.mk (L2.out.step hb)
          clear hb x0 x1 x2 x3 x4 x5 y0 y1 y2 y3 y4 y5
          obtain ⟨x0,x1,x2,x3,x4,x5⟩:=AccP.cells L3.out.bx
          obtain ⟨y0,y1,y2,y3,y4,y5⟩:=AccP.cells L3.out.by_
          cases by' with
          | false =>
           go_wp2_with fail
           go_roundg (i - (m+1))
           case measure=>omega
           case rel=>exact ⟨m+1,by omega,by omega,by go_num,⟨L3.out.b,L3.out.b1⟩⟩
          | true =>
           go_wp2_with fail
           refine (concx_is HB.out.2.2 _).mono ?_
           rintro e w4 ⟨rfl,hb⟩
           have L4:=Box.mk (L3.out.step hb)
           clear hb x0 x1 x2 x3 x4 x5 y0 y1 y2 y3 y4 y5
           obtain ⟨x0,x1,x2,x3,x4,x5⟩:=AccP.cells L4.out.bx
           obtain ⟨y0,y1,y2,y3,y4,y5⟩:=AccP.cells L4.out.by_
           cases bc with
           | false =>
            go_wp2_with fail
            go_roundg (i - (m+1))
            case measure=>omega
            case rel=>exact ⟨m+1,by omega,by omega,by go_num,⟨L4.out.b,L4.out.b1⟩⟩
           | true =>
            have hfalse:=OK.out.ww i m hlt2 (by omega) (by rw [HX.out.1];exact HB.out.1) (by rw [HY.out.1];exact HB.out.2.1) (by rw [HX.out.1,HY.out.1];exact HB.out.2.2)
            rw [HX.out.1,HY.out.1] at hfalse
            have HF:=Box.mk hfalse
            clear hfalse
            have hmt:=meets_any (HS.out.eq (L4.out.b1.block bs HS.out.lt)) L4.out.yr.wr (OK.out.i64 _ HY.out.2.1).2
            rw [HF.out] at hmt
            go_wp2_with fail
            refine hmt.mono ?_
            rintro e w5 ⟨rfl,hb⟩
            have L5:=Box.mk (L4.out.step hb)
            go_wp2_with fail
            go_roundg (i - (m+1))
            case measure=>omega
            case rel=>exact ⟨m+1,by omega,by omega,by go_num,⟨L5.out.b,L5.out.b1⟩⟩
        ·obtain rfl:m=i:=by omega
         go_wp2_with fail
         go_roundg (j - (m+1))
         case measure=>omega
         case rel=>exact ⟨m+1,by omega,by omega,by go_num,⟨BM.out.1⟩⟩
      ·go_wp2_with fail
       go_ret
       exact ⟨rfl,BI.out⟩
end
end Go.Proofs.YtlfghapllmaigaaGreatDoor
