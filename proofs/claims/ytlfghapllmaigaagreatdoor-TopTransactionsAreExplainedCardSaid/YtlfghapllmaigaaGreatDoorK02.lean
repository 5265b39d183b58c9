/-
  Chapter 20: names, values, comparisons, records in memory; Chapter 20: what Check and Fits return; finding; The walks of IndexFunc and ContainsFunc at bytes and at integers, and of Unpack's literal; Regions that draw their order, all orders at once (as wpAny_ext), where what comes behind L hangs on it by way of L's own operations too; Further single operations: loads of one cell, slice literals without elements and of one aggregate. Conditions: each theorem's own hypotheses.
-/
import Derived.WalkKit
import Derived.Test.YtlfghapllmaigaaGreatDoorRows
import Derived.Test.YtlfghapllmaigaaGreatDoorK01
import Derived.Deep.CutRange
import Derived.Lib.ConvBytes
import Derived.StillTailTactics
import Derived.Lib.SliceRun
namespace Go.Proofs.YtlfghapllmaigaaGreatDoor
structure Val where
 kind:Int
 n:Int
 s:List UInt8
deriving DecidableEq,Inhabited
def reservedWords:List (List UInt8):=[[97,100,100],[97,110,100],[97,115],[97,115,99],[98,101,103,105,110],[98,111,111,108],[98,121],[99,104,101,99,107],[99,111,108,117,109,110],[99,111,109,109,105,116],[99,111,117,110,116],[99,114,101,97,116,101],[100,101,108,101,116,101],[100,101,115,99],[100,105,115,116,105,110,99,116],[100,114,111,112],[102,97,108,115,101],[102,114,111,109],[103,114,111,117,112],[105,110,100,101,120],[105,110,115,101,114,116],[105,110,116],[105,110,116,111],[105,115],[106,111,105,110],[107,101,121],[108,105,109,105,116],[109,97,120],[109,105,110],[110,111,116],[110,117,108,108],[111,110],[111,110,108,121],[111,114],[111,114,100,101,114],[114,101,97,100],[114,101,108,101,97,115,101],[114,111,108,108,98,97,99,107],[115,97,118,101,112,111,105,110,116],[115,101,108,101,99,116],[115,101,114,105,97,108,105,122,97,98,108,101],[115,101,116],[115,117,109],[116,97,98,108,101],[116,101,120,116],[116,111],[116,114,117,101],[117,110,105,113,117,101],[117,112,100,97,116,101],[118,97,108,117,101,115],[119,104,101,114,101]]
def reservedB (s:List UInt8):Bool:=decide (s∈reservedWords)
def letterB (c:UInt8):Bool:=decide (97≤c.toNat∧c.toNat≤122)
def charB (c:UInt8):Bool:=letterB c||decide (48≤c.toNat∧c.toNat≤57)||decide (c.toNat=95)
def nameB (s:List UInt8):Bool:=decide (0<s.length)&&decide (s.length≤16)&&!reservedB s&&decide (97≤(s.getD 0 0).toNat)&&s.all charB
end Go.Proofs.YtlfghapllmaigaaGreatDoor
namespace Go.Proofs.YtlfghapllmaigaaGreatDoor
open Go.RowKit
end Go.Proofs.YtlfghapllmaigaaGreatDoor
namespace Go.Proofs.YtlfghapllmaigaaGreatDoor
open Go.RowKit
end Go.Proofs.YtlfghapllmaigaaGreatDoor
namespace Go.Proofs.YtlfghapllmaigaaGreatDoor
open Go.RowKit
theorem own_new {w:World} {g base e size n:Nat} {cs:List Value} (hb:Blk w g e cs) (hbase:base≤g) (hl:cs.length=n * size) (hn:n≤maxLen):w.ownsRow base e size (.slice (some ⟨g,0,none⟩) n n) n cs :=
 ⟨hl,.inr ⟨g,n,cs.toArray,rfl,hbase,hb,Nat.le_refl _,hn,by simp [hl],by rw [← hl];simp⟩⟩
theorem nameB_bad {s:List UInt8} {k:Nat} (hk:k<s.length) (h:charB (s.getD k 0)=false):nameB s=false:=by
 have:s.all charB=false:=by
  rw [List.all_eq_false]
  refine ⟨s.getD k 0,?_,by rw [h];decide⟩
  rw [List.getD_eq_getElem?_getD,List.getElem?_eq_getElem hk];exact List.getElem_mem hk
 unfold nameB;rw [this];simp
theorem nameB_bad0 {s:List UInt8} (hk:0<s.length) (h:letterB (s.getD 0 0)=false):nameB s=false:=by
 cases hc:charB (s.getD 0 0) with
 | false=>exact nameB_bad hk hc
 | true =>
  have:¬ 97≤(s.getD 0 0).toNat:=by
   unfold charB at hc;rw [h] at hc
   unfold letterB at h
   simp only [decide_eq_false_iff_not,Bool.or_eq_true,decide_eq_true_eq,Bool.false_or] at *
   omega
  unfold nameB;rw [decide_eq_false this];simp
end Go.Proofs.YtlfghapllmaigaaGreatDoor
namespace Go.Proofs.YtlfghapllmaigaaGreatDoor
open Go.RowKit
end Go.Proofs.YtlfghapllmaigaaGreatDoor
namespace Go.Proofs.YtlfghapllmaigaaGreatDoor
open Go.RowKit
end Go.Proofs.YtlfghapllmaigaaGreatDoor
namespace Go.Proofs.YtlfghapllmaigaaGreatDoor
open Go.RowKit
def RetQ (v:Value) (w:World) (e:Ending) (w':World):Prop:=e=.returned v∧∃q,w'=w.drewN q
theorem intVals_one (l:List Int):∀u∈intVals l,u.oneCell'=true:=by
 intro u hu;obtain ⟨_,_,rfl⟩:=List.mem_map.1 hu;rfl
theorem Rd.ilen {w:World} {a:Option Addr} {n cap:Nat} {l:List Int} (h:Rd w a n cap 1 (intVals l)):l.length=n:=by
 have:=h.hlen;rw [intVals_length] at this;omega
theorem Rd.intAtD {w:World} {a:Option Addr} {n cap:Nat} {l:List Int} (h:Rd w a n cap 1 (intVals l)) (k:Nat) (hk:k<n) :
  ∃g off,a=some ⟨g,off,none⟩∧w.cell? ⟨g,off+k,none⟩=some (.int .i64 (l.getD k 0)):=by
 have hl:=h.ilen
 obtain ⟨b,off,ha,hc⟩:=h.at k hk
 refine ⟨b,off,ha,?_⟩
 rw [hc k (by rw [intVals_length];omega)]
 simp [intVals,List.getD_eq_getElem?_getD,List.getElem?_eq_getElem (show k<l.length by omega)]
end Go.Proofs.YtlfghapllmaigaaGreatDoor
namespace Go.Proofs.YtlfghapllmaigaaGreatDoor
open Go.RowKit
def cmpI (a b:Int):Int:=if a<b then -1 else if b<a then 1 else 0
set_option maxRecDepth 20000 in
set_option maxHeartbeats 2000000 in
theorem nanI_any (a:Int) (w:World):Calls Tryz.prog 153 #[.int .i64 a] w fun e w'=>e=.returned (.bool false)∧w'=w:=by
 go_enter Tryz.func153,Tryz.ntmps153
 go_wp2_with fail
 go_ret
 exact ⟨rfl,rfl⟩
set_option maxRecDepth 20000 in
set_option maxHeartbeats 2000000 in
theorem cmpI_any (a b:Int) (w:World):Calls Tryz.prog 109 #[.int .i64 a,.int .i64 b] w fun e w'=>e=.returned (.int .i64 (cmpI a b))∧w'=w:=by
 have HA:=Box.mk (nanI_any a w)
 have HB:=Box.mk (nanI_any b w)
 go_enter Tryz.func109,Tryz.ntmps109
 go_wp2_with fail
 refine HA.out.mono ?_
 rintro e w1 ⟨rfl,rfl⟩
 go_wp2_with fail
 refine HB.out.mono ?_
 rintro e w2 ⟨rfl,rfl⟩
 clear HA HB
 go_wp2_with fail
 all_goals
  go_ret
  refine ⟨?_,rfl⟩
  simp_all [cmpI]<;>(try intros)<;>omega
end Go.Proofs.YtlfghapllmaigaaGreatDoor
namespace Go.Proofs.YtlfghapllmaigaaGreatDoor
open Go.RowKit
end Go.Proofs.YtlfghapllmaigaaGreatDoor
namespace Go.Proofs.YtlfghapllmaigaaGreatDoor
open Go.RowKit
def recC {α:Type} (enc:α→List Value) (l:List α):List Value:=(l.map enc).flatten
section
variable {α:Type} {enc:α→List Value} {k:Nat}
theorem recC_nil:recC enc []=[]:=rfl
theorem recC_cons (x:α) (l:List α):recC enc (x::l)=enc x++recC enc l:=by simp [recC]
theorem recC_append (l m:List α):recC enc (l++m)=recC enc l++recC enc m:=by simp [recC]
theorem recC_length (hk:∀x,(enc x).length=k) (l:List α):(recC enc l).length=l.length * k:=by
 induction l with
 | nil=>simp [recC]
 | cons x l ih=>rw [recC_cons,List.length_append,ih,hk,List.length_cons,Nat.succ_mul,Nat.add_comm]
theorem recC_one (h1:∀x,∀u∈enc x,u.oneCell'=true) (l:List α):∀u∈recC enc l,u.oneCell'=true:=by
 intro u hu
 obtain ⟨m,hm,hu⟩:=List.mem_flatten.1 hu
 obtain ⟨x,_,rfl⟩:=List.mem_map.1 hm
 exact h1 x u hu
theorem recC_at [Inhabited α] (hk:∀x,(enc x).length=k) (l:List α) (i:Nat) (hi:i<l.length) (j:Nat) (hj:j<k):(recC enc l)[i * k+j]?=(enc (l.getD i default))[j]?:=by
 induction l generalizing i with
 | nil=>simp at hi
 | cons x l ih =>
  rw [recC_cons]
  cases i with
  | zero=>rw [Nat.zero_mul,Nat.zero_add,List.getElem?_append_left (by rw [hk];exact hj)];simp
  | succ i =>
   have:=ih i (by simpa using hi)
   rw [List.getElem?_append_right (by rw [hk,Nat.succ_mul];omega),hk,show (i+1) * k+j - k=i * k+j from by rw [Nat.succ_mul];omega,this]
   simp
theorem recC_take (hk:∀x,(enc x).length=k) (l:List α) (i:Nat):(recC enc l).take (i * k)=recC enc (l.take i):=by
 induction l generalizing i with
 | nil=>simp [recC]
 | cons x l ih =>
  cases i with
  | zero=>simp [recC]
  | succ i =>
   rw [recC_cons,List.take_succ_cons,recC_cons,List.take_append,hk,List.take_of_length_le (by rw [hk,Nat.succ_mul];omega),show (i+1) * k - k=i * k from by rw [Nat.succ_mul];omega,ih]
theorem recC_drop (hk:∀x,(enc x).length=k) (l:List α) (i:Nat):(recC enc l).drop (i * k)=recC enc (l.drop i):=by
 induction l generalizing i with
 | nil=>simp [recC]
 | cons x l ih =>
  cases i with
  | zero=>simp [recC]
  | succ i =>
   rw [recC_cons,List.drop_succ_cons,List.drop_append,hk,List.drop_of_length_le (by rw [hk,Nat.succ_mul];omega),List.nil_append,show (i+1) * k - k=i * k from by rw [Nat.succ_mul];omega,ih]
theorem Rd.rlen {w:World} {a:Option Addr} {n cap:Nat} {l:List α} (h:Rd w a n cap k (recC enc l)) (hk:∀x,(enc x).length=k) (hk0:0<k):l.length=n:=by
 have:=h.hlen;rw [recC_length hk] at this;exact Nat.eq_of_mul_eq_mul_right hk0 this
theorem Rd.recAt [Inhabited α] {w:World} {a:Option Addr} {n cap:Nat} {l:List α} (h:Rd w a n cap k (recC enc l)) (hk:∀x,(enc x).length=k) (hk0:0<k) (i:Nat) (hi:i<n) :
  ∃g off,a=some ⟨g,off,none⟩∧g<w.heap.size∧∀j u,(enc (l.getD i default))[j]?=some u→w.cell? ⟨g,off+i * k+j,none⟩=some u:=by
 have hl:=h.rlen hk hk0
 have hat:∀j u,(enc (l.getD i default))[j]?=some u→(recC enc l)[i * k+j]?=some u:=fun j u hu=>by
  have hj:=(List.getElem?_eq_some_iff.1 hu).1
  rw [hk] at hj
  rw [recC_at hk l i (by omega) j hj,hu]
 have h0:∃u,(recC enc l)[i * k+0]?=some u:=by
  rw [recC_at hk l i (by omega) 0 hk0]
  exact ⟨_,List.getElem?_eq_getElem (by rw [hk];exact hk0)⟩
 obtain ⟨u0,hu0⟩:=h0
 cases a with
 | none=>have:=h.hnil rfl;rw [this] at hu0;simp at hu0
 | some ad =>
  have c0:=h.hcell ad rfl _ _ hu0
  have hlt:=cell_block_lt c0
  rw [add_block] at hlt
  have hs:ad.spot=none:=by
   have h1:=spot_none c0
   have h2:=(List.getElem?_eq_some_iff.1 hu0).1
   obtain ⟨b,off,sp⟩:=ad
   cases sp with
   | none=>rfl
   | some s =>
    exfalso
    have h3:∃v,(recC enc l)[0]?=some v:=⟨_,List.getElem?_eq_getElem (by omega)⟩
    obtain ⟨v,hv⟩:=h3
    have h4:=spot_none (h.hcell _ rfl 0 v hv)
    simp [Addr.add] at h4
  obtain ⟨b,off,sp⟩:=ad
  simp only at hs hlt
  subst hs
  have ha:∀j,(⟨b,off,none⟩:Addr).add j=⟨b,off+j,none⟩:=fun j=>by unfold Addr.add;split<;>simp_all
  refine ⟨b,off,rfl,hlt,fun j u hu=>?_⟩
  have:=h.hcell _ rfl _ _ (hat j u hu)
  rwa [ha,← Nat.add_assoc] at this
end
theorem Rd.preK {α:Type} {enc:α→List Value} {k:Nat} {w:World} {a:Option Addr} {n cap:Nat} {l:List α} (h:Rd w a n cap k (recC enc l)) (hk:∀x,(enc x).length=k) (u:Nat) (hu:u≤n):Rd w a u cap k (recC enc (l.take u)):=by
 rw [← recC_take hk]
 have hm:u * k≤n * k:=Nat.mul_le_mul_right _ hu
 exact ⟨by rw [List.length_take];have:=h.hlen;omega,Nat.le_trans hu h.hcap,h.hmax,fun ha=>by rw [h.hnil ha];simp,fun ad ha j v hv=>by
  rw [List.getElem?_take] at hv
  split at hv
  ·exact h.hcell ad ha j v hv
  ·cases hv⟩
def Val.enc (x:Val):List Value:=[.int .i64 x.kind,.int .i64 x.n,.string ⟨x.s.toArray⟩]
theorem Val.enc_len (x:Val):x.enc.length=3:=rfl
theorem Val.enc_one (c:Val):∀u∈c.enc,u.oneCell'=true:=by intro u hu;simp [Val.enc] at hu;rcases hu with rfl | rfl | rfl<;>rfl
theorem getD_mem {α:Type} [Inhabited α] {l:List α} {i:Nat} (h:i<l.length):l.getD i default∈l:=by
 rw [List.getD_eq_getElem?_getD,List.getElem?_eq_getElem h];exact List.getElem_mem h
end Go.Proofs.YtlfghapllmaigaaGreatDoor
namespace Go.Proofs.YtlfghapllmaigaaGreatDoor
end Go.Proofs.YtlfghapllmaigaaGreatDoor
namespace Go.Proofs.YtlfghapllmaigaaGreatDoor
open Go.RowKit
def idxP {α:Type} (p:α→Bool) (l:List α):Int:=if l.any p=true then (l.findIdx p:Int) else -1
section
variable {α:Type} [Inhabited α] {p:α→Bool} {l:List α}
theorem getD_eq {k:Nat} (hk:k<l.length):l.getD k default=l[k]:=by rw [List.getD_eq_getElem?_getD,List.getElem?_eq_getElem hk];rfl
theorem idxP_hit {k:Nat} (h:∀j,j<k→p (l.getD j default)=false) (hk:k<l.length) (hp:p (l.getD k default)=true):idxP p l=k:=by
 unfold idxP
 rw [if_pos (List.any_eq_true.2 ⟨_,getD_mem hk,hp⟩)]
 have:l.findIdx p=k:=by
  refine (List.findIdx_eq hk).2 ⟨by rw [← getD_eq hk];exact hp,fun j hj=>?_⟩
  have:=h j hj
  rwa [getD_eq (by omega)] at this
 rw [this]
theorem idxP_miss (h:∀j,j<l.length→p (l.getD j default)=false):idxP p l=-1:=by
 unfold idxP
 rw [if_neg]
 intro ha
 obtain ⟨x,hx,hp⟩:=List.any_eq_true.1 ha
 obtain ⟨i,hi,rfl⟩:=List.getElem_of_mem hx
 have:=h i hi
 rw [getD_eq hi,hp] at this
 cases this
omit [Inhabited α] in
theorem idxP_nonneg (p:α→Bool) (l:List α):decide ((0:Int)≤idxP p l)=l.any p:=by
 unfold idxP
 cases h:l.any p<;>simp
end
theorem enters_fn {P:Program} {f:FuncId} {fn:Func} (hfn:P.funcs[f]?=some fn) (hn:(fn.name == "runtime.NumGoroutine")=false) (hbd:fn.body.isNone=false) (args:Array Value) (w:World):(callFunc f args).run P w=.ok (.enter f args) w:=by
 simp [callFunc,hfn]
 rw [if_neg (by simpa using hn),if_neg (by intro h;rw [h] at hbd;cases hbd)]
end Go.Proofs.YtlfghapllmaigaaGreatDoor
namespace Go.Proofs.YtlfghapllmaigaaGreatDoor
open Go.RowKit
end Go.Proofs.YtlfghapllmaigaaGreatDoor
namespace Go.Proofs.YtlfghapllmaigaaGreatDoor
open Go.RowKit
end Go.Proofs.YtlfghapllmaigaaGreatDoor
namespace Go.Proofs.YtlfghapllmaigaaGreatDoor
open Go.RowKit
def idx (l:List Int) (x:Int):Int:=if x∈l then (l.idxOf x:Int) else -1
set_option maxRecDepth 20000 in
set_option maxHeartbeats 1000000 in
theorem index_any (l:List Int) (x:Int) (a:Option Addr) (n cap:Nat) (w:World) (hrd:Rd w a n cap 1 (intVals l)) :
  Calls Tryz.prog 126 #[.slice a n cap,.int .i64 x] w fun e w'=>e=.returned (.int .i64 (idx l x))∧w'=w:=by
 have hln:=hrd.ilen
 have hmax:=hrd.lenMax
 have R:=Box.mk hrd;clear hrd
 go_enter Tryz.func126,Tryz.ntmps126
 go_wp2_with fail
 go_loopw [8] (fun i wr=>∃k:Nat,k≤n∧i=.int .i64 k∧(∀j,j<k→l.getD j 0≠x)∧wr=w) (fun i _=>n - (intOf i).toNat)
 case atStart=>exact ⟨0,Nat.zero_le _,rfl,fun j h=>by omega,rfl⟩
 case round =>
  obtain ⟨k,hk,rfl,hne,rfl⟩:=hrel
  have HNE:=Box.mk hne;clear hne
  by_cases hl:k<n
  ·obtain ⟨g,off,rfl,hc⟩:=R.out.intAtD k hl
   by_cases hx:x=l.getD k 0
   ·have hxx:(x==l.getD k 0)=true:=by simp only [beq_iff_eq];exact hx
    have hidx:idx l x=(k:Int):=by
     have hkl:k<l.length:=by omega
     have e:l.getD k 0=l[k]:=by rw [List.getD_eq_getElem?_getD,List.getElem?_eq_getElem hkl];rfl
     have hm:x∈l:=by rw [hx,e];exact List.getElem_mem hkl
     unfold idx
     rw [if_pos hm]
     have h2:l.idxOf x=k:=by
      have h3:l.idxOf x<l.length:=List.idxOf_lt_length_iff.2 hm
      have h4:l[l.idxOf x]=x:=List.getElem_idxOf h3
      rcases Nat.lt_trichotomy (l.idxOf x) k with h5 | h5 | h5
      ·exact absurd (by rw [List.getD_eq_getElem?_getD,List.getElem?_eq_getElem h3];exact h4) (HNE.out _ h5)
      ·exact h5
      ·have h6:=List.not_of_lt_findIdx (p:=(·==x)) (xs:=l) (i:=k) h5
       simp only [beq_eq_false_iff_ne] at h6
       exact absurd (hx.trans e).symm h6
     rw [h2]
    have HI:=Box.mk hidx;clear hidx
    generalize l.getD k 0=y at *
    subst hx
    go_wp2_with fail
    go_ret
    exact ⟨by rw [HI.out];rfl,rfl⟩
   ·have hxx:(x==l.getD k 0)=false:=by simp only [beq_eq_false_iff_ne];exact hx
    have hnx:=Box.mk hx;clear hx
    generalize hy:l.getD k 0=y at *
    have HY:=Box.mk hy;clear hy
    go_wp2_with fail
    go_roundw
    case rel=>exact ⟨k+1,by omega,by go_num,fun j hj=>by
     by_cases e:j=k
     ·subst e;rw [HY.out];exact fun h=>hnx.out h.symm
     ·exact HNE.out j (by omega),trivial⟩
    case measure=>simp [intOf];omega
  ·have hidx:idx l x=-1:=by
    unfold idx
    rw [if_neg]
    intro hm
    obtain ⟨j,hj,he⟩:=List.getElem_of_mem hm
    exact HNE.out j (by omega) (by rw [List.getD_eq_getElem?_getD,List.getElem?_eq_getElem hj];exact he)
   have HI:=Box.mk hidx;clear hidx
   go_wp2_with fail
   go_ret
   exact ⟨by rw [HI.out];rfl,rfl⟩
set_option maxRecDepth 20000 in
theorem contains_any (l:List Int) (x:Int) (a:Option Addr) (n cap:Nat) (w:World) (hrd:Rd w a n cap 1 (intVals l)) :
  Calls Tryz.prog 72 #[.slice a n cap,.int .i64 x] w fun e w'=>e=.returned (.bool (decide (x∈l)))∧w'=w:=by
 have HC:=Box.mk (index_any l x a n cap w hrd)
 have hd:decide ((0:Int)≤idx l x)=decide (x∈l):=by
  unfold idx
  by_cases hm:x∈l
  ·rw [if_pos hm];simp [hm]
  ·rw [if_neg hm];simp [hm]
 generalize idx l x=i at *
 generalize decide (x∈l)=d at *
 go_enter Tryz.func72,Tryz.ntmps72
 go_wp2_with fail
 refine HC.out.mono ?_
 rintro e w1 ⟨rfl,rfl⟩
 go_wp2_with fail
 go_ret
 exact ⟨by first | rfl | rw [hd],rfl⟩
end Go.Proofs.YtlfghapllmaigaaGreatDoor
namespace Go.Proofs.YtlfghapllmaigaaGreatDoor
open Go.RowKit
end Go.Proofs.YtlfghapllmaigaaGreatDoor
namespace Go.Proofs.YtlfghapllmaigaaGreatDoor
open Go.RowKit
end Go.Proofs.YtlfghapllmaigaaGreatDoor
namespace Go.Proofs.YtlfghapllmaigaaGreatDoor
section
open Go.RowKit
def intV (x:Int):Value:=.int .i64 x
end
section
open Go.RowKit
def direct (ops:Array Oper) (i r:Nat):Bool:=((ops[i]?).map fun o=>dep o r).getD false
def reach (ops:Array Oper) (L:List Nat):Nat→Nat→Nat→Bool
 | 0,r,i=>direct ops i r
 | n+1,r,i=>direct ops i r||L.any fun j=>direct ops j r&&reach ops L n j i
def okM (ops:Array Oper) (listed0:Array Bool) (L:List Nat):Bool :=
 (listed0.size==ops.size) &&
 L.all (fun i=>(listed0[i]?==some false)&&((ops[i]?).map fun o=>o.after.all fun e=>!Region.binds .any e||(decide (e.on<i)&&(listed0.getD e.on false||L.contains e.on))).getD false) &&
 (List.range ops.size).all (fun j=>listed0.getD j true||L.contains j||L.all fun i=>reach ops L L.length i j) &&
 decide L.Nodup&&decide (L.filterMap (dstOf ops)).Nodup
section
variable {P:Program} {ops:Array Oper} {Q:Exit→Act→World→Prop}
theorem reach_hit {L R:List Nat} (hcl:∀j∈L,j∉R→∀r∈R,direct ops j r=false) (hRL:∀i∈R,i∈L):∀ (n:Nat) (r:Nat) {i:Nat},reach ops L n r i=true→r∈R→∃k∈R,direct ops i k=true
 | 0,r,i,h,hr=>⟨r,hr,h⟩
 | n+1,r,i,h,hr=>by
  unfold reach at h
  simp only [Bool.or_eq_true,List.any_eq_true,Bool.and_eq_true] at h
  rcases h with h | ⟨j,hj,h1,h2⟩
  ·exact ⟨r,hr,h⟩
  ·by_cases hjR:j∈R
   ·exact reach_hit hcl hRL n j h2 hjR
   ·have:=hcl j hj hjR r hr
    rw [h1] at this;cases this
structure ExtInv2 (ops:Array Oper) (L:List Nat) (V:Nat→Value→World→Prop) (listed0:Array Bool) (a0:Act) (w0:World) (R:List Nat) (vs:Nat→Value) (listed:Array Bool) (a:Act) (w:World):Prop where
 below:Below w0.heap.size w0 w
 size:listed.size=listed0.size
 done:∀k,k∈L→k∉R→listed[k]?=some true
 rest:∀k,(k∉L∨k∈R)→listed[k]?=listed0[k]?
 defers:a.defers=a0.defers
 tsize:a.tmps.size=a0.tmps.size
 other:∀t,(∀i∈L,i∉R→dstOf ops i≠some t)→a.tmps[t]?=a0.tmps[t]?
 val:∀i∈L,i∉R→∀t,dstOf ops i=some t→a.tmps[t]?=some (vs i)
 prop:∀i∈L,i∉R→V i (vs i) w
 closed:∀j∈L,j∉R→∀r∈R,direct ops j r=false
theorem ext_go2 {L:List Nat} {V:Nat→Value→World→Prop} {listed0:Array Bool} {a0:Act} {w0:World} (hok:okM ops listed0 L=true) (hts:∀t∈L.filterMap (dstOf ops),t<a0.tmps.size)
  (hstep:∀i∈L,StepOK P ops Q L V a0 w0 i) (hstab:∀i∈L,∀v w w',V i v w→Below w.heap.size w w'→V i v w') {fuel:Nat}
  (hend:∀ (vs:Nat→Value) (w:World),(∀i∈L,V i (vs i) w)→Below w0.heap.size w0 w→wpAny P .any ops Q fuel (L.foldl (fun l i=>l.setIfInBounds i true) listed0) (L.foldl (fun a i=>a.put (dstOf ops i) (vs i)) a0) w) :
  ∀ (R:List Nat),R.Nodup→(∀i∈R,i∈L)→∀ (vs:Nat→Value) (listed:Array Bool) (a:Act) (w:World),ExtInv2 ops L V listed0 a0 w0 R vs listed a w→wpAny P .any ops Q (fuel+R.length) listed a w:=by
 simp only [okM,Bool.and_eq_true,List.all_eq_true,beq_iff_eq,decide_eq_true_eq] at hok
 obtain ⟨⟨⟨⟨hsz,hin⟩,hout⟩,hnd⟩,hdd⟩:=hok
 have hlt:∀i∈L,i<listed0.size:=fun i hi=>(Array.getElem?_eq_some_iff.1 (hin i hi).1).1
 have key:∀ (n:Nat) (R:List Nat),R.length=n→R.Nodup→(∀i∈R,i∈L)→∀ (vs:Nat→Value) (listed:Array Bool) (a:Act) (w:World),ExtInv2 ops L V listed0 a0 w0 R vs listed a w→wpAny P .any ops Q (fuel+n) listed a w:=by
  intro n
  induction n with
  | zero =>
   intro R hR _ _ vs listed a w hI
   obtain rfl:=List.eq_nil_of_length_eq_zero hR
   have h1:listed=L.foldl (fun l i=>l.setIfInBounds i true) listed0:=by
    apply Array.ext_getElem?
    intro k
    rw [foldl_set_get L listed0 k hlt]
    by_cases hk:k∈L
    ·rw [if_pos hk];exact hI.done k hk (by simp)
    ·rw [if_neg hk];exact hI.rest k (.inl hk)
   have h2:a=L.foldl (fun a i=>a.put (dstOf ops i) (vs i)) a0:=by
    obtain ⟨s1,s2⟩:=foldl_put_size ops vs L a0
    have ht:a.tmps=(L.foldl (fun a i=>a.put (dstOf ops i) (vs i)) a0).tmps:=by
     apply Array.ext_getElem?
     intro t
     obtain ⟨g1,g2⟩:=foldl_put_get ops vs L a0 hdd hts t
     by_cases hx:∃i∈L,dstOf ops i=some t
     ·obtain ⟨i,hi,he⟩:=hx
      rw [g2 i hi he];exact hI.val i hi (by simp) t he
     ·have hx':∀i∈L,dstOf ops i≠some t:=fun i hi he=>hx ⟨i,hi,he⟩
      rw [g1 hx'];exact hI.other t (fun i hi _=>hx' i hi)
    have hd:a.defers=(L.foldl (fun a i=>a.put (dstOf ops i) (vs i)) a0).defers:=by rw [s2];exact hI.defers
    cases a;cases hf:L.foldl (fun a i=>a.put (dstOf ops i) (vs i)) a0
    rw [hf] at ht hd
    simp only at ht hd
    rw [ht,hd]
   rw [h1,h2]
   exact hend vs w (fun i hi=>hI.prop i hi (by simp)) hI.below
  | succ n ih =>
   intro R hR hRn hRL vs listed a w hI
   have hfalse:∀i∈R,listed[i]?=some false:=fun i hi=>by rw [hI.rest i (.inr hi)];exact (hin i (hRL i hi)).1
   refine ⟨fun hnone=>?_,fun i hi=>?_⟩
   ·-- the least pending operation is ready
    exfalso
    have hex:∃i,i∈R:=by cases R with | nil=>simp at hR | cons x _=>exact ⟨x,by simp⟩
    obtain ⟨i,hi,hmin⟩:∃i∈R,∀j∈R,i≤j:=by
     have hwf:=hex
     have hfind:∀ (m:Nat),(∃i∈R,i≤m)→∃i∈R,∀j∈R,i≤j:=by
      intro m
      induction m with
      | zero=>rintro ⟨i,hi,h0⟩;exact ⟨i,hi,fun j _=>by omega⟩
      | succ m ihm =>
       rintro ⟨i,hi,h0⟩
       by_cases hm:∃i∈R,i≤m
       ·exact ihm hm
       ·exact ⟨i,hi,fun j hj=>by
         have:¬ j≤m:=fun h=>hm ⟨j,hj,h⟩
         omega⟩
     obtain ⟨i,hi⟩:=hwf
     exact hfind i ⟨i,hi,Nat.le_refl _⟩
    have hr:i∈Region.ready .any ops listed:=by
     rw [ready_iff]
     obtain ⟨h1,h2⟩:=hin i (hRL i hi)
     refine ⟨by have:=hlt i (hRL i hi);omega,getD_of (hfalse i hi),?_⟩
     cases ho:ops[i]? with
     | none=>rw [ho] at h2;cases h2
     | some o =>
      rw [ho] at h2
      simp only [Option.map_some,Option.getD_some,Array.all_eq_true,Bool.or_eq_true,Bool.and_eq_true,decide_eq_true_eq] at h2 ⊢
      intro x hx
      rcases h2 x hx with h | ⟨h3,h4⟩
      ·exact .inl h
      ·refine .inr ?_
       by_cases hL:o.after[x].on∈L
       ·have hnR:o.after[x].on∉R:=fun h=>by have:=hmin _ h;omega
        exact getD_of (hI.done _ hL hnR)
       ·rcases h4 with h4 | h4
        ·have:=hI.rest o.after[x].on (.inl hL)
         rw [Array.getD_eq_getD_getElem?,this,← Array.getD_eq_getD_getElem?];exact h4
        ·exact absurd (by simpa using h4) hL
    rw [hnone] at hr;simp at hr
   ·rw [ready_iff] at hi
    obtain ⟨hi1,hi2,hi3⟩:=hi
    obtain ⟨r,hr⟩:∃r,r∈R:=by cases R with | nil=>simp at hR | cons x _=>exact ⟨x,by simp⟩
    cases ho:ops[i]? with
    | none=>rw [ho] at hi3;cases hi3
    | some o =>
     rw [ho] at hi3
     simp only [Option.map_some,Option.getD_some,Array.all_eq_true,Bool.or_eq_true] at hi3
     have hiL:i∈L:=by
      have h:=hout i (by simpa using hi1)
      simp only [Bool.or_eq_true] at h
      rcases h with (h | h) | h
      ·by_cases hL:i∈L
       ·exact hL
       ·have:=hI.rest i (.inl hL)
        rw [Array.getD_eq_getD_getElem?,this,← Array.getD_eq_getD_getElem?,h] at hi2;cases hi2
      ·simpa using h
      ·simp only [List.all_eq_true] at h
       obtain ⟨k,hk,hd⟩:=reach_hit hI.closed (hRL) _ r (h r (hRL r hr)) hr
       simp only [direct,ho,Option.map_some,Option.getD_some,dep,Array.any_eq_true,Bool.and_eq_true,beq_iff_eq] at hd
       obtain ⟨x,hx,hb,he⟩:=hd
       rcases hi3 x hx with h5 | h5
       ·rw [hb] at h5;cases h5
       ·rw [he,getD_of (hfalse k hk)] at h5;cases h5
     have hiR:i∈R:=by
      refine Classical.byContradiction fun h=>?_
      rw [getD_of (hI.done i hiL h)] at hi2;cases hi2
     refine wpOp_step ho fun K hK=>?_
     refine hstep i hiL o ho a w hI.below ?_ ?_ K (fun v w' hv hb=>?_)
     ·intro t ht
      have:=hI.other t (fun j hj _=>ht j hj)
      rw [Array.getD_eq_getD_getElem?,this,← Array.getD_eq_getD_getElem?]
     ·intro j hj hd t ht
      have hjR:j∉R:=by
       intro hjR
       simp only [dep,Array.any_eq_true,Bool.and_eq_true,beq_iff_eq] at hd
       obtain ⟨x,hx,hb,he⟩:=hd
       rcases hi3 x hx with h5 | h5
       ·rw [hb] at h5;cases h5
       ·rw [he,getD_of (hfalse j hjR)] at h5;cases h5
      have hv:=hI.val j hj hjR t ht
      rw [Array.getD_eq_getD_getElem?,hv]
      exact hI.prop j hj hjR
     ·refine hK _ _ ?_
      refine ih (R.erase i) (by rw [List.length_erase_of_mem hiR];omega) (hRn.erase i) (fun j hj=>hRL j (List.mem_of_mem_erase hj)) (fun j=>if j=i then v else vs j) _ _ _ ?_
      have hmem:∀j,j∉R.erase i↔(j∉R∨j=i):=fun j=>by
       rw [hRn.mem_erase_iff]
       constructor
       ·intro h;by_cases e:j=i
        ·exact .inr e
        ·exact .inl fun hj=>h ⟨e,hj⟩
       ·rintro (h | h) ⟨h1,h2⟩
        ·exact h h2
        ·exact h1 h
      have hdo:dstOf ops i=o.dst:=by unfold dstOf;rw [ho];rfl
      refine ⟨?_,by simpa using hI.size,?_,?_,?_,?_,?_,?_,?_,?_⟩
      ·exact hI.below.trans (hb.mono hI.below.size)
      ·intro k hk hkR
       rcases (hmem k).1 hkR with h | h
       ·rw [Array.getElem?_setIfInBounds]
        split
        ·rename_i e;subst e;rw [if_pos (by rw [hI.size];exact hlt i hiL)]
        ·exact hI.done k hk h
       ·subst h;rw [Array.getElem?_setIfInBounds,if_pos rfl,if_pos (by rw [hI.size];exact hlt k hk)]
      ·intro k hk
       have hki:k≠i:=by
        rintro rfl
        rcases hk with h | h
        ·exact h hiL
        ·exact (hRn.mem_erase_iff.1 h).1 rfl
       rw [Array.getElem?_setIfInBounds,if_neg (Ne.symm hki)]
       exact hI.rest k (hk.imp id fun h=>(hRn.mem_erase_iff.1 h).2)
      ·rw [← hI.defers];unfold Act.put;split<;>rfl
      ·rw [← hI.tsize];unfold Act.put;split<;>simp
      ·intro t ht
       have h1:dstOf ops i≠some t:=ht i hiL ((hmem i).2 (.inr rfl))
       rw [← hI.other t (fun j hj hjR=>ht j hj ((hmem j).2 (.inl hjR)))]
       rw [hdo] at h1
       unfold Act.put
       split
       ·rename_i d hd
        have:d≠t:=by rintro rfl;exact h1 hd
        simp [this]
       ·rfl
      ·intro j hj hjR t ht
       by_cases hji:j=i
       ·subst hji
        rw [if_pos rfl]
        have h2:t<a.tmps.size:=by rw [hI.tsize];exact hts t (List.mem_filterMap.2 ⟨j,hj,ht⟩)
        rw [hdo] at ht
        rw [ht]
        simp [Act.put,h2]
       ·rw [if_neg hji]
        have hjR':j∉R:=by rcases (hmem j).1 hjR with h | h;exact h;exact absurd h hji
        have h3:=hI.val j hj hjR' t ht
        rw [← h3]
        have hne:dstOf ops i≠some t:=by
         intro he
         have h4:=hdd
         -- two operations of one slot
         have:∀ (L:List Nat),(L.filterMap (dstOf ops)).Nodup→i∈L→j∈L→dstOf ops i=some t→dstOf ops j=some t→i=j:=by
          intro L
          induction L with
          | nil=>intro _ h;simp at h
          | cons x L ihL =>
           intro hn hi hj h1 h2
           rw [List.filterMap_cons] at hn
           have hi':=List.mem_cons.1 hi
           have hj':=List.mem_cons.1 hj
           clear hi hj
           rcases hi' with hi | hi
           ·rcases hj' with hj | hj
            ·rw [hi,hj]
            ·rw [← hi,h1] at hn
             simp only [List.nodup_cons] at hn
             exact absurd (List.mem_filterMap.2 ⟨j,hj,h2⟩) hn.1
           ·rcases hj' with hj | hj
            ·rw [← hj,h2] at hn
             simp only [List.nodup_cons] at hn
             exact absurd (List.mem_filterMap.2 ⟨i,hi,h1⟩) hn.1
            ·refine ihL ?_ hi hj h1 h2
             split at hn
             ·exact hn
             ·exact (List.nodup_cons.1 hn).2
         exact hji (this L h4 hiL hj he ht).symm
        rw [hdo] at hne
        unfold Act.put
        split
        ·rename_i d hd
         have:d≠t:=by rintro rfl;exact hne hd
         simp [this]
        ·rfl
      ·intro j hj hjR
       by_cases hji:j=i
       ·subst hji;rw [if_pos rfl];exact hv
       ·rw [if_neg hji]
        have hjR':j∉R:=by rcases (hmem j).1 hjR with h | h;exact h;exact absurd h hji
        exact hstab j hj _ _ _ (hI.prop j hj hjR') hb
      ·intro j hj hjR r hr2
       have hr3:=(hRn.mem_erase_iff.1 hr2).2
       rcases (hmem j).1 hjR with h | h
       ·exact hI.closed j hj h r hr3
       ·subst h
        cases hdr:direct ops j r
        ·rfl
        ·exfalso
         simp only [direct,ho,Option.map_some,Option.getD_some,dep,Array.any_eq_true,Bool.and_eq_true,beq_iff_eq] at hdr
         obtain ⟨x,hx,hb',he⟩:=hdr
         rcases hi3 x hx with h5 | h5
         ·rw [hb'] at h5;cases h5
         ·rw [he,getD_of (hfalse r hr3)] at h5;cases h5
 intro R hRn hRL vs listed a w hI
 exact key R.length R rfl hRn hRL vs listed a w hI
theorem wpAny_ext2 (L:List Nat) (V:Nat→Value→World→Prop) {listed0:Array Bool} {a0:Act} {w0:World} (hok:okM ops listed0 L=true) (hts:(L.filterMap (dstOf ops)).all (fun t=>decide (t<a0.tmps.size))=true)
  (hstep:∀i∈L,StepOK P ops Q L V a0 w0 i) (hstab:∀i∈L,∀v w w',V i v w→Below w.heap.size w w'→V i v w') {fuel m:Nat} (hf:m=fuel+L.length)
  (hend:∀ (vs:Nat→Value) (w:World),(∀i∈L,V i (vs i) w)→Below w0.heap.size w0 w→wpAny P .any ops Q fuel (L.foldl (fun l i=>l.setIfInBounds i true) listed0) (L.foldl (fun a i=>a.put (dstOf ops i) (vs i)) a0) w) :
  wpAny P .any ops Q m listed0 a0 w0:=by
 subst hf
 have hnd:L.Nodup:=by
  have h:=hok
  simp only [okM,Bool.and_eq_true,decide_eq_true_eq] at h
  exact h.1.2
 refine ext_go2 (P:=P) (Q:=Q) hok (fun t ht=>by simpa using List.all_eq_true.1 hts t ht) hstep hstab hend L hnd (fun _ h=>h) (fun _=>undef) listed0 a0 w0 ?_
 exact ⟨Below.refl _ _,rfl,fun k h1 h2=>absurd h1 h2,fun _ _=>rfl,rfl,rfl,fun _ _=>rfl,fun i h1 h2=>absurd h1 h2,fun i h1 h2=>absurd h1 h2,fun j h1 h2=>absurd h1 h2⟩
end
end
section
open Go.RowKit
theorem oper_load1 {P:Program} {w:World} {ops:Array Oper} {o:Oper} {a:Act} {K:Act→World→Prop} {Q:Exit→Act→World→Prop} (hgd:Region.wanted o (yielded ops a.tmps)=true) (ty:TypeId) (x:Operand) (ho:o.op=.load ty x)
  (hT:(P.underlying ty).map (fun d=>match d with | .struct _ | .array _ _=>true | _=>false)=some false) {ad:Addr} (hx:a.eval x=.pointer (some ad)) {v:Value} (hc:w.cell? ad=some v) (h:K (a.put o.dst v) w):if Region.wanted o (yielded ops a.tmps)=true then Oper.wp P o a w K Q else K (a.put o.dst undef) w:=by
 rw [if_pos hgd]
 obtain ⟨d,hd,hd2⟩:=Option.map_eq_some_iff.1 hT
 have ha:(Go.isAgg ty).run P w=.ok false w:=by
  unfold Go.isAgg
  rw [Sem.run_bind,run_underlying hd w]
  cases d<;>simp_all
 unfold Oper.wp execOp
 simp [ho,hx,Instr.loadAt,Instr.sureAddr,loadVar,ha,hc]
 exact h
theorem oper_litA {P:Program} {w:World} {ops:Array Oper} {o:Oper} {a:Act} {K:Act→World→Prop} {Q:Exit→Act→World→Prop} (hgd:Region.wanted o (yielded ops a.tmps)=true) (t:TypeId) (x:Operand) (ho:o.op=.buildSlice t 1 #[(0,x)])
  {e:TypeId} {z:Value} {size bytes:Nat} (hT:SlT P t e z size bytes) {cs:List Value} (hx:(a.eval x).cells=cs.toArray) (hl:cs.length=size) (hs:size≤1000000) (hs0:0<size)
  (h:K (a.put o.dst (.slice (some ⟨w.heap.size,0,none⟩) 1 1)) (w.alloc (.cells cs.toArray e))):if Region.wanted o (yielded ops a.tmps)=true then Oper.wp P o a w K Q else K (a.put o.dst undef) w:=by
 rw [if_pos hgd]
 obtain ⟨i,hi,hz,hsz,hby⟩:=info_parts hT.info
 have hfa:=fold_all cs ((Array.range size).map (z.cells[· % z.cells.size]!)) (by simp [hl])
 have h0:¬ (16777216<size):=by omega
 have h1:¬ size=0:=by omega
 have hrun:(Instr.buildSlice t 1 #[(0,a.eval x)]).run P w=.ok (.slice (some ⟨w.heap.size,0,none⟩) 1 1) (w.alloc (.cells cs.toArray e)):=by
  simp [Instr.buildSlice,run_underlying hT.ht,sizeOf,typeInfo,zeroValue,hi,hz,hsz,h0,h1,Instr.fill,hx,hl,newRow,hfa]
 unfold Oper.wp execOp
 simp only [ho,List.map_toArray,List.map_cons,List.map_nil,Sem.run_bind,hrun,Result.andThen_ok,Sem.run_pure]
 exact h
end
end Go.Proofs.YtlfghapllmaigaaGreatDoor
