/-
  General lemmas on memory: slices, blocks, appends, arguments. Conditions: each theorem's own hypotheses.
-/
import Derived.WalkKit
import Derived.WalkSpells
import Derived.WalkLawsBesides
import Derived.Lib.Hide
import Derived.Deep.QuietTactic
import Derived.BigQuiet
import Derived.Stop.BytesEq
import Derived.Deep.Slices
import Derived.Carry
import Derived.ChangeOld
import Derived.OpenShut
import Derived.SizedLaws
import Derived.ChangeMaps5
import Derived.WideShapes
import Derived.OneCell
import Derived.Laws.BitsAllLaws
namespace Go.Proofs.YtlfghapllmaigaaGreatDoor
open Go.RowKit
structure Rd (w:World) (a:Option Addr) (n cap size:Nat) (xs:List Value):Prop where
 hlen:xs.length=n * size
 hcap:n≤cap
 hmax:cap≤maxLen
 hnil:a=none→xs=[]
 hcell:∀ad,a=some ad→∀j u,xs[j]?=some u→w.cell? (ad.add j)=some u
theorem Rd.lenMax {w:World} {a:Option Addr} {n cap size:Nat} {xs:List Value} (h:Rd w a n cap size xs):n≤9223372036854775807:=by
 have h1:=h.hcap;have h2:=h.hmax;unfold maxLen at h2;omega
theorem Rd.nilSlice (w:World) (size:Nat):Rd w none 0 0 size [] :=
 ⟨by simp,Nat.le_refl _,Nat.zero_le _,fun _=>rfl,fun _ h=>by cases h⟩
theorem cell_block_lt {w:World} {p:Addr} {u:Value} (h:w.cell? p=some u):p.block<w.heap.size:=by
 unfold World.cell? at h
 split at h
 ·rename_i c e f hb
  exact (Array.getElem?_eq_some_iff.1 hb).1
 ·cases h
theorem add_block (ad:Addr) (j:Nat):(ad.add j).block=ad.block:=by unfold Addr.add;split<;>rfl
theorem Rd.below {w w':World} {a:Option Addr} {n cap size:Nat} {xs:List Value} (h:Rd w a n cap size xs) {B:Nat} (hb:Below B w w') (hB:w.heap.size≤B):Rd w' a n cap size xs :=
 ⟨h.hlen,h.hcap,h.hmax,h.hnil,fun ad ha j u hu=>by
  have hc:=h.hcell ad ha j u hu
  have hl:=cell_block_lt hc
  rw [hb.cell (by omega)];exact hc⟩
theorem spot_none {w:World} {p:Addr} {u:Value} (h:w.cell? p=some u):p.spot=none:=by
 unfold World.cell? at h
 split at h
 ·split at h
  ·cases h
  ·rename_i hs;simpa using hs
 ·cases h
theorem Rd.at {w:World} {a:Option Addr} {n cap:Nat} {xs:List Value} (h:Rd w a n cap 1 xs) (k:Nat) (hk:k<n) :
  ∃b off,a=some ⟨b,off,none⟩∧∀ (j:Nat) (hj:j<xs.length),w.cell? ⟨b,off+j,none⟩=some xs[j]:=by
 have hl:=h.hlen
 cases a with
 | none=>have:=h.hnil rfl;subst this;simp at hl;omega
 | some ad =>
  have h0:0<xs.length:=by omega
  have hc:=h.hcell ad rfl 0 xs[0] (List.getElem?_eq_getElem h0)
  have hs:ad.spot=none:=by
   have:=spot_none hc
   simpa [Addr.add] using this
  obtain ⟨b,off,sp⟩:=ad
  simp only at hs
  subst hs
  refine ⟨b,off,rfl,fun j hj=>?_⟩
  have:=h.hcell _ rfl j xs[j] (List.getElem?_eq_getElem hj)
  have he:(⟨b,off,none⟩:Addr).add j=⟨b,off+j,none⟩:=by
   unfold Addr.add;split<;>simp_all
  rwa [he] at this
theorem add_add (ad:Addr) (i j:Nat):(ad.add i).add j=ad.add (i+j):=by
 unfold Addr.add
 split
 ·simp_all
 ·split
  ·simp_all
  ·rw [if_neg (by omega)];simp;omega
theorem Rd.sub {w:World} {a:Option Addr} {n cap size:Nat} {xs:List Value} (h:Rd w a n cap size xs) (lo hi mx:Nat) (h1:lo≤hi) (h2:hi≤n) (h3:hi≤mx) (h4:mx≤cap) :
  Rd w (if mx=lo then a else a.map (·.add (lo * size))) (hi - lo) (mx - lo) size ((xs.drop (lo * size)).take ((hi - lo) * size)):=by
 have hl:=h.hlen
 have hm:hi * size≤n * size:=Nat.mul_le_mul_right _ h2
 have hs:(hi - lo) * size=hi * size - lo * size:=Nat.sub_mul hi lo size
 have hlo:lo * size≤hi * size:=Nat.mul_le_mul_right _ h1
 have hcm:=h.hmax
 refine ⟨by rw [List.length_take,List.length_drop];omega,by omega,by omega,?_,?_⟩
 ·intro ha
  split at ha
  ·rw [h.hnil ha];simp
  ·cases a with
   | none=>rw [h.hnil rfl];simp
   | some ad=>simp at ha
 ·intro ad ha j u hu
  by_cases hml:mx=lo
  ·have:hi - lo=0:=by omega
   rw [this] at hu;simp at hu
  ·rw [if_neg hml] at ha
   cases a with
   | none=>simp at ha
   | some a0 =>
    simp at ha
    subst ha
    rw [add_add]
    refine h.hcell a0 rfl _ u ?_
    rw [List.getElem?_take] at hu
    split at hu
    ·rw [List.getElem?_drop] at hu;exact hu
    ·cases hu
theorem Rd.ofOwn {w:World} {base e size n cap:Nat} {a:Option Addr} {xs:List Value} (h:w.ownsRow base e size (.slice a n cap) n xs):Rd w a n cap size xs:=by
 obtain ⟨hl,hd⟩:=h
 rcases hd with ⟨hv,h0⟩ | ⟨g,c,cur,hv,hb,hh,hnc,hcm,hcs,ht⟩
 ·simp only [Value.slice.injEq] at hv
  obtain ⟨rfl,rfl,rfl⟩:=hv
  refine ⟨hl,Nat.le_refl _,Nat.zero_le _,fun _=>List.eq_nil_of_length_eq_zero (by simpa using hl),fun _ h=>(by cases h)⟩
 ·simp only [Value.slice.injEq] at hv
  obtain ⟨rfl,_,rfl⟩:=hv
  refine ⟨hl,hnc,hcm,fun h=>(by cases h),fun ad ha j u hu=>?_⟩
  simp only [Option.some.injEq] at ha
  subst ha
  have hadd:(⟨g,0,none⟩:Addr).add j=⟨g,j,none⟩:=by unfold Addr.add;split<;>simp_all
  rw [hadd,cell_of_row w g j cur e (0,0) hh]
  rw [← ht,List.getElem?_take] at hu
  split at hu
  ·simpa using hu
  ·cases hu
theorem own_shape {w:World} {base e size n:Nat} {v:Value} {xs:List Value} (h:w.ownsRow base e size v n xs):∃a cap,v=.slice a n cap:=by
 obtain ⟨hl,hd⟩:=h
 rcases hd with ⟨hv,h0⟩ | ⟨g,c,cur,hv,_⟩
 ·subst h0;exact ⟨none,0,hv⟩
 ·exact ⟨_,c,hv⟩
theorem own_base {w:World} {base base' e size n:Nat} {v:Value} {xs:List Value} (h:w.ownsRow base e size v n xs) (hb:base'≤base):w.ownsRow base' e size v n xs:=by
 obtain ⟨hl,hd⟩:=h
 refine ⟨hl,?_⟩
 rcases hd with hn | ⟨g,c,cur,hv,hbg,rest⟩
 ·exact .inl hn
 ·exact .inr ⟨g,c,cur,hv,by omega,rest⟩
theorem below_grown {B:Nat} {w w1 w2:World} {a:Option Addr} {n cap base e size:Nat} {xs:List Value} (hb:Below B w w1) (hg:w1.grownBy w2 (Value.slice a n cap).ownBlock)
  (hown:w1.ownsRow base e size (.slice a n cap) n xs) (hB:B≤base) (hBs:B≤w1.heap.size):Below B w w2 :=
 hb.grown hg hBs (fun k hk=>by
  have:=(hown.lt k hk).1
  omega)
structure Src (P:Program) (w:World) (x:Value) (m size:Nat) (news:List Value):Prop where
 len:news.length=m * size
 lenOf:(Builtin.lenOf x).run P w=.ok m w
 cells:(Builtin.firstCells size m x).run P w=.ok news.toArray w
 cellsDrew:(Builtin.firstCells size m x).run P w.drew=.ok news.toArray w.drew
 one:∀u∈news,u.oneCell'=true
theorem Src.ofRd {P:Program} {w:World} {a:Option Addr} {n cap size:Nat} {xs:List Value} (h:Rd w a n cap size xs) (h1:∀u∈xs,u.oneCell'=true):Src P w (.slice a n cap) n size xs:=by
 refine ⟨h.hlen,by simp [Builtin.lenOf],?_,?_,h1⟩
 ·cases a with
  | none=>rw [run_firstCells_none,h.hnil rfl]
  | some ad=>exact run_firstCells_some w size n ad n cap xs h.hlen (h.hcell ad rfl)
 ·cases a with
  | none=>rw [run_firstCells_none,h.hnil rfl]
  | some ad=>exact run_firstCells_some w.drew size n ad n cap xs h.hlen (by simpa using h.hcell ad rfl)
section
variable {P:Program} (w:World)
theorem run_append_src (base:Nat) (t tx ty e:TypeId) (i:TypeInfo) (z:Value) (size bytes:Nat) (ht:P.underlying t=some (.slice e)) (htx:P.underlying tx=some (.slice e)∨P.underlying tx=some .string)
  (hi:P.info? e=some i) (hz:i.zero=some z)
  (hsize:i.size=size) (hby:i.bytes=bytes) (hzs:z.cells.size=size)
  (a:Option Addr) (n cap:Nat) (xs:List Value) (hown:w.ownsRow base e size (.slice a n cap) n xs)
  (x:Value) (m:Nat) (news:List Value) (hsrc:Src P w x m size news)
  (h63:n+m≤maxLen) (hbytes:(n+m) * bytes≤140737488355328) (hbase:base≤w.heap.size) :
  ∃a' cap' w',(Builtin.append_ #[t,tx] ty #[.slice a n cap,x]).run P w=.ok (.slice a' (n+m) cap') w'∧w'.ownsRow base e size (.slice a' (n+m) cap') (n+m) (xs++news)∧w.grownBy w' (Value.slice a n cap).ownBlock ∧
   (∀ad,a'=some ad→(a=some ad∨w.heap.size≤ad.block)):=by
 subst hsize
 subst hby
 have hsmall:n+m≤9223372036854775807:=by simp only [maxLen] at h63;omega
 have hl:=hsrc.len
 have hlen:(xs++news).length=(n+m) * i.size:=by rw [List.length_append,hown.1,hl,Nat.add_mul]
 have grown:∀ (old:Nat),old<n+m→∀ (row:Option Nat),
   (w.drew.alloc (.cells (xs.toArray++news.toArray++Builtin.zeroCells z.cells (grownCap w (n+m) old e - (n+m))) e)).ownsRow base e i.size
    (.slice (some ⟨w.heap.size,0,none⟩) (n+m) (grownCap w (n+m) old e)) (n+m) (xs++news) ∧
   w.grownBy (w.drew.alloc (.cells (xs.toArray++news.toArray++Builtin.zeroCells z.cells (grownCap w (n+m) old e - (n+m))) e)) row:=by
  intro old ho row
  have hge:=grownCap_ge w (n+m) old e
  have hcm:grownCap w (n+m) old e≤maxLen:=grownCap_le_maxLen w (n+m) old e h63
  refine ⟨⟨hlen,.inr ⟨w.heap.size,_,_,rfl,hbase,heap_alloc_new w.drew _,hge,hcm,?_,?_⟩⟩,⟨rfl,rfl,rfl,by simp,fun k hk _=>Below.heap_alloc w.drew _ k hk⟩⟩
  ·simp only [Array.size_append,List.size_toArray,size_zeroCells,hzs,hown.1,hl,← Nat.add_mul]
   congr 1
   omega
  ·simp only [Array.toList_append,List.append_assoc]
   rw [← List.append_assoc,← hlen]
   exact List.take_left
 have hfo:(Builtin.firstCells i.size n (.slice a n cap)).run P w.drew=.ok xs.toArray w.drew:=by
  have hrd:=Rd.ofOwn hown
  cases a with
  | none=>rw [run_firstCells_none,hrd.hnil rfl]
  | some ad=>exact run_firstCells_some w.drew i.size n ad n cap xs hrd.hlen (by simpa using hrd.hcell ad rfl)
 have hlo:=hsrc.lenOf
 have hce:=hsrc.cells
 have hcd:=hsrc.cellsDrew
 by_cases hroom:n+m≤cap
 ·rcases hown.2 with ⟨hv,h0⟩ | ⟨g,cap1,cur,hv,hbg,hg,hnc,hcm,hcs,htake⟩
  ·simp only [Value.slice.injEq] at hv
   obtain ⟨rfl,rfl,rfl⟩:=hv
   have hm0:m=0:=by omega
   subst hm0
   have hn:news=[]:=List.eq_nil_of_length_eq_zero (by simpa using hl)
   subst hn
   refine ⟨none,0,w,?_,?_,⟨rfl,rfl,rfl,Nat.le_refl _,fun _ _ _=>rfl⟩,fun _ h=>by cases h⟩
   ·rcases htx with htx | htx<;>simp [Builtin.append_,run_underlying ht,run_underlying htx,sizeOf,typeInfo,hi,hlo,hce]
   ·have hx:xs=[]:=List.eq_nil_of_length_eq_zero (by simpa using hown.1)
    subst hx
    exact World.ownsRow_nil w base e i.size
  ·simp only [Value.slice.injEq] at hv
   obtain ⟨rfl,_,rfl⟩:=hv
   have hfit:n * i.size+news.length≤cur.size:=by rw [hl,hcs,← Nat.add_mul];exact Nat.mul_le_mul_right _ hroom
   have hst:=run_storeCells_at P g (n * i.size) e news 0 cur w hg (by simpa using hfit) hsrc.one
   simp only [Nat.add_zero] at hst
   refine ⟨some ⟨g,0,none⟩,cap,_,?_,⟨hlen,.inr ⟨g,cap,_,rfl,hbg,setRow_heap w g cur (cur.toList.take (n * i.size)++news++cur.toList.drop (n * i.size+news.length)).toArray e _ hg,hroom,hcm,?_,?_⟩⟩,⟨rfl,rfl,rfl,by simp,fun k _ hk=>setRow_other w g k _ (fun e=>hk (by simp [Value.ownBlock,e]))⟩,fun ad h=>.inl h⟩
   ·rcases htx with htx | htx<;>simp [Builtin.append_,run_underlying ht,run_underlying htx,sizeOf,typeInfo,hi,hlo,hroom,hce,Addr.add_lit,hst]
   ·simp only [List.size_toArray,List.length_append,List.length_take,List.length_drop,Array.length_toList]
    omega
   ·rw [htake,← hlen]
    exact List.take_left
 ·have h48:¬ (281474976710656<Builtin.nextslicecap (n+m) cap * i.bytes):=by
   have:=growslice_fits (need:=n+m) (old:=cap) (bytes:=i.bytes) (by omega) hbytes;omega
  have h63':¬ (9223372036854775807<((n:Int)+(m:Int))):=by omega
  have hgr:=grown cap (by omega) (Value.slice a n cap).ownBlock
  refine ⟨some ⟨w.heap.size,0,none⟩,_,_,?_,hgr.1,hgr.2,fun ad h=>.inr (by simp only [Option.some.injEq] at h;subst h;exact Nat.le_refl _)⟩
  rcases htx with htx | htx <;>
   (simp [Builtin.append_,run_underlying ht,run_underlying htx,sizeOf,typeInfo,zeroValue,hi,hz,hlo,hroom,h63',h48,Question.forced,hfo,hcd,newRow,grownCap]
    congr 2;apply Array.ext';simp [List.append_assoc])
end
end Go.Proofs.YtlfghapllmaigaaGreatDoor
namespace Go.Proofs.YtlfghapllmaigaaGreatDoor
open Go.RowKit
structure SlT (P:Program) (t e:TypeId) (z:Value) (size bytes:Nat):Prop where
 ht:P.underlying t=some (.slice e)
 info:(P.info? e).map (fun i=>(i.zero,i.size,i.bytes))=some (some z,size,bytes)
 hz:z.cells.size=size
theorem wpList_append_src {P:Program} {w:World} {ops:Array Oper} {rest:List Oper} {o:Oper} {a:Act} {Q:Exit→Act→World→Prop} (hgd:Region.wanted o (yielded ops a.tmps)=true) (s x:Operand) (t tx:TypeId)
  (ho:o.op=.call { callee:=.builtin .append,args:=#[s,x],argTypes:=#[t,tx] })
  {e:TypeId} {z:Value} {size bytes:Nat} (hT:SlT P t e z size bytes) (htx:P.underlying tx=some (.slice e)∨P.underlying tx=some .string)
  {base:Nat} {a0:Option Addr} {n cap:Nat} {xs:List Value} (hs:a.eval s=.slice a0 n cap) (hown:w.ownsRow base e size (.slice a0 n cap) n xs)
  {xv:Value} {m:Nat} {news:List Value} (hx:a.eval x=xv) (hsrc:Src P w xv m size news)
  (hbytes:(n+m) * bytes≤140737488355328) (h63:n+m≤maxLen) (hbase:base≤w.heap.size)
  (h:∀a' cap' w',w'.ownsRow base e size (.slice a' (n+m) cap') (n+m) (xs++news)→w.grownBy w' (Value.slice a0 n cap).ownBlock→(∀ad,a'=some ad→(a0=some ad∨w.heap.size≤ad.block)) →
   wpList P ops Q rest (a.put o.dst (.slice a' (n+m) cap')) w'):wpList P ops Q (o::rest) a w:=by
 refine BigFrame.wpList_want hgd fun K hK=>?_
 obtain ⟨i,hi,hz,hsz,hby⟩:=info_parts hT.info
 obtain ⟨a',cap',w',hr,h2,h3,h4⟩:=run_append_src (P:=P) w base t tx o.type e i z size bytes hT.ht htx hi hz hsz hby hT.hz a0 n cap xs hown xv m news hsrc h63 hbytes hbase
 unfold Oper.wp execOp
 simp only [ho,resolve,invoke,builtin,Sem.run_bind,Sem.run_pure,Result.andThen_ok,List.map_toArray,List.map_cons,List.map_nil,hs,hx,hr]
 exact hK _ _ (h a' cap' w' h2 h3 h4)
theorem Src.oneNew {P:Program} (w:World) (v:Value) (e:TypeId) (hv:v.oneCell'=true):Src P (w.alloc (.cells #[v] e)) (.slice (some ⟨w.heap.size,0,none⟩) 1 1) 1 1 [v]:=by
 refine Src.ofRd (cap:=1) ⟨rfl,Nat.le_refl _,by unfold maxLen;omega,fun h=>(by cases h),fun ad ha j u hu=>?_⟩ (by intro u hu;simp at hu;subst hu;exact hv)
 simp only [Option.some.injEq] at ha
 subst ha
 match j,hu with
 | 0,hu =>
  simp at hu;subst hu
  rw [show (⟨w.heap.size,0,none⟩:Addr).add 0=⟨w.heap.size,0,none⟩ from rfl,cell_of_row _ w.heap.size 0 #[v] e (0,0) (heap_alloc_new w _)]
  rfl
end Go.Proofs.YtlfghapllmaigaaGreatDoor
namespace Go.Proofs.YtlfghapllmaigaaGreatDoor
open Go.RowKit
structure AggT (P:Program) (ty:TypeId) (size:Nat):Prop where
 agg:(P.underlying ty).map (fun d=>match d with | .struct _ | .array _ _=>true | _=>false)=some true
 info:(P.info? ty).map (·.size)=some size
theorem AggT.isAgg {P:Program} {ty:TypeId} {size:Nat} (h:AggT P ty size) (w:World):(Go.isAgg ty).run P w=.ok true w:=by
 obtain ⟨d,hu,hd⟩:=Option.map_eq_some_iff.1 h.agg
 unfold Go.isAgg
 rw [Sem.run_bind,run_underlying hu w]
 cases d<;>simp_all
theorem AggT.size {P:Program} {ty:TypeId} {size:Nat} (h:AggT P ty size) (w:World):(sizeOf ty).run P w=.ok size w:=by
 obtain ⟨i,hi,hs⟩:=Option.map_eq_some_iff.1 h.info
 simp [sizeOf,typeInfo,hi,hs]
theorem run_loadVar_agg {P:Program} {w:World} {ty:TypeId} {size:Nat} (hT:AggT P ty size) (ad:Addr) (cs:List Value) (hl:cs.length=size)
  (hc:∀j u,cs[j]?=some u→w.cell? (ad.add j)=some u):(loadVar ty ad).run P w=.ok (.agg cs.toArray) w:=by
 have h:=run_loadCells_list (P:=P) w ad cs hc
 rw [hl] at h
 simp [loadVar,Sem.run_bind,hT.isAgg,hT.size,h]
theorem block_cells {w:World} {g:Nat} {cur:Array Value} {e:TypeId} {fr:Nat×Nat} (hg:w.heap[g]?=some (.cells cur e fr)) (off:Nat) (cs:List Value) (hcs:∀j,j<cs.length→cur[off+j]?=cs[j]?) :
  ∀j u,cs[j]?=some u→w.cell? ((⟨g,off,none⟩:Addr).add j)=some u:=by
 intro j u hu
 have hadd:(⟨g,off,none⟩:Addr).add j=⟨g,off+j,none⟩:=by unfold Addr.add;split<;>simp_all
 have hj:j<cs.length:=(List.getElem?_eq_some_iff.1 hu).1
 rw [hadd,cell_of_row w g (off+j) cur e fr hg,hcs j hj,hu]
theorem wpList_store_fresh {P:Program} {w:World} {ops:Array Oper} {rest:List Oper} {o:Oper} {a:Act} {Q:Exit→Act→World→Prop} (hgd:Region.wanted o (yielded ops a.tmps)=true) (ty:TypeId) (x v:Operand) (ho:o.op=.store ty x v) (hdst:o.dst=none)
  {size:Nat} (hsz:(P.info? ty).map (·.size)=some size) {cur:Array Value} {e:TypeId} (hcur:cur.size=size) (hx:a.eval x=.pointer (some ⟨w.heap.size,0,none⟩)) {cs:List Value} (hv:(a.eval v).cells=cs.toArray) (hl:cs.length=size)
  (h1:∀u∈cs,u.oneCell'=true) (h:wpList P ops Q rest a (w.alloc (.cells cs.toArray e))):wpList P ops Q (o::rest) a (w.alloc (.cells cur e)):=by
 refine BigFrame.wpList_want hgd fun K hK=>?_
 obtain ⟨i,hi,hs⟩:=Option.map_eq_some_iff.1 hsz
 have hg:=heap_alloc_new w (.cells cur e)
 have hst:=run_storeCells_at P w.heap.size 0 e cs 0 cur (w.alloc (.cells cur e)) hg (by omega) h1
 have hrow:(w.alloc (.cells cur e)).setRow w.heap.size (cur.toList.take 0++cs++cur.toList.drop (0+cs.length)).toArray=w.alloc (.cells cs.toArray e):=by
  have hd:cur.toList.drop (0+cs.length)=[]:=List.drop_eq_nil_of_le (by rw [Array.length_toList];omega)
  rw [hd,List.take_zero,List.nil_append,List.append_nil]
  unfold World.setRow World.alloc
  congr 1
  apply Array.ext_getElem?
  intro k
  simp only [Array.getElem?_modify,Array.getElem?_push]
  by_cases hk:k=w.heap.size
  ·subst hk;simp
  ·rw [if_neg hk,if_neg hk,if_neg (Ne.symm hk)]
 simp only [Nat.add_zero] at hst
 rw [hrow] at hst
 have hrun:(Instr.storeAt ty (.pointer (some ⟨w.heap.size,0,none⟩)) (a.eval v)).run P (w.alloc (.cells cur e))=.ok () (w.alloc (.cells cs.toArray e)):=by
  simp [Instr.storeAt,Instr.sureAddr,storeVar,sizeOf,typeInfo,hi,hs,hl,hv,hst]
 unfold Oper.wp execOp
 simp only [ho,hx,Sem.run_bind,hrun,Result.andThen_ok,Sem.run_pure]
 have hp:a.put o.dst undef=a:=by rw [hdst];rfl
 show K (a.put o.dst undef) _
 rw [hp]
 exact hK _ _ h
end Go.Proofs.YtlfghapllmaigaaGreatDoor
namespace Go.Proofs.YtlfghapllmaigaaGreatDoor
open Go.RowKit
theorem fold_set (l:List Value) (pre suf:List Value) (h:suf.length=l.length) :
  (l.zipIdx pre.length).foldl (fun (cs:Array Value) (p:Value×Nat)=>cs.setIfInBounds p.2 p.1) (pre++suf).toArray=(pre++l).toArray:=by
 induction l generalizing pre suf with
 | nil=>have:suf=[]:=List.eq_nil_of_length_eq_zero (by simpa using h);subst this;simp
 | cons v l ih =>
  match suf,h with
  | s::suf,h =>
   rw [List.zipIdx_cons,List.foldl_cons]
   have e:((pre++s::suf).toArray.setIfInBounds pre.length v)=((pre++[v])++suf).toArray:=by
    rw [List.setIfInBounds_toArray,List.set_append_right _ _ (Nat.le_refl _)]
    simp
   simp only at e ⊢
   rw [e]
   have h2:=ih (pre++[v]) suf (by simpa using h)
   rw [List.length_append,List.length_singleton] at h2
   rw [h2]
   simp
theorem fold_all (l:List Value) (z:Array Value) (h:z.size=l.length) :
  l.zipIdx.foldl (fun (cs:Array Value) (p:Value×Nat)=>cs.setIfInBounds p.2 p.1) z=l.toArray:=by
 have:=fold_set l [] z.toList (by simpa using h)
 simpa using this
theorem wpList_lit_one {P:Program} {w:World} {ops:Array Oper} {rest:List Oper} {o:Oper} {a:Act} {Q:Exit→Act→World→Prop} (hgd:Region.wanted o (yielded ops a.tmps)=true) (t:TypeId) (x:Operand) (ho:o.op=.buildSlice t 1 #[(0,x)])
  {e:TypeId} {z:Value} {size bytes:Nat} (hT:SlT P t e z size bytes) {cs:List Value} (hx:(a.eval x).cells=cs.toArray) (hl:cs.length=size) (hs:size≤1000000) (hs0:0<size)
  (h:wpList P ops Q rest (a.put o.dst (.slice (some ⟨w.heap.size,0,none⟩) 1 1)) (w.alloc (.cells cs.toArray e))):wpList P ops Q (o::rest) a w:=by
 refine BigFrame.wpList_want hgd fun K hK=>?_
 obtain ⟨i,hi,hz,hsz,hby⟩:=info_parts hT.info
 have hfa:=fold_all cs ((Array.range size).map (z.cells[· % z.cells.size]!)) (by simp [hl])
 have h0:¬ (16777216<size):=by omega
 have h1:¬ size=0:=by omega
 have hrun:(Instr.buildSlice t 1 #[(0,a.eval x)]).run P w=.ok (.slice (some ⟨w.heap.size,0,none⟩) 1 1) (w.alloc (.cells cs.toArray e)):=by
  simp [Instr.buildSlice,run_underlying hT.ht,sizeOf,typeInfo,zeroValue,hi,hz,hsz,h0,h1,Instr.fill,hx,hl,newRow,hfa]
 unfold Oper.wp execOp
 simp only [ho,List.map_toArray,List.map_cons,List.map_nil,Sem.run_bind,hrun,Result.andThen_ok,Sem.run_pure]
 exact hK _ _ h
theorem results_cell2 {P:Program} {w:World} {fn:Func} {p t:Tmp} {ty:TypeId} (h:fn.results=#[.cell p ty,.tmp t]) (tmps:Array Value) {g:Nat} {e:TypeId} {cs:List Value} {fr:Nat×Nat}
  (hp:tmps.getD p undef=.pointer (some ⟨g,0,none⟩)) (hg:w.heap[g]?=some (.cells cs.toArray e fr)) (hT:AggT P ty cs.length) :
  (results fn tmps).run P w=.ok (.tuple #[.agg cs.toArray,tmps.getD t undef]) w:=by
 have hp':tmps[p]?.getD undef=.pointer (some ⟨g,0,none⟩):=by simpa using hp
 have hl:=run_loadVar_agg (P:=P) (w:=w) hT ⟨g,0,none⟩ cs rfl (block_cells hg 0 cs (fun j hj=>by simp))
 simp [results,h,hp',asAddr,hl]
end Go.Proofs.YtlfghapllmaigaaGreatDoor
namespace Go.Proofs.YtlfghapllmaigaaGreatDoor
open Go.RowKit
end Go.Proofs.YtlfghapllmaigaaGreatDoor
namespace Go.Proofs.YtlfghapllmaigaaGreatDoor
open Go.RowKit
end Go.Proofs.YtlfghapllmaigaaGreatDoor
namespace Go.Proofs.YtlfghapllmaigaaGreatDoor
open Go.RowKit
theorem wf_i64_bd {n:Int} (h:(Lit.int .i64 n).wf=true):-9223372036854775808≤n∧n≤9223372036854775807:=by
 simp [Lit.wf,IntKind.min,IntKind.max,IntKind.signed,IntKind.bits] at h;omega
end Go.Proofs.YtlfghapllmaigaaGreatDoor
namespace Go.Proofs.YtlfghapllmaigaaGreatDoor
open Go.RowKit Go.WideShapes
theorem flat_cell {w:World} {a:Addr} {size:Nat}:∀ (css:List (List Value)) (k:Nat),(∀cs∈css,cs.length=size)→(∀i (hi:i<css.length) r,r<size→w.cell? (a.add ((k+i) * size+r))=(css[i])[r]?) →
  ∀j u,css.flatten[j]?=some u→w.cell? (a.add (k * size+j))=some u
 | [],_,_,_,j,u,hu=>by simp at hu
 | c::css,k,hl,hc,j,u,hu=>by
  have h0:=hl c (by simp)
  rw [List.flatten_cons] at hu
  rcases Nat.lt_or_ge j size with h | h
  ·rw [List.getElem?_append_left (by omega)] at hu
   have:=hc 0 (by simp) j h
   rw [Nat.add_zero] at this
   rw [this];exact hu
  ·rw [List.getElem?_append_right (by omega),h0] at hu
   have:=flat_cell css (k+1) (fun x hx=>hl x (by simp [hx])) (fun i hi r hr=>by
    have:=hc (i+1) (by simp;omega) r hr
    rw [show k+(i+1)=k+1+i from by omega] at this
    rw [this];simp) (j - size) u hu
   rw [Nat.add_mul,Nat.one_mul,show k * size+size+(j - size)=k * size+j from by omega] at this
   exact this
section
variable {H:Type} {enc:TypeId×Value→H} {P:Program} {w:World}
def Elem (enc:TypeId×Value→H) (P:Program) (w:World) (e:TypeId) (cs:List Value) (d:DataW H):Prop:=∃n pl,DataW.trod enc P w 0 (fun _=>true) true n e cs=some (d,pl)
theorem open_rows {t e:TypeId} {v:Value} {d:DataW H} {p:List MemPlace} (ht:P.underlying t=some (.slice e)) {r:Reach} {b0:Nat} (hv:Value.okWide P w r b0 t v) (h:DataW.Trod enc P w 0 (fun _=>true) true t v d p) :
  ∃ (a:Option Addr) (len cap:Nat) (css:List (List Value)) (els spare:List (DataW H)),v=.slice a len cap∧css.length=len∧els.length=len∧Rd w a len cap (P.cellsOf e) css.flatten∧(∀cs∈css,cs.length=P.cellsOf e) ∧
   len+spare.length=cap∧((d=.slice els spare)∨(d=.nil∧els=[]∧spare=[]))∧(∀i (hi:i<css.length) (hj:i<els.length),Elem enc P w e css[i] els[i]):=by
 obtain ⟨a0,l0,c0,rfl⟩:=okWide_slice ht hv
 obtain ⟨fuel,hf⟩:=h
 rcases Deep.open_slice ht hf with ⟨hcs,hx⟩ | ⟨a,len,cap,m,n,D,Pl,hcs,_,hl,hm,hmm,hx,hel⟩
 ·simp [Value.cells] at hcs
  obtain ⟨rfl,rfl,rfl⟩:=hcs
  simp only [Prod.mk.injEq] at hx
  exact ⟨none,0,0,[],[],[],rfl,rfl,rfl,Rd.nilSlice w _,by simp,rfl,.inr ⟨hx.1,rfl,rfl⟩,fun i hi=>by simp at hi⟩
 ·simp [Value.cells] at hcs
  obtain ⟨rfl,rfl,rfl⟩:=hcs
  simp only [if_true] at hmm
  subst hmm
  simp only [Prod.mk.injEq] at hx
  have hC:∀i,i<m→∃cs',w.cells? 0 (a.add (i * P.cellsOf e)) (P.cellsOf e)=some cs'∧cs'=(w.cells? 0 (a.add (i * P.cellsOf e)) (P.cellsOf e)).getD []∧DataW.trod enc P w 0 (fun _=>true) true n e cs'=some (D i,Pl i):=fun i hi=>by
   obtain ⟨cs',h1,h2⟩:=hel i hi
   exact ⟨cs',h1,by rw [h1];rfl,h2⟩
  have hlen:∀cs∈(List.range l0).map (fun i=>(w.cells? 0 (a.add (i * P.cellsOf e)) (P.cellsOf e)).getD []),cs.length=P.cellsOf e:=by
   intro cs hcs
   obtain ⟨i,hi,rfl⟩:=List.mem_map.1 hcs
   obtain ⟨cs',h1,h2,h3⟩:=hC i (by have:=List.mem_range.1 hi;omega)
   rw [← h2];exact (World.cells?_some h1).2.1
  refine ⟨some a,l0,m,(List.range l0).map (fun i=>(w.cells? 0 (a.add (i * P.cellsOf e)) (P.cellsOf e)).getD []),(List.range l0).map D,(List.range (m - l0)).map fun j=>D (l0+j),rfl,by simp,by simp,
   ⟨?_,hl,hm,fun h=>(by cases h),fun ad ha j u hu=>?_⟩,hlen,by simp;omega,.inl hx.1,fun i hi hj=>?_⟩
  ·have:∀css:List (List Value),(∀cs∈css,cs.length=P.cellsOf e)→css.flatten.length=css.length * P.cellsOf e:=by
    intro css
    induction css with
    | nil=>simp
    | cons c css ih=>intro h;rw [List.flatten_cons,List.length_append,h c (by simp),ih (fun x hx=>h x (by simp [hx])),List.length_cons,Nat.add_mul];omega
   rw [this _ hlen];simp
  ·simp only [Option.some.injEq] at ha;subst ha
   have:=flat_cell (w:=w) (a:=a) (size:=P.cellsOf e) _ 0 hlen (fun i hi r hr=>by
    simp only [List.length_map,List.length_range] at hi
    obtain ⟨cs',h1,h2,h3⟩:=hC i (by omega)
    have hh:=(World.cells?_some h1).2.2 r hr
    rw [add_add] at hh
    rw [List.getElem_map,List.getElem_range,← h2,Nat.zero_add];exact hh) j u hu
   rwa [Nat.zero_mul,Nat.zero_add] at this
  ·simp only [List.length_map,List.length_range] at hi
   obtain ⟨cs',h1,h2,h3⟩:=hC i (by omega)
   refine ⟨n,Pl i,?_⟩
   rw [List.getElem_map,List.getElem_range,List.getElem_map,List.getElem_range,← h2];exact h3
theorem open_all {α:Type} {e:TypeId} (cell:α→List Value) (dat:α→DataW H) (ok:α→Prop) (hone:∀cs d,Elem enc P w e cs d→∃x,cs=cell x∧d=dat x∧ok x) :
  ∀ (css:List (List Value)) (els:List (DataW H)),css.length=els.length→(∀i (hi:i<css.length) (hj:i<els.length),Elem enc P w e css[i] els[i])→∃xs:List α,css=xs.map cell∧els=xs.map dat∧∀x∈xs,ok x
 | [],[],_,_=>⟨[],rfl,rfl,by simp⟩
 | c::css,d::els,hl,h=>by
  obtain ⟨x,rfl,rfl,hx⟩:=hone c d (h 0 (by simp) (by simp))
  obtain ⟨xs,rfl,rfl,hxs⟩:=open_all cell dat ok hone css els (by simpa using hl) (fun i hi hj=>by
   have:=h (i+1) (by simp;omega) (by simp;omega)
   simpa using this)
  refine ⟨x::xs,rfl,rfl,fun y hy=>?_⟩
  rcases List.mem_cons.1 hy with rfl | hy
  ·exact hx
  ·exact hxs y hy
 | [],_::_,hl,_=>by simp at hl
 | _::_,[],hl,_=>by simp at hl
theorem elem_int {e:TypeId} {k:IntKind} (he:P.underlying e=some (.int k)) {cs:List Value} {d:DataW H} (h:Elem enc P w e cs d):∃x:Int,cs=[.int k x]∧d=.lit (.int k x)∧(Lit.int k x).wf=true:=by
 obtain ⟨n,pl,h⟩:=h
 obtain ⟨x,rfl,hx,hs⟩:=DataW.trod_int he h
 simp only [Prod.mk.injEq] at hx
 exact ⟨x,rfl,hx.1,hs⟩
end
theorem below_trodAll {H:Type} {enc:TypeId×Value→H} {P:Program} {W W':World} (hl:laidOutB P=true) (hb:Below W.heap.size W W') :
  ∀ {ts:List TypeId} {vs:List Value} {ds:List (DataW H)} {ps:List MemPlace},ts.all (fun t=>P.readableRec t&&decide (t<P.types.size))=true→DataW.TrodAll enc P W 0 (fun _=>true) true ts vs ds ps→DataW.TrodAll enc P W' 0 (fun b=>decide (b<W.heap.size)) true ts vs ds ps
 | [],[],[],_,_,h=>h
 | t::ts,v::vs,d::ds,_,hr,h=>by
  simp only [List.all_cons,Bool.and_eq_true,decide_eq_true_eq] at hr
  obtain ⟨p,q,h1,h2,rfl⟩:=h
  refine ⟨p,q,Below.trod hl hr.1.1 hr.1.2 h1 hb (by obtain ⟨m,hm⟩:=h1;exact DataW.trod_lt m _ _ _ hm),below_trodAll hl hb hr.2 h2,rfl⟩
 | [],[],_::_,_,_,h=>by simp [DataW.TrodAll] at h
 | [],_::_,_,_,_,h=>by simp [DataW.TrodAll] at h
 | _::_,[],_,_,_,h=>by simp [DataW.TrodAll] at h
 | _::_,_::_,[],_,_,h=>by simp [DataW.TrodAll] at h
end Go.Proofs.YtlfghapllmaigaaGreatDoor
namespace Go.Proofs.YtlfghapllmaigaaGreatDoor
open Go.RowKit
section
variable {H:Type} {enc:TypeId×Value→H} {P:Program} {w:World}
theorem elem_struct {t:TypeId} {fs:Array Field} (ht:P.underlying t=some (.struct fs)) {cs:List Value} {d:DataW H} (h:Elem enc P w t cs d) :
  cs.length=P.cellsOf t∧∃els:List (DataW H),els.length=fs.size∧d=.agg els∧∀ (i:Nat) (f:Field),fs[i]?=some f→∃ (hi:i<els.length),Elem enc P w f.type ((cs.drop f.offset).take (P.cellsOf f.type)) els[i]:=by
 obtain ⟨m,pl,h⟩:=h
 obtain ⟨xs,m',rfl,hx,hl,hn,hi⟩:=DataW.trod_struct ht h
 simp only [Prod.mk.injEq] at hx
 refine ⟨hl,xs.map (·.1),by simpa using hn,hx.1,fun i f hf=>?_⟩
 have h1:=(Array.getElem?_eq_some_iff.1 hf).1
 have:=hi i f hf
 rw [List.getElem?_eq_getElem (by omega)] at this
 exact ⟨by rw [List.length_map];omega,m',(xs[i]'(by omega)).2,by rw [this];simp⟩
end
end Go.Proofs.YtlfghapllmaigaaGreatDoor
namespace Go.Proofs.YtlfghapllmaigaaGreatDoor
open Go.RowKit
theorem heap_at {w:World} {o:Obj} {k:Nat} (h:k=w.heap.size):(w.alloc o).heap[k]?=some o:=by subst h;exact heap_alloc_new w o
theorem rd_newAt {w:World} {arr:Array Value} {cs:List Value} {e:TypeId} {n g size:Nat} (hg:g=w.heap.size) (ha:arr=cs.toArray) (hn:cs.length=n * size) (hm:n≤maxLen):Rd (w.alloc (.cells arr e)) (some ⟨g,0,none⟩) n n size cs:=by
 subst hg;subst ha
 exact ⟨hn,Nat.le_refl _,hm,fun h=>(by cases h),fun ad ha j u hu=>by
  simp only [Option.some.injEq] at ha;subst ha
  exact block_cells (heap_alloc_new w _) 0 cs (fun j hj=>by simp) j u hu⟩
theorem _root_.Go.RowKit.Below.call {B:Nat} {w w1 w2:World} {o:Obj} (h:Below B w w1) (hB:B≤w.heap.size) (hb:Below (w1.alloc o).heap.size (w1.alloc o) w2):Below B w w2 :=
 (h.alloc (Nat.le_trans hB h.size) o).trans (hb.mono (by have:=h.size;simp;omega))
theorem _root_.Go.RowKit.Below.call0 {B:Nat} {w w1 w2:World} (h:Below B w w1) (hB:B≤w.heap.size) (hb:Below w1.heap.size w1 w2):Below B w w2 :=
 h.trans (hb.mono (Nat.le_trans hB h.size))
theorem _root_.Go.RowKit.Below.new {B:Nat} {w w1:World} (h:Below B w w1) (hB:B≤w.heap.size) (o:Obj):Below B w (w1.alloc o):=h.alloc (Nat.le_trans hB h.size) o
theorem Rd.alloc {w1:World} {a:Option Addr} {n cap size:Nat} {xs:List Value} (h:Rd w1 a n cap size xs) (o:Obj):Rd (w1.alloc o) a n cap size xs :=
 h.below ((Below.refl w1.heap.size w1).alloc (Nat.le_refl _) o) (Nat.le_refl _)
theorem Rd.drew {w1:World} {a:Option Addr} {n cap size:Nat} {xs:List Value} (h:Rd w1 a n cap size xs):Rd w1.drew a n cap size xs:=⟨h.hlen,h.hcap,h.hmax,h.hnil,h.hcell⟩
theorem Rd.pre {w:World} {a:Option Addr} {n cap:Nat} {xs:List Value} (h:Rd w a n cap 1 xs) (u:Nat) (hu:u≤n):Rd w a u cap 1 (xs.take u) :=
 ⟨by rw [List.length_take];have:=h.hlen;omega,Nat.le_trans hu h.hcap,h.hmax,fun ha=>by rw [h.hnil ha];simp,fun ad ha j v hv=>by
  rw [List.getElem?_take] at hv
  split at hv
  ·exact h.hcell ad ha j v hv
  ·cases hv⟩
def intVals (xs:List Int):List Value:=xs.map (Value.int .i64)
theorem intVals_length (xs:List Int):(intVals xs).length=xs.length:=by simp [intVals]
def RetV (v:Value) (w:World) (e:Ending) (w':World):Prop:=e=.returned v∧Below w.heap.size w w'
end Go.Proofs.YtlfghapllmaigaaGreatDoor
namespace Go.Proofs.YtlfghapllmaigaaGreatDoor
end Go.Proofs.YtlfghapllmaigaaGreatDoor
namespace Go.Proofs.YtlfghapllmaigaaGreatDoor
open Go.RowKit
def Blk (w:World) (g:Nat) (ty:TypeId) (cs:List Value):Prop:=w.heap[g]?=some (.cells cs.toArray ty (0,0))
section
variable {w w':World} {g:Nat} {ty:TypeId} {cs:List Value}
theorem Blk.lt (h:Blk w g ty cs):g<w.heap.size:=lt_of_block h
theorem Blk.cellOf (h:Blk w g ty cs) {i:Nat} {v:Value} (hv:cs[i]?=some v):w.cell? ⟨g,i,none⟩=some v:=by
 rw [cell_of_row w g i cs.toArray ty (0,0) h];simpa using hv
theorem Blk.free (h:Blk w g ty cs) (i:Nat):w.frozen? ⟨g,i,none⟩=false:=by
 unfold Blk at h;simp [World.frozen?,h]
theorem Blk.agg (h:Blk w g ty cs):∀j u,cs[j]?=some u→w.cell? ((⟨g,0,none⟩:Addr).add j)=some u :=
 block_cells h 0 cs (fun j hj=>by simp)
theorem Blk.set (h:Blk w g ty cs) (i:Nat) (v:Value):Blk (w.setCell ⟨g,i,none⟩ v) g ty (cs.set i v):=by
 have hlt:=h.lt
 unfold Blk at h ⊢
 have h':w.heap[g]=.cells cs.toArray ty (0,0):=by simpa [Array.getElem?_eq_getElem hlt] using h
 show (w.heap.modify g _)[g]?=_
 rw [Array.getElem?_eq_getElem (by simpa using hlt),Array.getElem_modify_self,h']
 simp
theorem Blk.other (h:Blk w g ty cs) {p:Addr} (hk:g≠p.block) (v:Value):Blk (w.setCell p v) g ty cs:=by
 unfold Blk at h ⊢
 rw [Below.heap_setCell _ _ _ _ hk];exact h
theorem Blk.below (h:Blk w g ty cs) {B:Nat} (hb:Below B w w') (hB:w.heap.size≤B):Blk w' g ty cs:=by
 have:=h.lt
 unfold Blk at h ⊢
 rw [hb.block g (by omega)];exact h
theorem Blk.call0 (h:Blk w g ty cs) (hb:Below w.heap.size w w'):Blk w' g ty cs:=h.below hb (Nat.le_refl _)
theorem Blk.drew (h:Blk w g ty cs):Blk w.drew g ty cs:=h
theorem Blk.drewN (h:Blk w g ty cs) (n:Nat):Blk (w.drewN n) g ty cs:=h
theorem below_drewN {B:Nat} {a w:World} (h:Below B a w) (n:Nat):Below B a (w.drewN n):=⟨h.os,h.tape,h.output,h.size,h.block⟩
theorem Blk.alloc (h:Blk w g ty cs) (o:Obj):Blk (w.alloc o) g ty cs:=h.call0 ((Below.refl _ _).alloc (Nat.le_refl _) o)
theorem Blk.new {k:Nat} {arr:Array Value} (hk:k=w.heap.size) (ha:arr=cs.toArray):Blk (w.alloc (.cells arr ty)) k ty cs:=by subst ha;exact heap_at hk
theorem Blk.row (h:Blk w g ty cs) (ds:List Value):Blk (w.setRow g ds.toArray) g ty ds:=setRow_heap w g cs.toArray ds.toArray ty _ h
theorem Blk.rowOther (h:Blk w g ty cs) {k:Nat} (hk:g≠k) (ds:Array Value):Blk (w.setRow k ds) g ty cs:=by
 unfold Blk at h ⊢
 rw [setRow_other w k g _ hk];exact h
theorem below_setRow {B:Nat} {a w:World} (h:Below B a w) {g:Nat} (hg:B≤g) (ds:Array Value):Below B a (w.setRow g ds) :=
 h.trans ⟨rfl,rfl,rfl,by simp,fun k hk=>setRow_other w g k _ (by omega)⟩
end
theorem wpList_store_row {P:Program} {w:World} {ops:Array Oper} {rest:List Oper} {o:Oper} {a:Act} {Q:Exit→Act→World→Prop} (hgd:Region.wanted o (yielded ops a.tmps)=true) (ty:TypeId) (x v:Operand) (ho:o.op=.store ty x v) (hdst:o.dst=none)
  {size g:Nat} (hsz:(P.info? ty).map (·.size)=some size) {e:TypeId} {cur:List Value} (hb:Blk w g e cur) (hcur:cur.length=size) (hx:a.eval x=.pointer (some ⟨g,0,none⟩)) {cs:List Value} (hv:(a.eval v).cells=cs.toArray) (hl:cs.length=size)
  (h1:∀u∈cs,u.oneCell'=true) (h:wpList P ops Q rest a (w.setRow g cs.toArray)):wpList P ops Q (o::rest) a w:=by
 refine BigFrame.wpList_want hgd fun K hK=>?_
 obtain ⟨i,hi,hs⟩:=Option.map_eq_some_iff.1 hsz
 have hst:=run_storeCells_at P g 0 e cs 0 cur.toArray w hb (by simp;omega) h1
 have hd:cur.toArray.toList.drop (0+cs.length)=[]:=List.drop_eq_nil_of_le (by simp;omega)
 rw [hd,List.take_zero,List.nil_append,List.append_nil] at hst
 have hrun:(Instr.storeAt ty (.pointer (some ⟨g,0,none⟩)) (a.eval v)).run P w=.ok () (w.setRow g cs.toArray):=by
  simp [Instr.storeAt,Instr.sureAddr,storeVar,sizeOf,typeInfo,hi,hs,hl,hv,hst]
 unfold Oper.wp execOp
 simp only [ho,hx,Sem.run_bind,hrun,Result.andThen_ok,Sem.run_pure]
 have hp:a.put o.dst undef=a:=by rw [hdst];rfl
 show K (a.put o.dst undef) _
 rw [hp]
 exact hK _ _ h
end Go.Proofs.YtlfghapllmaigaaGreatDoor
namespace Go.Proofs.YtlfghapllmaigaaGreatDoor
open Go.RowKit
end Go.Proofs.YtlfghapllmaigaaGreatDoor
