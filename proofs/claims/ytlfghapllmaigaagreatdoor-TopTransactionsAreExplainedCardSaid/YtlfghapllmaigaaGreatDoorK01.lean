/-
  General lemmas on memory: regions that draw, blocks of a call, many own objects. Conditions: each theorem's own hypotheses.
-/
import Derived.Test.YtlfghapllmaigaaGreatDoorK00
import Derived.Deep.RegionHeld3
import Derived.Laws.CopyOwn
import Derived.Lib.ConvBytes
import Derived.Laws.MakeOwn
import Derived.Maps.OwnSet
namespace Go.Proofs.YtlfghapllmaigaaGreatDoor
open Go.RowKit
structure Box (p:Prop):Prop where
 out:p
theorem yieldsIf_load_agg {P:Program} {ops:Array Oper} {S:World→Prop} {o:Oper} {a:Act} (hw:Region.wanted o (yielded ops a.tmps)=true) (ty:TypeId) (x:Operand) (ho:o.op=.load ty x) {size:Nat} (hT:AggT P ty size)
  {ad:Addr} (hx:a.eval x=.pointer (some ad)) {cs:List Value} (hl:cs.length=size) (hc:∀w',S w'→∀j u,cs[j]?=some u→w'.cell? (ad.add j)=some u):YieldsIf P ops S o (.agg cs.toArray) a :=
 Or.inl ⟨hw,fun w' hS=>by
  unfold execOp
  simp only [ho,hx,Instr.loadAt,Instr.sureAddr,Sem.run_bind,Sem.run_pure,Result.andThen_ok,run_loadVar_agg hT ad cs hl (hc w' hS)]⟩
theorem yieldsIf_val {P:Program} {ops:Array Oper} {S:World→Prop} {o:Oper} {a:Act} (hw:Region.wanted o (yielded ops a.tmps)=true) {v:Value} (h:∀w',S w'→(execOp a.eval o).run P w'=.ok (.value v) w'):YieldsIf P ops S o v a:=Or.inl ⟨hw,h⟩
theorem oper_store_row {P:Program} {w:World} {ops:Array Oper} {o:Oper} {a:Act} {K:Act→World→Prop} {Q:Exit→Act→World→Prop} (hgd:Region.wanted o (yielded ops a.tmps)=true) (ty:TypeId) (x v:Operand) (ho:o.op=.store ty x v) (hdst:o.dst=none)
  {size g:Nat} (hsz:(P.info? ty).map (·.size)=some size) {e:TypeId} {cur:List Value} (hb:Blk w g e cur) (hcur:cur.length=size) (hx:a.eval x=.pointer (some ⟨g,0,none⟩)) {cs:List Value} (hv:(a.eval v).cells=cs.toArray) (hl:cs.length=size)
  (h1:∀u∈cs,u.oneCell'=true) (h:K a (w.setRow g cs.toArray)):if Region.wanted o (yielded ops a.tmps)=true then Oper.wp P o a w K Q else K (a.put o.dst undef) w:=by
 rw [if_pos hgd]
 obtain ⟨i,hi,hs⟩:=Option.map_eq_some_iff.1 hsz
 have hst:=run_storeCells_at P g 0 e cs 0 cur.toArray w hb (by simp;omega) h1
 have hd:cur.toArray.toList.drop (0+cs.length)=[]:=List.drop_eq_nil_of_le (by simp;omega)
 rw [hd,List.take_zero,List.nil_append,List.append_nil] at hst
 have hrun:(Instr.storeAt ty (.pointer (some ⟨g,0,none⟩)) (a.eval v)).run P w=.ok () (w.setRow g cs.toArray):=by
  simp [Instr.storeAt,Instr.sureAddr,storeVar,sizeOf,typeInfo,hi,hs,hl,hv,hst]
 unfold Oper.wp execOp
 simp only [ho,hx,Sem.run_bind,hrun,Result.andThen_ok,Sem.run_pure]
 have hp:a.put o.dst undef=a:=by rw [hdst];rfl
 show K (a.put o.dst undef) _
 rw [hp]
 exact h
theorem oper_alloc {P:Program} {w:World} {ops:Array Oper} {o:Oper} {a:Act} {K:Act→World→Prop} {Q:Exit→Act→World→Prop} (hgd:Region.wanted o (yielded ops a.tmps)=true) (ty:TypeId) (ho:o.op=.alloc ty)
  {z:Value} (hz:(P.info? ty).map (·.zero)=some (some z)) {zc:Array Value} (hzc:z.cells=zc) (h:K (a.put o.dst (.pointer (some ⟨w.heap.size,0,none⟩))) (w.alloc (.cells zc ty))) :
  if Region.wanted o (yielded ops a.tmps)=true then Oper.wp P o a w K Q else K (a.put o.dst undef) w:=by
 rw [if_pos hgd]
 obtain ⟨i,hi,hs⟩:=Option.map_eq_some_iff.1 hz
 subst hzc
 unfold Oper.wp execOp
 simp [ho,Instr.alloc,zeroValue,typeInfo,hi,hs,newVar,newRow]
 exact h
end Go.Proofs.YtlfghapllmaigaaGreatDoor
namespace Go.Proofs.YtlfghapllmaigaaGreatDoor
open Go.RowKit
theorem wpList_store_part {P:Program} {w:World} {ops:Array Oper} {rest:List Oper} {o:Oper} {a:Act} {Q:Exit→Act→World→Prop} (hgd:Region.wanted o (yielded ops a.tmps)=true) (ty:TypeId) (x v:Operand) (ho:o.op=.store ty x v) (hdst:o.dst=none)
  {size g off:Nat} (hsz:(P.info? ty).map (·.size)=some size) {e:TypeId} {cur:List Value} (hb:Blk w g e cur) (hcur:off+size≤cur.length) (hx:a.eval x=.pointer (some ⟨g,off,none⟩)) {cs:List Value} (hv:(a.eval v).cells=cs.toArray) (hl:cs.length=size)
  (h1:∀u∈cs,u.oneCell'=true) (h:wpList P ops Q rest a (w.setRow g (splice cur off cs).toArray)):wpList P ops Q (o::rest) a w:=by
 refine BigFrame.wpList_want hgd fun K hK=>?_
 obtain ⟨i,hi,hs⟩:=Option.map_eq_some_iff.1 hsz
 have hst:=run_storeCells_at P g off e cs 0 cur.toArray w hb (by simp;omega) h1
 simp only [Nat.add_zero,List.append_assoc] at hst
 have hrun:(Instr.storeAt ty (.pointer (some ⟨g,off,none⟩)) (a.eval v)).run P w=.ok () (w.setRow g (splice cur off cs).toArray):=by
  simp [Instr.storeAt,Instr.sureAddr,storeVar,sizeOf,typeInfo,hi,hs,hl,hv,hst,splice]
 unfold Oper.wp execOp
 simp only [ho,hx,Sem.run_bind,hrun,Result.andThen_ok,Sem.run_pure]
 have hp:a.put o.dst undef=a:=by rw [hdst];rfl
 show K (a.put o.dst undef) _
 rw [hp]
 exact hK _ _ h
theorem oper_call {P:Program} {w:World} {ops:Array Oper} {o:Oper} {a:Act} {K:Act→World→Prop} {Q:Exit→Act→World→Prop} (hgd:Region.wanted o (yielded ops a.tmps)=true) (f:FuncId) (xs:List Operand) (ts:Array TypeId)
  (ho:o.op=.call { callee:=.value (.func f),args:=xs.toArray,argTypes:=ts }) {vs:List Value} (hvs:xs.map a.eval=vs) {fn:Func} (hfn:P.funcs[f]?=some fn) (hn:(fn.name == "runtime.NumGoroutine")=false) (hbd:fn.body.isNone=false) {R:Ending→World→Prop} (hc:Calls P f vs.toArray w R)
  (h:∀e w',R e w'→∃v,e=.returned v∧K (a.put o.dst v) w'):if Region.wanted o (yielded ops a.tmps)=true then Oper.wp P o a w K Q else K (a.put o.dst undef) w:=by
 rw [if_pos hgd]
 have hr:(execOp a.eval o).run P w=.ok (.enter f vs.toArray) w:=by
  unfold execOp
  simp [ho,resolve,invoke,hvs,Act.eval,Deferred.ofValue,callFunc,hfn]
  rw [if_neg (by simpa using hn),if_neg (by intro h;rw [h] at hbd;cases hbd)]
 unfold Oper.wp
 rw [hr,Oper.upon_enter]
 exact hc.mono fun e w' he=>by
  obtain ⟨v,rfl,hk⟩:=h e w' he
  exact hk
theorem oper_store_part {P:Program} {w:World} {ops:Array Oper} {o:Oper} {a:Act} {K:Act→World→Prop} {Q:Exit→Act→World→Prop} (hgd:Region.wanted o (yielded ops a.tmps)=true) (ty:TypeId) (x v:Operand) (ho:o.op=.store ty x v) (hdst:o.dst=none)
  {size g off:Nat} (hsz:(P.info? ty).map (·.size)=some size) {e:TypeId} {cur:List Value} (hb:Blk w g e cur) (hcur:off+size≤cur.length) (hx:a.eval x=.pointer (some ⟨g,off,none⟩)) {cs:List Value} (hv:(a.eval v).cells=cs.toArray) (hl:cs.length=size)
  (h1:∀u∈cs,u.oneCell'=true) (h:K a (w.setRow g (splice cur off cs).toArray)):if Region.wanted o (yielded ops a.tmps)=true then Oper.wp P o a w K Q else K (a.put o.dst undef) w:=by
 rw [if_pos hgd]
 obtain ⟨i,hi,hs⟩:=Option.map_eq_some_iff.1 hsz
 have hst:=run_storeCells_at P g off e cs 0 cur.toArray w hb (by simp;omega) h1
 simp only [Nat.add_zero,List.append_assoc] at hst
 have hrun:(Instr.storeAt ty (.pointer (some ⟨g,off,none⟩)) (a.eval v)).run P w=.ok () (w.setRow g (splice cur off cs).toArray):=by
  simp [Instr.storeAt,Instr.sureAddr,storeVar,sizeOf,typeInfo,hi,hs,hl,hv,hst,splice]
 unfold Oper.wp execOp
 simp only [ho,hx,Sem.run_bind,hrun,Result.andThen_ok,Sem.run_pure]
 have hp:a.put o.dst undef=a:=by rw [hdst];rfl
 show K (a.put o.dst undef) _
 rw [hp]
 exact h
theorem oper_val {P:Program} {w:World} {ops:Array Oper} {o:Oper} {a:Act} {K:Act→World→Prop} {Q:Exit→Act→World→Prop} (hgd:Region.wanted o (yielded ops a.tmps)=true) {v:Value} (hrun:(execOp a.eval o).run P w=.ok (.value v) w)
  (h:K (a.put o.dst v) w):if Region.wanted o (yielded ops a.tmps)=true then Oper.wp P o a w K Q else K (a.put o.dst undef) w:=by
 rw [if_pos hgd]
 unfold Oper.wp
 rw [hrun];exact h
theorem oper_lit2 {P:Program} {w:World} {ops:Array Oper} {o:Oper} {a:Act} {K:Act→World→Prop} {Q:Exit→Act→World→Prop} (hgd:Region.wanted o (yielded ops a.tmps)=true) (t:TypeId) (x y:Operand) (ho:o.op=.buildSlice t 2 #[(0,x),(1,y)])
  {e:TypeId} {z:Value} {bytes:Nat} (hT:SlT P t e z 1 bytes) {v u:Value} (hx:(a.eval x).cells=#[v]) (hy:(a.eval y).cells=#[u])
  (h:K (a.put o.dst (.slice (some ⟨w.heap.size,0,none⟩) 2 2)) (w.alloc (.cells #[v,u] e))):if Region.wanted o (yielded ops a.tmps)=true then Oper.wp P o a w K Q else K (a.put o.dst undef) w:=by
 rw [if_pos hgd]
 obtain ⟨i,hi,hz,hsz,hby⟩:=info_parts hT.info
 have hrun:(Instr.buildSlice t 2 #[(0,a.eval x),(1,a.eval y)]).run P w=.ok (.slice (some ⟨w.heap.size,0,none⟩) 2 2) (w.alloc (.cells #[v,u] e)):=by
  simp [Instr.buildSlice,run_underlying hT.ht,sizeOf,typeInfo,zeroValue,hi,hz,hsz,Instr.fill,hx,hy,newRow,hT.hz]
  rw [show Array.range 2=#[0,1] from rfl];simp
 unfold Oper.wp execOp
 simp only [ho,List.map_toArray,List.map_cons,List.map_nil,Sem.run_bind,hrun,Result.andThen_ok,Sem.run_pure]
 exact h
theorem oper_append {P:Program} {w:World} {ops:Array Oper} {o:Oper} {a:Act} {K:Act→World→Prop} {Q:Exit→Act→World→Prop} (hgd:Region.wanted o (yielded ops a.tmps)=true) (s x:Operand) (t tx:TypeId)
  (ho:o.op=.call { callee:=.builtin .append,args:=#[s,x],argTypes:=#[t,tx] })
  {e:TypeId} {z:Value} {size bytes:Nat} (hT:SlT P t e z size bytes) (htx:P.underlying tx=some (.slice e)∨P.underlying tx=some .string)
  {base:Nat} {a0:Option Addr} {n cap:Nat} {xs:List Value} (hs:a.eval s=.slice a0 n cap) (hown:w.ownsRow base e size (.slice a0 n cap) n xs)
  {xv:Value} {m:Nat} {news:List Value} (hx:a.eval x=xv) (hsrc:Src P w xv m size news)
  (hbytes:(n+m) * bytes≤140737488355328) (h63:n+m≤maxLen) (hbase:base≤w.heap.size)
  (h:∀a' cap' w',w'.ownsRow base e size (.slice a' (n+m) cap') (n+m) (xs++news)→w.grownBy w' (Value.slice a0 n cap).ownBlock→K (a.put o.dst (.slice a' (n+m) cap')) w') :
  if Region.wanted o (yielded ops a.tmps)=true then Oper.wp P o a w K Q else K (a.put o.dst undef) w:=by
 rw [if_pos hgd]
 obtain ⟨i,hi,hz,hsz,hby⟩:=info_parts hT.info
 obtain ⟨a',cap',w',hr,h2,h3,_⟩:=run_append_src (P:=P) w base t tx o.type e i z size bytes hT.ht htx hi hz hsz hby hT.hz a0 n cap xs hown xv m news hsrc h63 hbytes hbase
 unfold Oper.wp execOp
 simp only [ho,resolve,invoke,builtin,Sem.run_bind,Sem.run_pure,Result.andThen_ok,List.map_toArray,List.map_cons,List.map_nil,hs,hx,hr]
 exact h a' cap' w' h2 h3
end Go.Proofs.YtlfghapllmaigaaGreatDoor
namespace Go.Proofs.YtlfghapllmaigaaGreatDoor
open Go.RowKit
def dstOf (ops:Array Oper) (i:Nat):Option Tmp:=(ops[i]?).bind (·.dst)
def dep (o:Oper) (j:Nat):Bool:=o.after.any fun e=>Region.binds .any e&&e.on==j
section
variable {P:Program} {ops:Array Oper} {Q:Exit→Act→World→Prop}
def StepOK (P:Program) (ops:Array Oper) (Q:Exit→Act→World→Prop) (L:List Nat) (V:Nat→Value→World→Prop) (a0:Act) (w0:World) (i:Nat):Prop :=
 ∀o,ops[i]?=some o→∀a w,Below w0.heap.size w0 w→(∀t,(∀j∈L,dstOf ops j≠some t)→a.tmps.getD t undef=a0.tmps.getD t undef) →
  (∀j∈L,dep o j=true→∀t,dstOf ops j=some t→V j (a.tmps.getD t undef) w) →
  ∀K:Act→World→Prop,Shut (∀v w',V i v w'→Below w.heap.size w w'→K (a.put o.dst v) w')→if Region.wanted o (yielded ops a.tmps)=true then Oper.wp P o a w K Q else K (a.put o.dst undef) w
theorem StepOK.mk {L:List Nat} {V:Nat→Value→World→Prop} {a0:Act} {w0:World} {i:Nat} (o:Oper) (ho:ops[i]?=some o)
  (h:∀a w,Below w0.heap.size w0 w→(∀t,(∀j∈L,dstOf ops j≠some t)→a.tmps.getD t undef=a0.tmps.getD t undef) →
   (∀j∈L,dep o j=true→∀t,dstOf ops j=some t→V j (a.tmps.getD t undef) w) →
   ∀K:Act→World→Prop,Shut (∀v w',V i v w'→Below w.heap.size w w'→K (a.put o.dst v) w')→if Region.wanted o (yielded ops a.tmps)=true then Oper.wp P o a w K Q else K (a.put o.dst undef) w):StepOK P ops Q L V a0 w0 i:=by
 intro o' ho'
 rw [ho] at ho'
 obtain rfl:=Option.some.inj ho'
 exact h
theorem foldl_set_get (L:List Nat) (listed:Array Bool) (k:Nat) (hk:∀i∈L,i<listed.size):(L.foldl (fun l i=>l.setIfInBounds i true) listed)[k]?=if k∈L then some true else listed[k]?:=by
 induction L generalizing listed with
 | nil=>simp
 | cons i L ih =>
  rw [List.foldl_cons,ih _ (fun j hj=>by simpa using hk j (by simp [hj]))]
  have hi:=hk i (by simp)
  by_cases h1:k∈L
  ·simp [h1]
  ·by_cases h2:k=i
   ·subst h2;simp [h1,hi]
   ·simp [h1,h2,Ne.symm h2]
theorem foldl_put_size (ops:Array Oper) (vs:Nat→Value) (L:List Nat) (a:Act):(L.foldl (fun a i=>a.put (dstOf ops i) (vs i)) a).tmps.size=a.tmps.size∧(L.foldl (fun a i=>a.put (dstOf ops i) (vs i)) a).defers=a.defers:=by
 induction L generalizing a with
 | nil=>exact ⟨rfl,rfl⟩
 | cons i L ih =>
  rw [List.foldl_cons]
  obtain ⟨h1,h2⟩:=ih (a.put (dstOf ops i) (vs i))
  rw [h1,h2]
  unfold Act.put
  split<;>simp
theorem foldl_put_get (ops:Array Oper) (vs:Nat→Value) (L:List Nat) (a:Act) (hd:(L.filterMap (dstOf ops)).Nodup) (hs:∀t∈L.filterMap (dstOf ops),t<a.tmps.size) (t:Nat) :
  ((∀i∈L,dstOf ops i≠some t)→(L.foldl (fun a i=>a.put (dstOf ops i) (vs i)) a).tmps[t]?=a.tmps[t]?) ∧
  (∀i∈L,dstOf ops i=some t→(L.foldl (fun a i=>a.put (dstOf ops i) (vs i)) a).tmps[t]?=some (vs i)):=by
 induction L generalizing a with
 | nil=>exact ⟨fun _=>rfl,fun i hi=>by simp at hi⟩
 | cons j L ih =>
  rw [List.foldl_cons]
  cases hj:dstOf ops j with
  | none =>
   rw [List.filterMap_cons,hj] at hd hs
   obtain ⟨h1,h2⟩:=ih (a.put none (vs j)) hd hs
   refine ⟨fun h=>h1 (fun i hi=>h i (by simp [hi])),fun i hi ht=>?_⟩
   rcases List.mem_cons.1 hi with rfl | hi
   ·rw [hj] at ht;cases ht
   ·exact h2 i hi ht
  | some d =>
   rw [List.filterMap_cons,hj] at hd hs
   simp only [List.nodup_cons] at hd
   have hdl:d<a.tmps.size:=hs d (by simp)
   obtain ⟨h1,h2⟩:=ih (a.put (some d) (vs j)) hd.2 (fun t ht=>by
    have:=hs t (by simp [ht]);simpa [Act.put] using this)
   have hput:(a.put (some d) (vs j)).tmps[t]?=if t=d then some (vs j) else a.tmps[t]?:=by
    simp only [Act.put,Array.getElem?_setIfInBounds]
    by_cases htd:t=d
    ·subst htd;simp [hdl]
    ·simp [htd,Ne.symm htd]
   refine ⟨fun h=>?_,fun i hi ht=>?_⟩
   ·rw [h1 (fun i hi=>h i (by simp [hi])),hput,if_neg (by intro e;subst e;exact h j (by simp) hj)]
   ·rcases List.mem_cons.1 hi with rfl | hi
    ·rw [hj] at ht
     obtain rfl:=Option.some.inj ht
     rw [h1 (fun i hi he=>hd.1 (List.mem_filterMap.2 ⟨i,hi,he⟩)),hput,if_pos rfl]
    ·exact h2 i hi ht
theorem ready_iff {listed:Array Bool} {i:Nat}:i∈Region.ready .any ops listed↔i<ops.size∧listed.getD i true=false∧((ops[i]?).map (·.after.all fun e=>!Region.binds .any e||listed.getD e.on false)).getD false=true:=by
 simp [Region.ready]
theorem getD_of {l:Array Bool} {k:Nat} {b d:Bool} (h:l[k]?=some b):l.getD k d=b:=by
 simp [Array.getD_eq_getD_getElem?,h]
end
end Go.Proofs.YtlfghapllmaigaaGreatDoor
namespace Go.Proofs.YtlfghapllmaigaaGreatDoor
open Go.RowKit
theorem madeCells_one (z:Value) (n:Nat):madeCells #[z] n=(List.replicate n z).toArray:=by
 apply Array.ext_getElem?
 intro i
 simp only [madeCells,Array.getElem?_map,List.size_toArray,List.length_singleton,Nat.mod_one,List.getElem!_toArray,List.getElem!_cons_zero,List.getElem?_toArray,List.getElem?_replicate]
 by_cases h:i<n
 ·simp [h]
 ·simp [h]
theorem wpList_make {P:Program} {w:World} {ops:Array Oper} {rest:List Oper} {o:Oper} {a:Act} {Q:Exit→Act→World→Prop} (hgd:Region.wanted o (yielded ops a.tmps)=true) (t:TypeId) (x y:Operand) (ho:o.op=.makeSlice t x y)
  {e:TypeId} {z:Value} {bytes:Nat} (hT:SlT P t e z 1 bytes) (hzc:z.cells=#[z]) {n:Nat} (hx:a.eval x=.int .i64 (n:Int)) (hy:a.eval y=.int .i64 (n:Int)) (hb:bytes * n≤281474976710656) (h63:n≤9223372036854775807)
  (h:wpList P ops Q rest (a.put o.dst (.slice (some ⟨w.heap.size,0,none⟩) n n)) (w.alloc (.cells (List.replicate n z).toArray e))):wpList P ops Q (o::rest) a w:=by
 refine BigFrame.wpList_want hgd fun K hK=>?_
 obtain ⟨i,hi,hz,hs,hby⟩:=info_parts hT.info
 have hbi:(i.bytes:Int) * (n:Int)≤281474976710656:=by
  rw [hby]
  have h2:((bytes * n:Nat):Int)≤281474976710656:=by omega
  rwa [Int.natCast_mul] at h2
 have hr:=run_make (P:=P) w t e i z hT.ht hi hz .i64 .i64 n n (by omega) (Int.le_refl _) hbi (by omega)
 rw [hs,hzc,Int.toNat_natCast,Nat.mul_one,madeCells_one] at hr
 unfold Oper.wp execOp
 simp only [ho,hx,hy,Sem.run_bind,hr,Result.andThen_ok,Sem.run_pure]
 exact hK _ _ h
end Go.Proofs.YtlfghapllmaigaaGreatDoor
namespace Go.Proofs.YtlfghapllmaigaaGreatDoor
open Go.RowKit
end Go.Proofs.YtlfghapllmaigaaGreatDoor
namespace Go.Proofs.YtlfghapllmaigaaGreatDoor
open Go.RowKit
structure But (F:List Nat) (w w':World):Prop where
 os:w'.os=w.os
 tape:w'.tape=w.tape
 output:w'.output=w.output
 size:w.heap.size≤w'.heap.size
 block:∀k,k<w.heap.size→k∉F→w'.heap[k]?=w.heap[k]?
theorem But.refl (F:List Nat) (w:World):But F w w:=⟨rfl,rfl,rfl,Nat.le_refl _,fun _ _ _=>rfl⟩
theorem But.trans {F F':List Nat} {a b c:World} (h:But F a b) (k:But F' b c) (hF:∀x∈F',x∈F∨a.heap.size≤x):But F a c :=
 ⟨k.os.trans h.os,k.tape.trans h.tape,k.output.trans h.output,Nat.le_trans h.size k.size,fun i hi hn=>by
  have hs:=h.size
  rw [k.block i (by omega) (fun hm=>by rcases hF i hm with h1 | h1;exact hn h1;omega),h.block i hi hn]⟩
theorem But.below {F:List Nat} {a b c:World} (h:But F a b) (k:Below b.heap.size b c):But F a c :=
 ⟨k.os.trans h.os,k.tape.trans h.tape,k.output.trans h.output,Nat.le_trans h.size k.size,fun i hi hn=>by
  have hs:=h.size
  rw [k.block i (by omega),h.block i hi hn]⟩
theorem But.ofBelow {F:List Nat} {a b:World} (k:Below a.heap.size a b):But F a b:=(But.refl F a).below k
theorem But.alloc {F:List Nat} {a b:World} (h:But F a b) (o:Obj):But F a (b.alloc o):=h.below ((Below.refl _ _).alloc (Nat.le_refl _) o)
theorem But.drew {F:List Nat} {a b:World} (h:But F a b):But F a b.drew:=⟨h.os,h.tape,h.output,h.size,h.block⟩
theorem But.drewN {F:List Nat} {a b:World} (h:But F a b) (n:Nat):But F a (b.drewN n):=⟨h.os,h.tape,h.output,h.size,h.block⟩
theorem But.mono {F F':List Nat} {a b:World} (h:But F a b) (hF:∀x∈F,x∈F'∨a.heap.size≤x):But F' a b :=
 ⟨h.os,h.tape,h.output,h.size,fun i hi hn=>h.block i hi (fun hm=>by rcases hF i hm with h1 | h1;exact hn h1;omega)⟩
theorem But.setCell {F:List Nat} {a b:World} (h:But F a b) {p:Addr} (hp:p.block∈F∨a.heap.size≤p.block) (u:Value):But F a (b.setCell p u) :=
 ⟨h.os,h.tape,h.output,by show a.heap.size≤(b.heap.modify p.block _).size;rw [Array.size_modify];exact h.size,fun i hi hn=>by
  have:i≠p.block:=by rintro rfl;rcases hp with h1 | h1;exact hn h1;omega
  rw [Below.heap_setCell _ _ _ _ this,h.block i hi hn]⟩
theorem But.setRow {F:List Nat} {a b:World} (h:But F a b) {g:Nat} (hp:g∈F∨a.heap.size≤g) (ds:Array Value):But F a (b.setRow g ds) :=
 ⟨h.os,h.tape,h.output,by simpa using h.size,fun i hi hn=>by
  have:i≠g:=by rintro rfl;rcases hp with h1 | h1;exact hn h1;omega
  rw [setRow_other b g i _ this,h.block i hi hn]⟩
theorem But.grown {F:List Nat} {a b c:World} {row:Option Nat} (h:But F a b) (hg:b.grownBy c row) (hr:∀k,row=some k→k∈F∨a.heap.size≤k):But F a c :=
 ⟨hg.os.trans h.os,hg.tape.trans h.tape,hg.output.trans h.output,Nat.le_trans h.size hg.size,fun i hi hn=>by
  have hs:=h.size
  rw [hg.block i (by omega) (fun e=>by rcases hr i e.symm with h1 | h1;exact hn h1;omega),h.block i hi hn]⟩
theorem But.turned {F:List Nat} {a b c:World} {m:Nat} (h:But F a b) (hg:b.mapTurned c m) (hm:m∈F∨a.heap.size≤m):But F a c :=
 h.grown hg.grown (fun k hk=>by cases hk;exact hm)
theorem But.toBelow {F:List Nat} {a b:World} (h:But F a b) {B:Nat} (hB:B≤a.heap.size) (hF:∀x∈F,B≤x):Below B a b :=
 ⟨h.os,h.tape,h.output,h.size,fun i hi=>h.block i (by omega) (fun hm=>by have:=hF i hm;omega)⟩
theorem cell_eq {w w':World} {p:Addr} (h:w'.heap[p.block]?=w.heap[p.block]?):w'.cell? p=w.cell? p:=World.cell?_of_block (w:=w) h
theorem Blk.eq {w w':World} {g:Nat} {ty:TypeId} {cs:List Value} (h:Blk w g ty cs) (he:w'.heap[g]?=w.heap[g]?):Blk w' g ty cs:=by
 unfold Blk at h ⊢;rw [he];exact h
theorem Blk.but {F:List Nat} {w w':World} {g:Nat} {ty:TypeId} {cs:List Value} (h:Blk w g ty cs) (hb:But F w w') (hg:g∉F):Blk w' g ty cs:=h.eq (hb.block g h.lt hg)
theorem Rd.eq {w w':World} {a:Option Addr} {n cap size:Nat} {xs:List Value} (h:Rd w a n cap size xs) (he:∀ad,a=some ad→w'.heap[ad.block]?=w.heap[ad.block]?):Rd w' a n cap size xs :=
 ⟨h.hlen,h.hcap,h.hmax,h.hnil,fun ad ha j u hu=>by
  have hc:=h.hcell ad ha j u hu
  rw [cell_eq (w:=w) (by rw [add_block];exact he ad ha)];exact hc⟩
theorem own_eq {w w':World} {base e size n:Nat} {v:Value} {xs:List Value} (h:w.ownsRow base e size v n xs) (he:∀k,v.ownBlock=some k→w'.heap[k]?=w.heap[k]?):w'.ownsRow base e size v n xs:=by
 obtain ⟨hl,hd⟩:=h
 refine ⟨hl,?_⟩
 rcases hd with hn | ⟨g,c,cur,hv,hbg,hh,rest⟩
 ·exact .inl hn
 ·refine .inr ⟨g,c,cur,hv,hbg,?_,rest⟩
  rw [he g (by rw [hv];rfl)];exact hh
end Go.Proofs.YtlfghapllmaigaaGreatDoor
namespace Go.Proofs.YtlfghapllmaigaaGreatDoor
open Go.RowKit Go.Maps
def In64 (x:Int):Prop:=-9223372036854775808≤x∧x≤9223372036854775807
theorem wf64 {x:Int} (h:In64 x):(Lit.int .i64 x).wf=true:=WalkArith.wf_i64 h
section
variable {P:Program} {k e t:TypeId}
theorem _root_.Go.World.ownsMap.tight {H:Type} {R:Value→Option (DataW H×List MemPlace)} {w:World} {b n:Nat} {D:DataW H} (h:w.ownsMap P k R b n D):w.ownsMap P k R b (Maps.size D) D:=by
 obtain ⟨es,clock,hb,F,_,rfl⟩:=h
 exact ⟨es,clock,hb,F,by simp [Maps.size,length_sorted],rfl⟩
structure SetM (P:Program) (k e:TypeId) (w:World) (b:Nat) (ks:List Int):Prop where
 nodup:ks.Nodup
 own:∃D:DataW Unit,w.ownsMap P k (plainElem P e) b ks.length D∧Maps.size D=ks.length∧∀x,In64 x→Maps.has D (.int .i64 x)=decide (x∈ks)∧D.atKey (.int .i64 x) (.lit (.bool false))=.lit (.bool (decide (x∈ks)))
theorem SetM.eq {w w':World} {b:Nat} {ks:List Int} (h:SetM P k e w b ks) (he:w'.heap[b]?=w.heap[b]?):SetM P k e w' b ks:=by
 obtain ⟨hn,D,⟨es,clock,hb,F,hs,hD⟩,h2,h3⟩:=h
 exact ⟨hn,D,⟨es,clock,he.trans hb,F,hs,hD⟩,h2,h3⟩
theorem SetM.lt {w:World} {b:Nat} {ks:List Int} (h:SetM P k e w b ks):b<w.heap.size:=by
 obtain ⟨hn,D,h1,_⟩:=h;exact h1.lt
theorem SetM.but {F:List Nat} {w w':World} {b:Nat} {ks:List Int} (h:SetM P k e w b ks) (hb:But F w w') (hm:b∉F):SetM P k e w' b ks:=h.eq (hb.block b h.lt hm)
theorem SetM.made (w:World):SetM P k e (w.alloc (.map #[] 0)) w.heap.size [] :=
 ⟨List.nodup_nil,.map [],World.ownsMap_made w P k _,rfl,fun x _=>⟨by simp [Maps.has],by simp [DataW.atKey]⟩⟩
variable (hk:P.underlying k=some (.int .i64)) (he:P.underlying e=some .bool) (ht:P.underlying t=some (.map k e)) (hz:∀w,(zeroValue e).run P w=.ok (.bool false) w)
include hk ht
include he hz in
theorem SetM.look {w:World} {b:Nat} {ks:List Int} (h:SetM P k e w b ks) {x:Int} (hx:In64 x):(Instr.lookup t (.map (some b)) (.int .i64 x) false).run P w=.ok (.bool (decide (x∈ks))) w:=by
 obtain ⟨_,D,h1,_,h3⟩:=h
 obtain ⟨v,ps,hrun,hv⟩:=h1.lookup (int_keyed hk) ht (hz w) (plainElem_bool he false) (keyOf_int_mk hk (wf64 hx))
 rw [(h3 x hx).2] at hv
 rw [hrun]
 have:v=.bool (decide (x∈ks)):=by
  unfold plainElem at hv
  rw [he] at hv
  cases v<;>simp at hv
  rw [hv.1]
 rw [this]
omit hk in
theorem SetM.len {w:World} {b:Nat} {ks:List Int} (h:SetM P k e w b ks) (ty:TypeId):(Builtin.len_ #[t] ty #[.map (some b)]).run P w=.ok (.int .i64 (ks.length:Int)) w:=by
 obtain ⟨_,D,h1,h2,_⟩:=h
 rw [h1.len ht ty,h2]
include he in
theorem SetM.store {w:World} {b:Nat} {ks:List Int} (h:SetM P k e w b ks) {x:Int} (hx:In64 x) (hnew:x∉ks) (hn:ks.length<maxLen) :
  ∃w',(Instr.mapUpdate t (.map (some b)) (.int .i64 x) (.bool true)).run P w=.ok () w'∧SetM P k e w' b (ks++[x])∧w.mapTurned w' b:=by
 obtain ⟨hnd,D,h1,h2,h3⟩:=h
 obtain ⟨w',hrun,h4,h5⟩:=h1.store (int_keyed hk) ht hn (keyOf_int_mk hk (wf64 hx)) (plainElem_bool he true)
 have hsz:Maps.size (D.put (.int .i64 x) (.lit (.bool true)))=ks.length+1:=by
  rw [size_put (h1.tidy (int_keyed hk)),(h3 x hx).1,h2];simp [hnew]
 refine ⟨w',hrun,⟨?_,D.put (.int .i64 x) (.lit (.bool true)),?_,?_,?_⟩,h5⟩
 ·rw [List.nodup_append];exact ⟨hnd,by simp,by intro a ha b hb e;simp at hb;subst hb;subst e;exact hnew ha⟩
 ·have:=h4.tight;rw [hsz] at this;simpa using this
 ·rw [hsz];simp
 ·intro y hy
  by_cases hxy:y=x
  ·subst hxy
   rw [has_put_same h1.isMap (by simp [WideAt.IsKeyLit]),atKey_put_same h1.isMap (by simp [WideAt.IsKeyLit])]
   simp
  ·have hne:(Lit.int .i64 y)≠(Lit.int .i64 x):=by intro h;injection h with _ h2;exact hxy h2
   rw [has_put_other hne,atKey_put_other hne,(h3 y hy).1,(h3 y hy).2]
   simp [hxy]
theorem SetM.drop {w:World} {b:Nat} {ks:List Int} (h:SetM P k e w b ks) {x:Int} (hx:In64 x) (ty:TypeId) :
  ∃w',(Builtin.delete_ #[t,k] ty #[.map (some b),.int .i64 x]).run P w=.ok (.tuple #[]) w'∧SetM P k e w' b (ks.erase x)∧w.mapTurned w' b:=by
 obtain ⟨hnd,D,h1,h2,h3⟩:=h
 obtain ⟨w',hrun,h4,h5⟩:=h1.drop (int_keyed hk) ht (keyOf_int_mk hk (wf64 hx)) ty
 have hsz:Maps.size (D.del (.int .i64 x))=(ks.erase x).length:=by
  have:=size_del (k:=.int .i64 x) (h1.tidy (int_keyed hk))
  rw [(h3 x hx).1,h2] at this
  rw [List.length_erase]
  by_cases hm:x∈ks
  ·simp [hm] at this ⊢;omega
  ·simp [hm] at this ⊢;omega
 refine ⟨w',hrun,⟨hnd.erase _,D.del (.int .i64 x),?_,hsz,?_⟩,h5⟩
 ·have:=h4.tight;rw [hsz] at this;exact this
 ·intro y hy
  by_cases hxy:y=x
  ·subst hxy
   rw [has_del_same,atKey_del_same]
   simp [hnd.mem_erase_iff]
  ·have hne:(Lit.int .i64 y)≠(Lit.int .i64 x):=by intro h;injection h with _ h2;exact hxy h2
   rw [has_del_other hne,atKey_del_other hne,(h3 y hy).1,(h3 y hy).2]
   simp [hnd.mem_erase_iff,hxy]
end
end Go.Proofs.YtlfghapllmaigaaGreatDoor
namespace Go.Proofs.YtlfghapllmaigaaGreatDoor
open Go.RowKit
abbrev HP:=World→List Nat→Prop
structure Stb (P:HP):Prop where
 lt:∀w F,P w F→∀x∈F,x<w.heap.size
 eq:∀w w' F,P w F→(∀x∈F,w'.heap[x]?=w.heap[x]?)→P w' F
def Seps:List HP→HP
 | []=>fun _ F=>F=[]
 | P::l=>fun w F=>∃F1 F2,P w F1∧Seps l w F2∧(∀x∈F1,x∉F2)∧F=F1++F2
theorem Seps.lt:∀ {l:List HP},(∀P∈l,Stb P)→∀ {w F},Seps l w F→∀x∈F,x<w.heap.size
 | [],_,w,F,h,x,hx=>by unfold Seps at h;subst h;cases hx
 | P::l,hs,w,F,⟨F1,F2,h1,h2,_,hF⟩,x,hx=>by
  subst hF
  rcases List.mem_append.1 hx with hx | hx
  ·exact (hs P (by simp)).lt w F1 h1 x hx
  ·exact Seps.lt (fun Q hQ=>hs Q (by simp [hQ])) h2 x hx
theorem Seps.eq:∀ {l:List HP},(∀P∈l,Stb P)→∀ {w w':World} {F},Seps l w F→(∀x∈F,w'.heap[x]?=w.heap[x]?)→Seps l w' F
 | [],_,w,w',F,h,_=>h
 | P::l,hs,w,w',F,⟨F1,F2,h1,h2,h3,hF⟩,he=>by
  subst hF
  exact ⟨F1,F2,(hs P (by simp)).eq w w' F1 h1 (fun x hx=>he x (by simp [hx])),Seps.eq (fun Q hQ=>hs Q (by simp [hQ])) h2 (fun x hx=>he x (by simp [hx])),h3,rfl⟩
theorem Seps.split:∀ {l:List HP},(∀P∈l,Stb P)→∀ {w:World} {F:List Nat} (i:Nat) {P:HP},l[i]?=some P→Seps l w F →
  ∃F1 F2:List Nat,P w F1∧(∀x∈F1,x∉F2)∧(∀x,x∈F↔x∈F1∨x∈F2)∧∀ (Q:HP) (w':World) (F1':List Nat),Q w' F1'→(∀x∈F1',x∉F2)→(∀x∈F2,w'.heap[x]?=w.heap[x]?) →
   ∃F',Seps (l.set i Q) w' F'∧∀x,x∈F'↔x∈F1'∨x∈F2
 | [],_,w,F,i,P,hi,h=>by simp at hi
 | R::l,hs,w,F,0,P,hi,⟨F1,F2,h1,h2,h3,hF⟩=>by
  simp only [List.getElem?_cons_zero,Option.some.injEq] at hi
  subst hi;subst hF
  exact ⟨F1,F2,h1,h3,fun x=>List.mem_append,fun Q w' F1' hQ hd he=>⟨F1'++F2,⟨F1',F2,hQ,Seps.eq (fun P hP=>hs P (by simp [hP])) h2 he,hd,rfl⟩,fun x=>List.mem_append⟩⟩
 | R::l,hs,w,F,i+1,P,hi,⟨G1,G2,h1,h2,h3,hF⟩=>by
  subst hF
  obtain ⟨F1,F2,k1,k2,k3,k4⟩:=Seps.split (fun Q hQ=>hs Q (by simp [hQ])) i (by simpa using hi) h2
  refine ⟨F1,G1++F2,k1,fun x hx hm=>?_,fun x=>?_,fun Q w' F1' hQ hd he=>?_⟩
  ·rcases List.mem_append.1 hm with hm | hm
   ·exact h3 x hm ((k3 x).2 (.inl hx))
   ·exact k2 x hx hm
  ·rw [List.mem_append,List.mem_append,k3 x];exact ⟨fun h=>by rcases h with h | h | h<;>simp [h],fun h=>by rcases h with h | h | h<;>simp [h]⟩
  ·obtain ⟨F',h5,h6⟩:=k4 Q w' F1' hQ (fun x hx hm=>hd x hx (List.mem_append.2 (.inr hm))) (fun x hx=>he x (List.mem_append.2 (.inr hx)))
   refine ⟨G1++F',⟨G1,F',(hs R (by simp)).eq w w' G1 h1 (fun x hx=>he x (List.mem_append.2 (.inl hx))),h5,fun x hx hm=>?_,rfl⟩,fun x=>?_⟩
   ·rcases (h6 x).1 hm with hm | hm
    ·exact hd x hm (List.mem_append.2 (.inl hx))
    ·exact h3 x hx ((k3 x).2 (.inr hm))
   ·rw [List.mem_append,h6 x,List.mem_append];exact ⟨fun h=>by rcases h with h | h | h<;>simp [h],fun h=>by rcases h with h | h | h<;>simp [h]⟩
theorem Seps.snoc:∀ {l:List HP} {w:World} {F F1:List Nat} {Q:HP},Seps l w F→Q w F1→(∀x∈F,x∉F1)→Seps (l++[Q]) w (F++F1)
 | [],w,F,F1,Q,h,hQ,hd=>by unfold Seps at h;subst h;exact ⟨F1,[],hQ,rfl,by simp,by simp⟩
 | P::l,w,F,F1,Q,⟨G1,G2,h1,h2,h3,hF⟩,hQ,hd=>by
  subst hF
  exact ⟨G1,G2++F1,h1,Seps.snoc h2 hQ (fun x hx=>hd x (List.mem_append.2 (.inr hx))),fun x hx hm=>by
   rcases List.mem_append.1 hm with hm | hm
   ·exact h3 x hx hm
   ·exact hd x (List.mem_append.2 (.inl hx)) hm,by rw [List.append_assoc]⟩
structure Own (B:Nat) (w:World) (l:List HP):Prop where
 base:B≤w.heap.size
 stb:∀P∈l,Stb P
 seps:∃F,Seps l w F∧∀x∈F,B≤x
theorem Own.start (w:World):Own w.heap.size w []:=⟨Nat.le_refl _,by simp,[],rfl,by simp⟩
theorem Own.turn {B:Nat} {w:World} {l:List HP} (O:Own B w l) (i:Nat) {P:HP} (hi:l[i]?=some P) :
  ∃F,P w F∧(∀x∈F,B≤x)∧∀ (Q:HP) (w':World) (F':List Nat),Stb Q→But F w w'→Q w' F'→(∀x∈F',x∈F∨w.heap.size≤x)→Own B w' (l.set i Q)∧Below B w w':=by
 obtain ⟨hb,hs,F,hF,hB⟩:=O
 obtain ⟨F1,F2,k1,k2,k3,k4⟩:=Seps.split hs i hi hF
 refine ⟨F1,k1,fun x hx=>hB x ((k3 x).2 (.inl hx)),fun Q w' F1' sQ hbut hQ hsub=>?_⟩
 have hlt:∀x∈F,x<w.heap.size:=Seps.lt hs hF
 obtain ⟨F',h5,h6⟩:=k4 Q w' F1' hQ (fun x hx hm=>by
  rcases hsub x hx with h | h
  ·exact k2 x h hm
  ·have:=hlt x ((k3 x).2 (.inr hm));omega) (fun x hx=>hbut.block x (hlt x ((k3 x).2 (.inr hx))) (fun hm=>k2 x hm hx))
 refine ⟨⟨Nat.le_trans hb hbut.size,fun R hR=>?_,F',h5,fun x hx=>?_⟩,hbut.toBelow hb (fun x hx=>hB x ((k3 x).2 (.inl hx)))⟩
 ·rcases List.mem_or_eq_of_mem_set hR with h | h
  ·exact hs R h
  ·rw [h];exact sQ
 ·rcases (h6 x).1 hx with h | h
  ·rcases hsub x h with h | h
   ·exact hB x ((k3 x).2 (.inl h))
   ·omega
  ·exact hB x ((k3 x).2 (.inr h))
theorem Own.get {B:Nat} {w:World} {l:List HP} (O:Own B w l) (i:Nat) {P:HP} (hi:l[i]?=some P):∃F,P w F∧∀x∈F,B≤x:=by
 obtain ⟨F,h1,h2,_⟩:=O.turn i hi;exact ⟨F,h1,h2⟩
theorem Own.more {B:Nat} {w w':World} {l:List HP} (O:Own B w l) (hb:Below w.heap.size w w') {Q:HP} (sQ:Stb Q) {F:List Nat} (hQ:Q w' F) (hF:∀x∈F,w.heap.size≤x):Own B w' (l++[Q]):=by
 obtain ⟨h1,hs,G,hG,hB⟩:=O
 have hlt:∀x∈G,x<w.heap.size:=Seps.lt hs hG
 refine ⟨Nat.le_trans h1 hb.size,fun R hR=>?_,G++F,Seps.snoc (Seps.eq hs hG (fun x hx=>hb.block x (hlt x hx))) hQ (fun x hx hm=>?_),fun x hx=>?_⟩
 ·rcases List.mem_append.1 hR with h | h
  ·exact hs R h
  ·simp at h;rw [h];exact sQ
 ·have:=hlt x hx;have:=hF x hm;omega
 ·rcases List.mem_append.1 hx with h | h
  ·exact hB x h
  ·have:=hF x h;omega
theorem Own.below {B:Nat} {w w':World} {l:List HP} (O:Own B w l) (hb:Below w.heap.size w w'):Own B w' l:=by
 obtain ⟨h1,hs,G,hG,hB⟩:=O
 exact ⟨Nat.le_trans h1 hb.size,hs,G,Seps.eq hs hG (fun x hx=>hb.block x (Seps.lt hs hG x hx)),hB⟩
theorem Own.alloc {B:Nat} {w:World} {l:List HP} (O:Own B w l) (o:Obj):Own B (w.alloc o) l:=O.below ((Below.refl _ _).alloc (Nat.le_refl _) o)
theorem Own.drewN {B:Nat} {w:World} {l:List HP} (O:Own B w l) (n:Nat):Own B (w.drewN n) l:=O.below (below_drewN (Below.refl _ _) n)
theorem Own.drew {B:Nat} {w:World} {l:List HP} (O:Own B w l):Own B w.drew l:=O.below ((Below.refl _ _).drew)
theorem Seps.drop:∀ {l:List HP},(∀P∈l,Stb P)→∀ {w:World} {F:List Nat} (i:Nat),Seps l w F→∃F',Seps (l.eraseIdx i) w F'∧∀x∈F',x∈F
 | [],_,w,F,i,h=>⟨F,by simpa using h,fun _ h=>h⟩
 | P::l,hs,w,F,0,⟨F1,F2,h1,h2,h3,hF⟩=>by subst hF;exact ⟨F2,h2,fun x hx=>List.mem_append.2 (.inr hx)⟩
 | P::l,hs,w,F,i+1,⟨F1,F2,h1,h2,h3,hF⟩=>by
  subst hF
  obtain ⟨F',k1,k2⟩:=Seps.drop (fun Q hQ=>hs Q (by simp [hQ])) i h2
  exact ⟨F1++F',⟨F1,F',h1,k1,fun x hx hm=>h3 x hx (k2 x hm),rfl⟩,fun x hx=>by
   rcases List.mem_append.1 hx with h | h
   ·exact List.mem_append.2 (.inl h)
   ·exact List.mem_append.2 (.inr (k2 x h))⟩
theorem Own.drop {B:Nat} {w:World} {l:List HP} (O:Own B w l) (i:Nat):Own B w (l.eraseIdx i):=by
 obtain ⟨h1,hs,G,hG,hB⟩:=O
 obtain ⟨F',k1,k2⟩:=Seps.drop hs i hG
 exact ⟨h1,fun P hP=>hs P (List.mem_of_mem_eraseIdx hP),F',k1,fun x hx=>hB x (k2 x hx)⟩
theorem erase_last {α:Type}:∀ (l:List α) (q:α),(l++[q]).eraseIdx l.length=l
 | [],_=>rfl
 | _::l,q=>by simpa using erase_last l q
theorem Own.pop {B:Nat} {w:World} {l:List HP} {Q:HP} (O:Own B w (l++[Q])):Own B w l:=by
 have:=O.drop l.length
 rwa [erase_last] at this
theorem Seps.perm {l l':List HP} (h:l.Perm l'):∀ {w:World} {F:List Nat},Seps l w F→∃F',Seps l' w F'∧∀x,x∈F'↔x∈F:=by
 induction h with
 | nil=>exact fun h=>⟨_,h,fun _=>Iff.rfl⟩
 | cons P _ ih =>
  rintro w F ⟨F1,F2,h1,h2,h3,rfl⟩
  obtain ⟨F',h4,h5⟩:=ih h2
  exact ⟨F1++F',⟨F1,F',h1,h4,fun x hx hm=>h3 x hx ((h5 x).1 hm),rfl⟩,fun x=>by simp [h5 x]⟩
 | swap P Q l =>
  rintro w F ⟨F1,F2,h1,⟨F3,F4,h2,h3,h4,rfl⟩,h5,rfl⟩
  refine ⟨F3++(F1++F4),⟨F3,F1++F4,h2,⟨F1,F4,h1,h3,fun x hx hm=>h5 x hx (by simp [hm]),rfl⟩,fun x hx hm=>?_,rfl⟩,fun x=>by
   simp only [List.mem_append]
   exact ⟨fun h=>by rcases h with h | h | h<;>simp [h],fun h=>by rcases h with h | h | h<;>simp [h]⟩⟩
  rcases List.mem_append.1 hm with hm | hm
  ·exact h5 x hm (by simp [hx])
  ·exact h4 x hx hm
 | trans _ _ ih1 ih2 =>
  intro w F h
  obtain ⟨F1,h1,e1⟩:=ih1 h
  obtain ⟨F2,h2,e2⟩:=ih2 h1
  exact ⟨F2,h2,fun x=>(e2 x).trans (e1 x)⟩
theorem Own.perm {B:Nat} {w:World} {l l':List HP} (O:Own B w l) (h:l.Perm l'):Own B w l':=by
 obtain ⟨h1,hs,F,hF,hB⟩:=O
 obtain ⟨F',h2,h3⟩:=Seps.perm h hF
 exact ⟨h1,fun P hP=>hs P (h.mem_iff.2 hP),F',h2,fun x hx=>hB x ((h3 x).1 hx)⟩
def BlkP (g:Nat) (ty:TypeId) (cs:List Value):HP:=fun w F=>Blk w g ty cs∧F=[g]
theorem BlkP.stb (g:Nat) (ty:TypeId) (cs:List Value):Stb (BlkP g ty cs) :=
 ⟨fun w F ⟨h,hF⟩ x hx=>by subst hF;simp at hx;subst hx;exact h.lt,fun w w' F ⟨h,hF⟩ he=>⟨h.eq (he g (by simp [hF])),hF⟩⟩
theorem Own.new {B:Nat} {w:World} {l:List HP} (O:Own B w l) (cs:List Value) (ty:TypeId):Own B (w.alloc (.cells cs.toArray ty)) (l++[BlkP w.heap.size ty cs]) :=
 O.more ((Below.refl _ _).alloc (Nat.le_refl _) _) (BlkP.stb _ _ _) ⟨Blk.new rfl rfl,rfl⟩ (by simp)
theorem Own.blk {B:Nat} {w:World} {l:List HP} (O:Own B w l) (i:Nat) {g:Nat} {ty:TypeId} {cs:List Value} (hi:l[i]?=some (BlkP g ty cs)):Blk w g ty cs∧B≤g:=by
 obtain ⟨F,⟨h1,rfl⟩,h2⟩:=O.get i hi;exact ⟨h1,h2 g (by simp)⟩
theorem Own.setRow {B:Nat} {w:World} {l:List HP} (O:Own B w l) (i:Nat) {g:Nat} {ty:TypeId} {cs:List Value} (hi:l[i]?=some (BlkP g ty cs)) (ds:List Value) :
  Own B (w.setRow g ds.toArray) (l.set i (BlkP g ty ds))∧Below B w (w.setRow g ds.toArray):=by
 obtain ⟨F,⟨h1,rfl⟩,h2,h3⟩:=O.turn i hi
 exact h3 _ _ [g] (BlkP.stb _ _ _) ((But.refl _ w).setRow (.inl (by simp)) _) ⟨h1.row ds,rfl⟩ (fun x hx=>.inl hx)
def RowP (e:TypeId) (size:Nat) (a:Option Addr) (n cap:Nat) (xs:List Value):HP:=fun w F=>w.ownsRow 0 e size (.slice a n cap) n xs∧F=(Value.slice a n cap).ownBlock.toList
theorem RowP.stb (e:TypeId) (size:Nat) (a:Option Addr) (n cap:Nat) (xs:List Value):Stb (RowP e size a n cap xs) :=
 ⟨fun w F ⟨h,hF⟩ x hx=>by subst hF;exact (h.lt x (by simpa using hx)).2,fun w w' F ⟨h,hF⟩ he=>⟨own_eq h (fun k hk=>he k (by rw [hF];simpa using hk)),hF⟩⟩
theorem Own.row {B:Nat} {w:World} {l:List HP} (O:Own B w l) (i:Nat) {e:TypeId} {size:Nat} {a:Option Addr} {n cap:Nat} {xs:List Value} (hi:l[i]?=some (RowP e size a n cap xs)):w.ownsRow 0 e size (.slice a n cap) n xs:=by
 obtain ⟨F,⟨h1,rfl⟩,_⟩:=O.get i hi;exact h1
theorem Own.newRow {B:Nat} {w w':World} {l:List HP} (O:Own B w l) (hb:Below w.heap.size w w') {e:TypeId} {size:Nat} {a:Option Addr} {n cap:Nat} {xs:List Value} {b0:Nat} (h:w'.ownsRow b0 e size (.slice a n cap) n xs) (h0:w.heap.size≤b0):Own B w' (l++[RowP e size a n cap xs]) :=
 O.more hb (RowP.stb _ _ _ _ _ _) ⟨own_base h (Nat.zero_le _),rfl⟩ (fun x hx=>by have:=(h.lt x (by simpa using hx)).1;omega)
theorem Own.nilRow {B:Nat} {w:World} {l:List HP} (O:Own B w l) (e:TypeId) (size:Nat):Own B w (l++[RowP e size none 0 0 []]) :=
 O.more (Below.refl _ _) (RowP.stb _ _ _ _ _ _) (F:=[]) ⟨World.ownsRow_nil _ _ _ _,rfl⟩ (by simp)
theorem Own.grown {B:Nat} {w w':World} {l:List HP} (O:Own B w l) (i:Nat) {e:TypeId} {size:Nat} {a a':Option Addr} {n cap n' cap':Nat} {xs xs':List Value} (hi:l[i]?=some (RowP e size a n cap xs))
  (h1:w'.ownsRow 0 e size (.slice a' n' cap') n' xs') (h2:w.grownBy w' (Value.slice a n cap).ownBlock) (h3:∀ad,a'=some ad→(a=some ad∨w.heap.size≤ad.block)):Own B w' (l.set i (RowP e size a' n' cap' xs'))∧Below B w w':=by
 obtain ⟨F,⟨k1,rfl⟩,k2,k3⟩:=O.turn i hi
 refine k3 _ _ (Value.slice a' n' cap').ownBlock.toList (RowP.stb _ _ _ _ _ _) ((But.refl _ w).grown h2 (fun k hk=>.inl (by simpa using hk))) ⟨h1,rfl⟩ (fun x hx=>?_)
 cases ha:a' with
 | none=>subst ha;simp [Value.ownBlock] at hx
 | some ad =>
  subst ha
  simp [Value.ownBlock] at hx
  subst hx
  rcases h3 ad rfl with h | h
  ·subst h;exact .inl (by simp [Value.ownBlock])
  ·exact .inr h
def RdP (size:Nat) (a:Option Addr) (n cap:Nat) (xs:List Value):HP:=fun w F=>Rd w a n cap size xs∧(∀x∈F,x<w.heap.size)∧∀ad,a=some ad→xs≠[]→ad.block∈F
theorem RdP.stb (size:Nat) (a:Option Addr) (n cap:Nat) (xs:List Value):Stb (RdP size a n cap xs):=by
 refine ⟨fun w F ⟨_,h,_⟩=>h,fun w w' F ⟨h1,h2,h3⟩ he=>⟨?_,fun x hx=>?_,h3⟩⟩
 ·cases hx:xs with
  | nil=>subst hx;exact ⟨h1.hlen,h1.hcap,h1.hmax,h1.hnil,fun ad _ j u hu=>by simp at hu⟩
  | cons y ys=>rw [← hx];exact h1.eq (fun ad ha=>he _ (h3 ad ha (by rw [hx];simp)))
 ·have h4:=h2 x hx
  have h5:=he x hx
  rw [Array.getElem?_eq_getElem h4] at h5
  exact (Array.getElem?_eq_some_iff.1 h5).1
theorem Own.rd {B:Nat} {w:World} {l:List HP} (O:Own B w l) (i:Nat) {size:Nat} {a:Option Addr} {n cap:Nat} {xs:List Value} (hi:l[i]?=some (RdP size a n cap xs)):Rd w a n cap size xs:=by
 obtain ⟨F,⟨h1,_⟩,_⟩:=O.get i hi;exact h1
def Both (Q R:HP):HP:=fun w F=>∃F1 F2,Q w F1∧R w F2∧(∀x∈F1,x∉F2)∧F=F1++F2
theorem Both.stb {Q R:HP} (hQ:Stb Q) (hR:Stb R):Stb (Both Q R) :=
 ⟨fun w F ⟨F1,F2,h1,h2,_,hF⟩ x hx=>by
  subst hF
  rcases List.mem_append.1 hx with h | h
  ·exact hQ.lt w F1 h1 x h
  ·exact hR.lt w F2 h2 x h,fun w w' F ⟨F1,F2,h1,h2,h3,hF⟩ he=>by
  subst hF
  exact ⟨F1,F2,hQ.eq w w' F1 h1 (fun x hx=>he x (by simp [hx])),hR.eq w w' F2 h2 (fun x hx=>he x (by simp [hx])),h3,rfl⟩⟩
theorem Own.part {B:Nat} {w:World} {l:List HP} (O:Own B w l) (i:Nat) {Q R:HP} (hi:l[i]?=some (Both Q R)) (hQ:Stb Q) (hR:Stb R):Own B w (l.set i Q++[R]):=by
 obtain ⟨h1,hs,F,hF,hB⟩:=O
 obtain ⟨F1,F2,⟨A,G,a1,a2,a3,hAG⟩,k2,k3,k4⟩:=Seps.split hs i hi hF
 subst hAG
 obtain ⟨F',h5,h6⟩:=k4 Q w A a1 (fun x hx=>k2 x (by simp [hx])) (fun _ _=>rfl)
 refine ⟨h1,fun P hP=>?_,F'++G,Seps.snoc h5 a2 (fun x hx hm=>?_),fun x hx=>?_⟩
 ·rcases List.mem_append.1 hP with h | h
  ·rcases List.mem_or_eq_of_mem_set h with h | h
   ·exact hs P h
   ·rw [h];exact hQ
  ·simp at h;rw [h];exact hR
 ·rcases (h6 x).1 hx with h | h
  ·exact a3 x h hm
  ·exact k2 x (by simp [hm]) h
 ·rcases List.mem_append.1 hx with h | h
  ·rcases (h6 x).1 h with h | h
   ·exact hB x ((k3 x).2 (.inl (by simp [h])))
   ·exact hB x ((k3 x).2 (.inr h))
  ·exact hB x ((k3 x).2 (.inl (by simp [h])))
theorem oper_append2 {P:Program} {w:World} {ops:Array Oper} {o:Oper} {a:Act} {K:Act→World→Prop} {Q:Exit→Act→World→Prop} (hgd:Region.wanted o (yielded ops a.tmps)=true) (s x:Operand) (t tx:TypeId)
  (ho:o.op=.call { callee:=.builtin .append,args:=#[s,x],argTypes:=#[t,tx] })
  {e:TypeId} {z:Value} {size bytes:Nat} (hT:SlT P t e z size bytes) (htx:P.underlying tx=some (.slice e)∨P.underlying tx=some .string)
  {base:Nat} {a0:Option Addr} {n cap:Nat} {xs:List Value} (hs:a.eval s=.slice a0 n cap) (hown:w.ownsRow base e size (.slice a0 n cap) n xs)
  {xv:Value} {m:Nat} {news:List Value} (hx:a.eval x=xv) (hsrc:Src P w xv m size news)
  (hbytes:(n+m) * bytes≤140737488355328) (h63:n+m≤maxLen) (hbase:base≤w.heap.size)
  (h:∀a' cap' w',w'.ownsRow base e size (.slice a' (n+m) cap') (n+m) (xs++news)→w.grownBy w' (Value.slice a0 n cap).ownBlock→(∀ad,a'=some ad→(a0=some ad∨w.heap.size≤ad.block))→K (a.put o.dst (.slice a' (n+m) cap')) w') :
  if Region.wanted o (yielded ops a.tmps)=true then Oper.wp P o a w K Q else K (a.put o.dst undef) w:=by
 rw [if_pos hgd]
 obtain ⟨i,hi,hz,hsz,hby⟩:=info_parts hT.info
 obtain ⟨a',cap',w',hr,h2,h3,h4⟩:=run_append_src (P:=P) w base t tx o.type e i z size bytes hT.ht htx hi hz hsz hby hT.hz a0 n cap xs hown xv m news hsrc h63 hbytes hbase
 unfold Oper.wp execOp
 simp only [ho,resolve,invoke,builtin,Sem.run_bind,Sem.run_pure,Result.andThen_ok,List.map_toArray,List.map_cons,List.map_nil,hs,hx,hr]
 exact h a' cap' w' h2 h3 h4
def RetW (v:Value) (B:Nat) (l:List HP) (w:World) (e:Ending) (w':World):Prop:=e=.returned v∧Own B w' l∧Below B w w'
end Go.Proofs.YtlfghapllmaigaaGreatDoor
namespace Go.Proofs.YtlfghapllmaigaaGreatDoor
open Go.RowKit
theorem Own.toRd {B:Nat} {w:World} {l:List HP} (O:Own B w l) (i:Nat) {e:TypeId} {size:Nat} {a:Option Addr} {n cap:Nat} {xs:List Value} (hi:l[i]?=some (RowP e size a n cap xs)):Own B w (l.set i (RdP size a n cap xs)):=by
 obtain ⟨F,⟨h1,hF⟩,h2,h3⟩:=O.turn i hi
 exact (h3 (RdP size a n cap xs) w F (RdP.stb _ _ _ _ _) (But.refl _ _) ⟨Rd.ofOwn h1,fun x hx=>by rw [hF] at hx;exact (h1.lt x (by simpa using hx)).2,fun ad ha _=>by rw [hF,ha];simp [Value.ownBlock]⟩ (fun x hx=>.inl hx)).1
theorem tk (i:Nat) {v:Value} {P:Program} {ops:Array Oper} {Q:Exit→Act→World→Prop} {md:Region.Mode} {S:World→Prop} {oi:Oper} {fuel:Nat} {listed:Array Bool} {a:Act} {w:World} (hi:ops[i]?=some oi) (hy:YieldsIf P ops S oi v a) (hS:S w)
  (h:wpAnyH P md ops Q S fuel (listed.setIfInBounds i true) (a.put oi.dst v) w) (hs:Region.noSelect ops=true:=by kernel_rfl) (hf:Region.free md ops listed i=true:=by kernel_rfl) (hr:(Region.ready md ops listed).contains i=true:=by kernel_rfl)
  (hQ:∀c a w,Q (.panic c) (a.put oi.dst v) w→Q (.panic c) a w:=by exact fun _ _ _ h=>h):wpAnyH P md ops Q S (fuel+1) listed a w:=wpAnyH_take hi hs hf hr hQ hy hS h
theorem tv (i:Nat) {v:Value} {P:Program} {ops:Array Oper} {Q:Exit→Act→World→Prop} {md:Region.Mode} {S:World→Prop} {oi:Oper} {fuel:Nat} {listed:Array Bool} {a:Act} {w:World} (hi:ops[i]?=some oi) (hv:∀w',S w'→(execOp a.eval oi).run P w'=.ok (.value v) w') (hS:S w)
  (h:wpAnyH P md ops Q S fuel (listed.setIfInBounds i true) (a.put oi.dst v) w) (hs:Region.noSelect ops=true:=by kernel_rfl) (hf:Region.free md ops listed i=true:=by kernel_rfl) (hr:(Region.ready md ops listed).contains i=true:=by kernel_rfl)
  (hQ:∀c a w,Q (.panic c) (a.put oi.dst v) w→Q (.panic c) a w:=by exact fun _ _ _ h=>h) (hw:Region.wanted oi (yielded ops a.tmps)=true:=by rfl):wpAnyH P md ops Q S (fuel+1) listed a w:=wpAnyH_take hi hs hf hr hQ (yieldsIf_val hw hv) hS h
theorem tw (i:Nat) {v:Value} {P:Program} {ops:Array Oper} {Q:Exit→Act→World→Prop} {md:Region.Mode} {S:World→Prop} {oi:Oper} {fuel:Nat} {listed:Array Bool} {a:Act} {w:World} (hi:ops[i]?=some oi) (hS:S w)
  (h:wpAnyH P md ops Q S fuel (listed.setIfInBounds i true) (a.put oi.dst v) w) (hv:∀w',S w'→(execOp a.eval oi).run P w'=.ok (.value v) w':=by intro w' hS;go_simp;all_goals with_reducible rfl) (hs:Region.noSelect ops=true:=by kernel_rfl) (hf:Region.free md ops listed i=true:=by kernel_rfl) (hr:(Region.ready md ops listed).contains i=true:=by kernel_rfl)
  (hQ:∀c a w,Q (.panic c) (a.put oi.dst v) w→Q (.panic c) a w:=by exact fun _ _ _ h=>h) (hw:Region.wanted oi (yielded ops a.tmps)=true:=by rfl):wpAnyH P md ops Q S (fuel+1) listed a w:=wpAnyH_take hi hs hf hr hQ (yieldsIf_val hw hv) hS h
theorem ar (i:Nat) {P:Program} {ops:Array Oper} {Q:Exit→Act→World→Prop} {md:Region.Mode} {S:World→Prop} {fuel:Nat} {listed:Array Bool} {a:Act} {w:World} {o:Oper} (ho:ops[i]?=some o)
  (h:∀K':Act→World→Prop,Shut (∀a w,S w→(S w→wpAnyH P md ops Q S fuel (listed.setIfInBounds i true) a w)→K' a w)→if Region.wanted o (yielded ops a.tmps)=true then Oper.wp P o a w K' Q else K' (a.put o.dst undef) w) (hr:Region.ready md ops listed=[i]:=by kernel_rfl):wpAnyH P md ops Q S (fuel+1) listed a w:=wpAnyH_ready hr (by simp) (AllReadyH.cons ho h AllReadyH.nil)
end Go.Proofs.YtlfghapllmaigaaGreatDoor
