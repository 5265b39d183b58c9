/-
  Maps as association lists: one word for a map of whatever key and element type, and for a range over it; The walks of conflict.ascending, writes, concurrent; The walks of conflict.writes and concurrent; The walk of conflict.formed. Conditions: each theorem's own hypotheses.
-/
import Derived.Test.YtlfghapllmaigaaGreatDoorK01
import Derived.Maps.RangeWalk
import Derived.Test.YtlfghapllmaigaaGreatDoorK02
namespace Go.Proofs.YtlfghapllmaigaaGreatDoor
section
open Go.RowKit Go.Maps Go.MapKept Go.ChangeMaps
section
variable {α β:Type}
def keysA (l:List (α×β)):List α:=l.map (·.1)
theorem mem_keysA_of {l:List (α×β)} {p:α×β} (h:p∈l):p.1∈keysA l:=List.mem_map.2 ⟨p,h,rfl⟩
variable [DecidableEq α]
def getA:List (α×β)→α→Option β
 | [],_=>none
 | (a,b)::r,x=>if a=x then some b else getA r x
def putA:List (α×β)→α→β→List (α×β)
 | [],x,v=>[(x,v)]
 | (a,b)::r,x,v=>if a=x then (x,v)::r else (a,b)::putA r x v
def delA:List (α×β)→α→List (α×β)
 | [],_=>[]
 | (a,b)::r,x=>if a=x then r else (a,b)::delA r x
theorem getA_none {l:List (α×β)} {x:α}:getA l x=none↔x∉keysA l:=by
 induction l with
 | nil=>simp [getA,keysA]
 | cons p r ih =>
  obtain ⟨a,b⟩:=p
  unfold getA
  by_cases h:a=x
  ·simp [h,keysA]
  ·rw [if_neg h,ih];simp [keysA,Ne.symm h]
theorem getA_mem {l:List (α×β)} {x:α} {v:β} (h:getA l x=some v):(x,v)∈l:=by
 induction l with
 | nil=>simp [getA] at h
 | cons p r ih =>
  obtain ⟨a,b⟩:=p
  unfold getA at h
  by_cases e:a=x
  ·rw [if_pos e] at h;cases h;subst e;simp
  ·rw [if_neg e] at h;exact List.mem_cons_of_mem _ (ih h)
theorem getA_of_mem {l:List (α×β)} (hn:(keysA l).Nodup) {x:α} {v:β} (h:(x,v)∈l):getA l x=some v:=by
 induction l with
 | nil=>simp at h
 | cons p r ih =>
  obtain ⟨a,b⟩:=p
  have hn2:a∉keysA r∧(keysA r).Nodup:=List.nodup_cons.1 hn
  rcases List.mem_cons.1 h with e | h
  ·cases e;simp [getA]
  ·unfold getA
   rw [if_neg (fun e=>hn2.1 (by subst e;exact List.mem_map.2 ⟨_,h,rfl⟩))]
   exact ih hn2.2 h
theorem keysA_putA_mem {l:List (α×β)} {x:α} (h:x∈keysA l) (v:β):keysA (putA l x v)=keysA l:=by
 induction l with
 | nil=>simp [keysA] at h
 | cons p r ih =>
  obtain ⟨a,b⟩:=p
  unfold putA
  by_cases e:a=x
  ·rw [if_pos e];simp [keysA,e]
  ·rw [if_neg e]
   have h2:x∈keysA r:=by
    simp only [keysA,List.map_cons,List.mem_cons] at h
    rcases h with h | h
    ·exact absurd h.symm e
    ·exact h
   have:=ih h2
   simp only [keysA,List.map_cons] at this ⊢
   rw [this]
theorem putA_new {l:List (α×β)} {x:α} (h:x∉keysA l) (v:β):putA l x v=l++[(x,v)]:=by
 induction l with
 | nil=>rfl
 | cons p r ih =>
  obtain ⟨a,b⟩:=p
  simp only [keysA,List.map_cons,List.mem_cons,not_or] at h
  unfold putA
  rw [if_neg (Ne.symm h.1),ih h.2];rfl
theorem putA_nodup {l:List (α×β)} (hn:(keysA l).Nodup) (x:α) (v:β):(keysA (putA l x v)).Nodup:=by
 by_cases h:x∈keysA l
 ·rw [keysA_putA_mem h];exact hn
 ·rw [putA_new h]
  unfold keysA
  rw [List.map_append,List.nodup_append]
  exact ⟨hn,by simp,by intro a ha b hb e;simp at hb;subst hb;subst e;exact h ha⟩
theorem getA_putA {l:List (α×β)} (x:α) (v:β) (y:α):getA (putA l x v) y=if x=y then some v else getA l y:=by
 induction l with
 | nil=>simp [putA,getA]
 | cons p r ih =>
  obtain ⟨a,b⟩:=p
  unfold putA
  by_cases e:a=x
  ·rw [if_pos e]
   by_cases h:x=y
   ·simp [getA,h]
   ·simp [getA,h,e]
  ·rw [if_neg e]
   by_cases h:x=y
   ·subst h;simp only [getA,if_neg e,ih]
   ·simp only [getA,ih,if_neg h]
theorem keysA_delA (l:List (α×β)) (x:α):keysA (delA l x)=(keysA l).erase x:=by
 induction l with
 | nil=>rfl
 | cons p r ih =>
  obtain ⟨a,b⟩:=p
  unfold delA
  by_cases e:a=x
  ·rw [if_pos e];simp [keysA,e]
  ·rw [if_neg e]
   have h2:(keysA ((a,b)::r)).erase x=a::(keysA r).erase x:=by
    show (a::keysA r).erase x=_
    rw [List.erase_cons,if_neg (by simpa using e)]
   rw [h2,← ih];rfl
theorem delA_nodup {l:List (α×β)} (hn:(keysA l).Nodup) (x:α):(keysA (delA l x)).Nodup:=by rw [keysA_delA];exact hn.erase _
theorem mem_delA {l:List (α×β)} (hn:(keysA l).Nodup) {x:α} {p:α×β}:p∈delA l x↔p∈l∧p.1≠x:=by
 induction l with
 | nil=>simp [delA]
 | cons q r ih =>
  obtain ⟨a,b⟩:=q
  have hn2:a∉keysA r∧(keysA r).Nodup:=List.nodup_cons.1 hn
  unfold delA
  by_cases e:a=x
  ·subst e
   rw [if_pos rfl]
   constructor
   ·intro h;exact ⟨List.mem_cons_of_mem _ h,fun e=>hn2.1 (e▸List.mem_map.2 ⟨p,h,rfl⟩)⟩
   ·rintro ⟨h,hne⟩
    rcases List.mem_cons.1 h with rfl | h
    ·exact absurd rfl hne
    ·exact h
  ·rw [if_neg e,List.mem_cons,ih hn2.2,List.mem_cons]
   constructor
   ·rintro (rfl | ⟨h,hne⟩)
    ·exact ⟨.inl rfl,e⟩
    ·exact ⟨.inr h,hne⟩
   ·rintro ⟨rfl | h,hne⟩
    ·exact .inl rfl
    ·exact .inr ⟨h,hne⟩
theorem getA_delA {l:List (α×β)} (hn:(keysA l).Nodup) (x y:α):getA (delA l x) y=if x=y then none else getA l y:=by
 by_cases h:x=y
 ·subst h;rw [if_pos rfl,getA_none,keysA_delA];exact fun hm=>(hn.mem_erase_iff.1 hm).1 rfl
 ·rw [if_neg h]
  cases hg:getA l y with
  | none=>rw [getA_none] at hg ⊢;rw [keysA_delA];exact fun hm=>hg (hn.mem_erase_iff.1 hm).2
  | some v=>exact getA_of_mem (delA_nodup hn x) ((mem_delA hn).2 ⟨getA_mem hg,Ne.symm h⟩)
def leftA (l:List (α×β)) (S:List α):Nat:=((keysA l).filter fun a=>!decide (a∈S)).length
theorem leftA_lt {l:List (α×β)} {S:List α} {x:α} (hx:x∈keysA l) (hS:x∉S):leftA l (x::S)<leftA l S:=by
 unfold leftA
 generalize keysA l=ks at hx ⊢
 induction ks with
 | nil=>simp at hx
 | cons a r ih =>
  have le:∀r:List α,(r.filter fun a=>!decide (a∈x::S)).length≤(r.filter fun a=>!decide (a∈S)).length:=by
   intro r
   induction r with
   | nil=>simp
   | cons c r ih =>
    by_cases h1:c∈S
    ·have h2:c∈x::S:=List.mem_cons_of_mem _ h1
     simp only [List.filter_cons,h1,h2,decide_true,Bool.not_true,Bool.false_eq_true,if_false];exact ih
    ·by_cases h2:c∈x::S
     ·simp only [List.filter_cons,h1,h2,decide_true,decide_false,Bool.not_true,Bool.not_false,Bool.false_eq_true,if_false,if_true,List.length_cons];omega
     ·simp only [List.filter_cons,h1,h2,decide_false,Bool.not_false,if_true,List.length_cons];omega
  by_cases e:a=x
  ·subst e
   have h2:a∈a::S:=by simp
   have:=le r;simp only [List.filter_cons,hS,h2,decide_true,decide_false,Bool.not_true,Bool.not_false,Bool.false_eq_true,if_false,if_true,List.length_cons];omega
  ·have hx2:x∈r:=by rcases List.mem_cons.1 hx with h | h;exact absurd h.symm e;exact h
   have ih2:=ih hx2
   by_cases h1:a∈S
   ·have h2:a∈x::S:=List.mem_cons_of_mem _ h1
    simp only [List.filter_cons,h1,h2,decide_true,Bool.not_true,Bool.false_eq_true,if_false];exact ih2
   ·have h2:a∉x::S:=by simp [e,h1]
    simp only [List.filter_cons,h1,h2,decide_false,Bool.not_false,if_true,List.length_cons];omega
theorem leftA_put {l:List (α×β)} {x:α} (h:x∈keysA l) (v:β) (S:List α):leftA (putA l x v) S=leftA l S:=by unfold leftA;rw [keysA_putA_mem h]
theorem leftA_le (l:List (α×β)) (S:List α):leftA l S≤l.length:=by
 unfold leftA;exact Nat.le_trans (List.length_filter_le _ _) (by simp [keysA])
end
theorem nodup_of_map {α β:Type} {f:α→β} {l:List α} (h:(l.map f).Nodup):l.Nodup:=by
 unfold List.Nodup at h ⊢
 rw [List.pairwise_map] at h
 exact h.imp fun {a b} hab e=>hab (by rw [e])
section
variable {α β:Type} {P:Program} {k e t:TypeId} {ek:α→Value} {ev:β→Value}
def MapT (P:Program) (k:TypeId) (ek:α→Value) (ev:β→Value) (w:World) (b:Nat) (l:List (α×β)):Prop :=
 ∃es clock,w.heap[b]?=some (.map es clock)∧Stamped es clock∧(∀x∈es.toList,∃kl,keyOf P k x.key=some kl)∧es.toList.map (fun x=>(x.key,x.val))=l.map fun p=>(ek p.1,ev p.2)
theorem MapT.lt {w:World} {b:Nat} {l:List (α×β)} (h:MapT P k ek ev w b l):b<w.heap.size:=by
 obtain ⟨es,clock,hb,_⟩:=h
 exact (Array.getElem?_eq_some_iff.1 hb).1
theorem MapT.eq {w w':World} {b:Nat} {l:List (α×β)} (h:MapT P k ek ev w b l) (he:w'.heap[b]?=w.heap[b]?):MapT P k ek ev w' b l:=by
 obtain ⟨es,clock,hb,r⟩:=h
 exact ⟨es,clock,he.trans hb,r⟩
theorem MapT.below {w w':World} {b:Nat} {l:List (α×β)} (h:MapT P k ek ev w b l) {B:Nat} (hb:Below B w w') (hB:w.heap.size≤B):MapT P k ek ev w' b l :=
 h.eq (hb.block b (by have:=h.lt;omega))
theorem MapT.made (w:World):MapT (α:=α) (β:=β) P k ek ev (w.alloc (.map #[] 0)) w.heap.size [] :=
 ⟨#[],0,heap_alloc_new w _,stamped_empty 0,by simp,by simp⟩
theorem MapT.nodup {w:World} {b:Nat} {l:List (α×β)} (h:MapT P k ek ev w b l):(keysA l).Nodup:=by
 obtain ⟨es,clock,hb,hs,hk,hl⟩:=h
 have h3:=hs.2.2
 have e1:es.toList.map (·.key)=(keysA l).map ek:=by
  have:=congrArg (List.map Prod.fst) hl
  simpa [keysA,Function.comp_def] using this
 rw [e1] at h3
 exact nodup_of_map h3
theorem getA_idx [DecidableEq α] {l:List (α×β)} (hn:(keysA l).Nodup) {j:Nat} {a:α} {v:β} (h:l[j]?=some (a,v)):getA l a=some v:=getA_of_mem hn (List.mem_of_getElem? h)
theorem putA_set [DecidableEq α] {l:List (α×β)} (hn:(keysA l).Nodup) {j:Nat} {a:α} {v0:β} (h:l[j]?=some (a,v0)) (v:β):putA l a v=l.set j (a,v):=by
 induction l generalizing j with
 | nil=>simp at h
 | cons p r ih =>
  obtain ⟨c,d⟩:=p
  have hn2:c∉keysA r∧(keysA r).Nodup:=List.nodup_cons.1 hn
  cases j with
  | zero=>simp at h;obtain ⟨rfl,rfl⟩:=h;simp [putA]
  | succ j =>
   simp at h
   have hne:c≠a:=fun e=>hn2.1 (e▸List.mem_map.2 ⟨_,List.mem_of_getElem? h,rfl⟩)
   simp [putA,hne,ih hn2.2 h]
theorem delA_erase [DecidableEq α] {l:List (α×β)} (hn:(keysA l).Nodup) {j:Nat} {a:α} {v0:β} (h:l[j]?=some (a,v0)):delA l a=l.eraseIdx j:=by
 induction l generalizing j with
 | nil=>simp at h
 | cons p r ih =>
  obtain ⟨c,d⟩:=p
  have hn2:c∉keysA r∧(keysA r).Nodup:=List.nodup_cons.1 hn
  cases j with
  | zero=>simp at h;obtain ⟨rfl,rfl⟩:=h;simp [delA]
  | succ j =>
   simp at h
   have hne:c≠a:=fun e=>hn2.1 (e▸List.mem_map.2 ⟨_,List.mem_of_getElem? h,rfl⟩)
   simp [delA,hne,ih hn2.2 h]
theorem delA_none [DecidableEq α] {l:List (α×β)} {x:α} (h:x∉keysA l):delA l x=l:=by
 induction l with
 | nil=>rfl
 | cons p r ih =>
  obtain ⟨a,b⟩:=p
  simp only [keysA,List.map_cons,List.mem_cons,not_or] at h
  unfold delA
  rw [if_neg (Ne.symm h.1),ih h.2]
theorem MapT.found (K:Keyed P k) (hi:∀a a',ek a=ek a'→a=a') {w:World} {es:Array MapEntry} {l:List (α×β)} (hs:∀y∈es.toList,∃kl,keyOf P k y.key=some kl) (hl:es.toList.map (fun x=>(x.key,x.val))=l.map fun p=>(ek p.1,ev p.2))
  {x:α} {kl:Lit} (hkey:keyOf P k (ek x)=some kl) :
  ((Instr.findKey k (ek x) es.toList).run P w=.ok none w∧(∀y∈es.toList,y.key≠ek x)∧x∉keysA l) ∨
  ∃j e0 v,(Instr.findKey k (ek x) es.toList).run P w=.ok (some (j,ev v)) w∧es.toList[j]?=some e0∧e0.key=ek x∧e0.val=ev v∧l[j]?=some (x,v):=by
 rcases K.find w hkey es.toList hs with ⟨h1,h2⟩ | ⟨j,e0,h1,h2,h3⟩
 ·refine .inl ⟨h1,h2,fun hm=>?_⟩
  obtain ⟨p,hp,rfl⟩:=List.mem_map.1 hm
  have:(ek p.1,ev p.2)∈l.map fun p=>(ek p.1,ev p.2):=List.mem_map.2 ⟨p,hp,rfl⟩
  rw [← hl] at this
  obtain ⟨y,hy,e⟩:=List.mem_map.1 this
  exact h2 y hy (congrArg Prod.fst e)
 ·have hj:=congrArg (fun z=>z[j]?) hl
  simp only [List.getElem?_map,h2,Option.map_some] at hj
  cases hlj:l[j]? with
  | none=>rw [hlj] at hj;simp at hj
  | some p =>
   rw [hlj] at hj
   simp only [Option.map_some,Option.some.injEq,Prod.mk.injEq] at hj
   have hx:p.1=x:=hi _ _ (hj.1.symm.trans h3)
   subst hx
   exact .inr ⟨j,e0,p.2,by rw [h1,hj.2],h2,h3,hj.2,hlj⟩
variable (K:Keyed P k) (hi:∀a a',ek a=ek a'→a=a') (ht:P.underlying t=some (.map k e))
include K hi ht
theorem MapT.look [DecidableEq α] {z:Value} (hz:∀w,(zeroValue e).run P w=.ok z w) {w:World} {b:Nat} {l:List (α×β)} (h:MapT P k ek ev w b l) {x:α} {kl:Lit} (hkey:keyOf P k (ek x)=some kl) :
  (Instr.lookup t (.map (some b)) (ek x) false).run P w=.ok (((getA l x).map ev).getD z) w:=by
 have hn:=h.nodup
 obtain ⟨es,clock,hb,hst,hs,hl⟩:=h
 rcases MapT.found K hi hs hl hkey (w:=w) with ⟨h1,h2,h3⟩ | ⟨j,e0,v,h1,h2,h3,h4,h5⟩
 ·rw [getA_none.2 h3]
  simp [Instr.lookup,run_underlying ht,MapKept.run_getObj_map hb,K.check w _ hkey,h1,hz,Result.andThen]
 ·rw [getA_idx hn h5]
  simp [Instr.lookup,run_underlying ht,MapKept.run_getObj_map hb,K.check w _ hkey,h1,Result.andThen]
theorem MapT.look2 [DecidableEq α] {z:Value} (hz:∀w,(zeroValue e).run P w=.ok z w) {w:World} {b:Nat} {l:List (α×β)} (h:MapT P k ek ev w b l) {x:α} {kl:Lit} (hkey:keyOf P k (ek x)=some kl) :
  (Instr.lookup t (.map (some b)) (ek x) true).run P w=.ok (.tuple #[((getA l x).map ev).getD z,.bool (getA l x).isSome]) w:=by
 have hn:=h.nodup
 obtain ⟨es,clock,hb,hst,hs,hl⟩:=h
 rcases MapT.found K hi hs hl hkey (w:=w) with ⟨h1,h2,h3⟩ | ⟨j,e0,v,h1,h2,h3,h4,h5⟩
 ·rw [getA_none.2 h3]
  simp [Instr.lookup,run_underlying ht,MapKept.run_getObj_map hb,K.check w _ hkey,h1,hz,Result.andThen]
 ·rw [getA_idx hn h5]
  simp [Instr.lookup,run_underlying ht,MapKept.run_getObj_map hb,K.check w _ hkey,h1,Result.andThen]
omit K hi in
theorem MapT.len {w:World} {b:Nat} {l:List (α×β)} (h:MapT P k ek ev w b l) (ty:TypeId):(Builtin.len_ #[t] ty #[.map (some b)]).run P w=.ok (.int .i64 (l.length:Int)) w:=by
 obtain ⟨es,clock,hb,hst,hs,hl⟩:=h
 have:es.size=l.length:=by have:=congrArg List.length hl;simpa using this
 simp [Builtin.len_,run_underlying ht,MapKept.run_getObj_map hb,goInt,Result.andThen,this]
theorem MapT.store [DecidableEq α] {w:World} {b:Nat} {l:List (α×β)} (h:MapT P k ek ev w b l) {x:α} {kl:Lit} (hkey:keyOf P k (ek x)=some kl) (v:β) :
  ∃w',(Instr.mapUpdate t (.map (some b)) (ek x) (ev v)).run P w=.ok () w'∧MapT P k ek ev w' b (putA l x v)∧w.mapTurned w' b:=by
 have hn:=h.nodup
 obtain ⟨es,clock,hb,hst,hs,hl⟩:=h
 rcases MapT.found K hi hs hl hkey (w:=w) with ⟨h1,h2,h3⟩ | ⟨j,e0,v0,h1,h2,h3,h4,h5⟩
 ·refine ⟨setBlock w b (.map (es.push ⟨ek x,ev v,clock⟩) (clock+1)),?_,⟨_,_,heap_setBlock_same hb _,stamped_push hst h2,?_,?_⟩,⟨es,clock,_,_,hb,rfl⟩⟩
  ·simp [Instr.mapUpdate,run_underlying ht,MapKept.run_getObj_map hb,K.check w false hkey,h1,MapKept.run_setObj_map _ hb,Result.andThen,setBlock]
  ·intro y hy
   simp only [Array.toList_push,List.mem_append,List.mem_singleton] at hy
   rcases hy with hy | rfl
   ·exact hs y hy
   ·exact ⟨kl,hkey⟩
  ·rw [putA_new h3,Array.toList_push,List.map_append,hl,List.map_append];rfl
 ·have hj:es[j]?=some e0:=by simpa using h2
  have hlist:(es.modify j (fun e'=>{ e' with key:=ek x,val:=ev v })).toList=es.toList.set j { e0 with key:=ek x,val:=ev v }:=by rw [Array.toList_modify,modify_eq_set _ _ _ _ h2]
  refine ⟨setBlock w b (.map (es.modify j (fun e'=>{ e' with key:=ek x,val:=ev v })) clock),?_,⟨_,_,heap_setBlock_same hb _,stamped_modify hst _ _ (fun _ _=>rfl) (fun e' _ he'=>by rw [hj] at he';cases he';exact h3.symm),?_,?_⟩,⟨es,clock,_,_,hb,rfl⟩⟩
  ·simp [Instr.mapUpdate,run_underlying ht,MapKept.run_getObj_map hb,K.check w false hkey,h1,hj,h3,K.stays w hkey,MapKept.run_setObj_map _ hb,Result.andThen,setBlock]
  ·intro y hy
   rw [hlist] at hy
   rcases List.mem_or_eq_of_mem_set hy with hy | rfl
   ·exact hs y hy
   ·exact ⟨kl,hkey⟩
  ·rw [putA_set hn h5,hlist,List.map_set,hl,List.map_set]
theorem MapT.drop [DecidableEq α] {w:World} {b:Nat} {l:List (α×β)} (h:MapT P k ek ev w b l) {x:α} {kl:Lit} (hkey:keyOf P k (ek x)=some kl) (ty:TypeId) :
  ∃w',(Builtin.delete_ #[t,k] ty #[.map (some b),ek x]).run P w=.ok (.tuple #[]) w'∧MapT P k ek ev w' b (delA l x)∧w.mapTurned w' b:=by
 have hn:=h.nodup
 obtain ⟨es,clock,hb,hst,hs,hl⟩:=h
 rcases MapT.found K hi hs hl hkey (w:=w) with ⟨h1,h2,h3⟩ | ⟨j,e0,v0,h1,h2,h3,h4,h5⟩
 ·refine ⟨setBlock w b (.map es clock),?_,⟨es,clock,heap_setBlock_same hb _,hst,hs,by rw [delA_none h3];exact hl⟩,⟨es,clock,es,clock,hb,rfl⟩⟩
  simp [Builtin.delete_,run_underlying ht,MapKept.run_getObj_map hb,K.check w _ hkey,h1,MapKept.run_setObj_map _ hb,Result.andThen,setBlock]
 ·have hjl:j<es.toList.length:=(List.getElem?_eq_some_iff.1 h2).1
  have hjs:j<es.size:=by simpa using hjl
  have hsub:(es.eraseIdxIfInBounds j).toList=es.toList.eraseIdx j:=by
   unfold Array.eraseIdxIfInBounds
   rw [dif_pos hjs]
   simp
  refine ⟨setBlock w b (.map (es.eraseIdxIfInBounds j) clock),?_,⟨_,_,heap_setBlock_same hb _,stamped_erase hst j,?_,?_⟩,⟨es,clock,_,_,hb,rfl⟩⟩
  ·simp [Builtin.delete_,run_underlying ht,MapKept.run_getObj_map hb,K.check w _ hkey,h1,MapKept.run_setObj_map _ hb,Result.andThen,setBlock]
  ·intro y hy
   rw [hsub] at hy
   exact hs y ((List.eraseIdx_sublist _ _).subset hy)
  ·rw [hsub,delA_erase hn h5,map_eraseIdx,hl,map_eraseIdx]
omit K hi ht
def MapR (P:Program) (k:TypeId) (ek:α→Value) (ev:β→Value) (w:World) (b r:Nat) (l:List (α×β)) (S:List α):Prop :=
 ∃es clock since seen c0,w.heap[b]?=some (.map es clock)∧Stamped es clock∧(∀x∈es.toList,∃kl,keyOf P k x.key=some kl)∧es.toList.map (fun x=>(x.key,x.val))=l.map (fun p=>(ek p.1,ev p.2)) ∧
  w.heap[r]?=some (.mapIter (some b) since seen c0)∧(∀x∈es.toList,x.born<since)∧(∀x∈es.toList,∀a,x.key=ek a→(seen.contains x.born=true↔a∈S))∧since≤c0∧since≤clock
theorem MapR.map {w:World} {b r:Nat} {l:List (α×β)} {S:List α} (h:MapR P k ek ev w b r l S):MapT P k ek ev w b l:=by
 obtain ⟨es,clock,since,seen,c0,hb,hst,hs,hl,_⟩:=h
 exact ⟨es,clock,hb,hst,hs,hl⟩
theorem MapR.ne {w:World} {b r:Nat} {l:List (α×β)} {S:List α} (h:MapR P k ek ev w b r l S):r≠b:=by
 obtain ⟨es,clock,since,seen,c0,hb,_,_,_,hr,_⟩:=h
 intro e
 rw [e,hb] at hr
 cases hr
theorem MapR.lt {w:World} {b r:Nat} {l:List (α×β)} {S:List α} (h:MapR P k ek ev w b r l S):r<w.heap.size:=by
 obtain ⟨es,clock,since,seen,c0,_,_,_,_,hr,_⟩:=h
 exact (Array.getElem?_eq_some_iff.1 hr).1
theorem MapR.eq {w w':World} {b r:Nat} {l:List (α×β)} {S:List α} (h:MapR P k ek ev w b r l S) (hb:w'.heap[b]?=w.heap[b]?) (hr:w'.heap[r]?=w.heap[r]?):MapR P k ek ev w' b r l S:=by
 obtain ⟨es,clock,since,seen,c0,h1,h2,h3,h4,h5,h6⟩:=h
 exact ⟨es,clock,since,seen,c0,hb.trans h1,h2,h3,h4,hr.trans h5,h6⟩
theorem MapR.below {w w':World} {b r:Nat} {l:List (α×β)} {S:List α} (h:MapR P k ek ev w b r l S) {B:Nat} (hb:Below B w w') (hB:w.heap.size≤B):MapR P k ek ev w' b r l S :=
 h.eq (hb.block b (by have:=h.map.lt;omega)) (hb.block r (by have:=h.lt;omega))
theorem MapT.range (ht:P.underlying t=some (.map k e)) {w:World} {b:Nat} {l:List (α×β)} (h:MapT P k ek ev w b l) :
  ∃o,(Instr.range t (.map (some b))).run P w=.ok (.pointer (some ⟨w.heap.size,0,none⟩)) (w.alloc o)∧MapR P k ek ev (w.alloc o) b w.heap.size l []:=by
 have hlt:=h.lt
 obtain ⟨es,clock,hb,hst,hs,hl⟩:=h
 exact ⟨_,run_range_map w t k e b es clock ht hb,es,clock,clock,#[],clock,(heap_alloc_old w _ hlt).trans hb,hst,hs,hl,heap_alloc_new w _,hst.1,fun x _ a _=>by simp,Nat.le_refl _,Nat.le_refl _⟩
theorem MapR.next (hi:∀a a',ek a=ek a'→a=a') {w:World} {b r:Nat} {l:List (α×β)} {S:List α} (h:MapR P k ek ev w b r l S) (ty:TypeId) :
  ((∀p∈l,p.1∈S)∧(Instr.next (.pointer (some ⟨r,0,none⟩)) false ty).run P w=.ok (.tuple #[.bool false]) w) ∨
  ∃x v w',(x,v)∈l∧x∉S∧(Instr.next (.pointer (some ⟨r,0,none⟩)) false ty).run P w=.ok (.tuple #[.bool true,ek x,ev v]) w'∧MapR P k ek ev w' b r l (x::S)∧But [r] w w'∧w'.heap.size=w.heap.size ∧
   (Instr.entry (.pointer (some ⟨r,0,none⟩))).run P w'=.ok (.tuple #[ek x,ev v]) w':=by
 have hne:=h.ne
 obtain ⟨es,clock,since,seen,c0,hb,hst,hs,hl,hr,hold,hseen,hsc,hsk⟩:=h
 have hst2:=(stamped_iff es clock).1 hst
 have back:∀ {y:MapEntry},y∈es.toList→∃p∈l,y.key=ek p.1∧y.val=ev p.2:=fun {y} hy=>by
  have:(y.key,y.val)∈es.toList.map (fun x=>(x.key,x.val)):=List.mem_map.2 ⟨y,hy,rfl⟩
  rw [hl] at this
  obtain ⟨p,hp,e⟩:=List.mem_map.1 this
  exact ⟨p,hp,(congrArg Prod.fst e).symm,(congrArg Prod.snd e).symm⟩
 rcases run_next_at (P:=P) w ty r b since c0 seen es clock hr hb hold hsc with ⟨h0,hrun⟩ | ⟨e0,he,w1,hal,hrun⟩
 ·refine .inl ⟨fun p hp=>?_,hrun⟩
  have:(ek p.1,ev p.2)∈l.map fun p=>(ek p.1,ev p.2):=List.mem_map.2 ⟨p,hp,rfl⟩
  rw [← hl] at this
  obtain ⟨y,hy,e⟩:=List.mem_map.1 this
  exact (hseen y hy p.1 (congrArg Prod.fst e)).1 (all_seen es seen h0 y hy)
 ·obtain ⟨hem,hes⟩:=mem_left he
  obtain ⟨p,hp,hpk,hpv⟩:=back hem
  have hr1:w1.heap[r]?=some (.mapIter (some b) since seen c0):=by rcases hal with rfl | rfl<;>exact hr
  have hb1:w1.heap[b]?=some (.map es clock):=by rcases hal with rfl | rfl<;>exact hb
  have hset:=heap_set (o':=.mapIter (some b) since (seen.push e0.born) clock) hr1
  have hb':(setBlock w1 r (.mapIter (some b) since (seen.push e0.born) clock)).heap[b]?=some (.map es clock):=(hset.2 b (fun e1=>hne e1.symm)).trans hb1
  refine .inr ⟨p.1,p.2,_,hp,fun hm=>?_,by rw [hrun,hpk,hpv],⟨es,clock,since,seen.push e0.born,clock,hb',hst,hs,hl,hset.1,hold,?_,hsk,hsk⟩,?_,?_,?_⟩
  ·rw [(hseen e0 hem p.1 hpk).2 hm] at hes;cases hes
  ·intro y hy a hya
   rw [contains_push,Bool.or_eq_true,hseen y hy a hya,List.mem_cons,beq_iff_eq]
   constructor
   ·rintro (h1 | h1)
    ·exact .inr h1
    ·have:=born_inj hst2.2.1 hy hem h1
     subst this
     exact .inl (hi _ _ (hya.symm.trans hpk))
   ·rintro (h1 | h1)
    ·subst h1
     rw [entry_eq_of_key hst2.2.2 hy hem (hya.trans hpk.symm)]
     exact .inr rfl
    ·exact .inl h1
  ·rcases hal with rfl | rfl<;>exact ⟨rfl,rfl,rfl,by simp [setBlock],fun i _ hi=>hset.2 i (fun e1=>hi (by rw [e1];simp))⟩
  ·rcases hal with rfl | rfl<;>simp [setBlock]
  ·rw [run_entry_at _ r b since seen es clock e0 hset.1 hb' hem hst2.2.1,hpk,hpv]
theorem MapR.store [DecidableEq α] (K:Keyed P k) (hi:∀a a',ek a=ek a'→a=a') (ht:P.underlying t=some (.map k e)) {w:World} {b r:Nat} {l:List (α×β)} {S:List α} (h:MapR P k ek ev w b r l S) {x:α} (hx:x∈keysA l) {kl:Lit} (hkey:keyOf P k (ek x)=some kl) (v:β) :
  ∃w',(Instr.mapUpdate t (.map (some b)) (ek x) (ev v)).run P w=.ok () w'∧MapR P k ek ev w' b r (putA l x v) S∧w.mapTurned w' b:=by
 have hn:=h.map.nodup
 have hne:=h.ne
 obtain ⟨es,clock,since,seen,c0,hb,hst,hs,hl,hr,hold,hseen,hsc,hsk⟩:=h
 rcases MapT.found K hi hs hl hkey (w:=w) with ⟨h1,h2,h3⟩ | ⟨j,e0,v0,h1,h2,h3,h4,h5⟩
 ·exact absurd hx h3
 ·have hj:es[j]?=some e0:=by simpa using h2
  have hlist:(es.modify j (fun e'=>{ e' with key:=ek x,val:=ev v })).toList=es.toList.set j { e0 with key:=ek x,val:=ev v }:=by rw [Array.toList_modify,modify_eq_set _ _ _ _ h2]
  have he0:e0∈es.toList:=List.mem_of_getElem? h2
  refine ⟨setBlock w b (.map (es.modify j (fun e'=>{ e' with key:=ek x,val:=ev v })) clock),?_,⟨_,clock,since,seen,c0,heap_setBlock_same hb _,stamped_modify hst _ _ (fun _ _=>rfl) (fun e' _ he'=>by rw [hj] at he';cases he';exact h3.symm),?_,?_,(heap_setBlock_other hb _ hne).trans hr,?_,?_,hsc,hsk⟩,⟨es,clock,_,_,hb,rfl⟩⟩
  ·simp [Instr.mapUpdate,run_underlying ht,MapKept.run_getObj_map hb,K.check w false hkey,h1,hj,h3,K.stays w hkey,MapKept.run_setObj_map _ hb,Result.andThen,setBlock]
  ·intro y hy
   rw [hlist] at hy
   rcases List.mem_or_eq_of_mem_set hy with hy | rfl
   ·exact hs y hy
   ·exact ⟨kl,hkey⟩
  ·rw [putA_set hn h5,hlist,List.map_set,hl,List.map_set]
  ·intro y hy
   rw [hlist] at hy
   rcases List.mem_or_eq_of_mem_set hy with hy | rfl
   ·exact hold y hy
   ·exact hold e0 he0
  ·intro y hy a hya
   rw [hlist] at hy
   rcases List.mem_or_eq_of_mem_set hy with hy | rfl
   ·exact hseen y hy a hya
   ·exact hseen e0 he0 a (h3.trans hya)
end
end
section
open Go.RowKit
def ascB (l:List Int):Bool:=(List.range (l.length - 1)).all fun i=>decide (l.getD i 0<l.getD (i+1) 0)
theorem ascB_no {l:List Int} {k:Nat} (hk:k+1<l.length) (h:l.getD (k+1) 0≤l.getD k 0):ascB l=false:=by
 unfold ascB
 rw [List.all_eq_false]
 exact ⟨k,List.mem_range.2 (by omega),by rw [decide_eq_true_eq];omega⟩
theorem ascB_yes {l:List Int} (h:∀k,k+1<l.length→l.getD k 0<l.getD (k+1) 0):ascB l=true:=by
 unfold ascB
 rw [List.all_eq_true]
 intro i hi
 exact decide_eq_true (h i (by have:=List.mem_range.1 hi;omega))
set_option maxRecDepth 20000 in
set_option maxHeartbeats 2000000 in
theorem ascending_any {l:List Int} {a:Option Addr} {n c:Nat} {w:World} (hr:Rd w a n c 1 (intVals l)):Calls Tryz.prog 113 #[.slice a n c] w (RetV (.bool (ascB l)) w):=by
 generalize hB:ascB l=B
 have HB:=Box.mk hB
 have hln:=hr.ilen
 have hmx:=hr.lenMax
 have HR:=Box.mk hr
 clear hr hB
 go_enter Tryz.func113,Tryz.ntmps113
 go_wp2_with fail
 go_loopw [3] (fun i wr=>∃k:Nat,(k+1≤n∨k=0)∧i=.int .i64 ((k:Int)+1)∧Box ((∀j,j<k→l.getD j 0<l.getD (j+1) 0)∧Below w.heap.size w wr)) (fun i _=>n - (intOf i).toNat)
 case atStart=>exact ⟨0,.inr rfl,by simp,⟨fun j hj=>by omega,Below.refl _ _⟩⟩
 case round =>
  obtain ⟨k,hk,rfl,HK⟩:=hrel
  by_cases hlt:k+1<n
  ·obtain ⟨g,off,rfl,hc1⟩:=HR.out.intAtD (k+1) hlt
   obtain ⟨g2,off2,hg,hc0⟩:=HR.out.intAtD k (by omega)
   simp only [Option.some.injEq,Addr.mk.injEq,and_true] at hg
   obtain ⟨rfl,rfl⟩:=hg
   have HC:=Box.mk (And.intro hc1 hc0)
   have HN:=Box.mk (fun (h:l.getD (k+1) 0≤l.getD k 0)=>HB.out.symm.trans (ascB_no (by omega) h))
   have HY:=Box.mk (fun (h:l.getD k 0<l.getD (k+1) 0)=>show ∀j,j<k+1→l.getD j 0<l.getD (j+1) 0 from fun j hj=>by
    by_cases e:j=k
    ·subst e;exact h
    ·exact HK.out.1 j (by omega))
   generalize l.getD (k+1) 0=y at *
   generalize l.getD k 0=x at *
   have t1:(k:Int)+1<(n:Int):=by omega
   clear hc1 hc0
   go_upto_region 4 with fail
   have HS0:Below w.heap.size w wr.drew:=HK.out.2.drew
   refine wp_region_held_drew (S:=fun w'=>Below w.heap.size w w') (by kernel_rfl) HS0 (fun _=>?_)
   refine tw 0 rfl HS0 ?_
   conv=>arg 8;simp [go_sem]
   refine tw 1 rfl HS0 ?_
   conv=>arg 8;simp [go_sem]
   refine tv 2 rfl (fun w' hS=>by (have q0:(0:Int)≤(k:Int)+1:=by omega);(have q1:(k:Int)+1<(n:Int):=by omega);go_simp;all_goals with_reducible rfl) HS0 ?_
   conv=>arg 8;simp [go_sem]
   refine tv 3 rfl (fun w' hS=>by have q:=(hS.cell (p:=⟨g,off+(k+1),none⟩) (cell_block_lt HC.out.1)).trans HC.out.1;go_simp;all_goals with_reducible rfl) HS0 ?_
   conv=>arg 8;simp [go_sem]
   refine tw 4 rfl HS0 ?_
   conv=>arg 8;simp [go_sem]
   refine tw 5 rfl HS0 ?_
   conv=>arg 8;simp [go_sem]
   refine tv 6 rfl (fun w' hS=>by (have q:IntKind.i64.wrap (k:Int)=(k:Int):=by rw [IntKind.wrap_i64];omega);go_simp;all_goals with_reducible rfl) HS0 ?_
   conv=>arg 8;simp [go_sem]
   refine tv 7 rfl (fun w' hS=>by (have q0:(0:Int)≤(k:Int):=by omega);(have q1:(k:Int)<(n:Int):=by omega);go_simp;all_goals with_reducible rfl) HS0 ?_
   conv=>arg 8;simp [go_sem]
   refine tv 8 rfl (fun w' hS=>by have q:=(hS.cell (p:=⟨g,off+k,none⟩) (cell_block_lt HC.out.2)).trans HC.out.2;go_simp;all_goals with_reducible rfl) HS0 ?_
   conv=>arg 8;simp [go_sem]
   refine tw 9 rfl HS0 ?_
   conv=>arg 8;simp [go_sem]
   refine ⟨by kernel_rfl,?_⟩
   conv =>
    arg 5
    simp [go_sem]
   generalize wr.drew=wd at *
   by_cases h:y≤x
   ·obtain rfl:=HN.out h
    go_wp2_with fail
    go_ret
    exact ⟨rfl,HS0⟩
   ·have HY2:=Box.mk (HY.out (by omega))
    have h2:x<y:=by omega
    go_wp2_with fail
    exact ⟨⟨k+1,by omega,by go_num,⟨HY2.out,HS0⟩⟩,by simp [intOf];omega⟩
  ·have HT:=Box.mk (HB.out.symm.trans (ascB_yes (fun j hj=>HK.out.1 j (by omega))))
   have t1:¬ ((k:Int)+1<(n:Int)):=by omega
   obtain rfl:=HT.out
   go_wp2_with fail
   go_ret
   exact ⟨rfl,HK.out.2⟩
end
section
open Go.RowKit
structure AccP where
 mode:Int
 snap:Int
 done:Bool
 stamp:Int
 ra:Option Addr
 rc:Nat
 reads:List Int
 wa:Option Addr
 wc:Nat
 writes:List Int
 deriving Inhabited
def AccP.cs (x:AccP):List Value:=[.int .i64 x.mode,.int .i64 x.snap,.bool x.done,.int .i64 x.stamp,.slice x.ra x.reads.length x.rc,.slice x.wa x.writes.length x.wc]
def AccP.v (x:AccP):Value:=.agg x.cs.toArray
structure AccRd (w:World) (x:AccP):Prop where
 rd:Rd w x.ra x.reads.length x.rc 1 (intVals x.reads)
 wr:Rd w x.wa x.writes.length x.wc 1 (intVals x.writes)
theorem AccRd.below {w w':World} {B:Nat} {x:AccP} (h:AccRd w x) (hb:Below B w w') (hB:w.heap.size≤B):AccRd w' x:=⟨h.rd.below hb hB,h.wr.below hb hB⟩
def AccP.wr (x:AccP):Bool:=x.done&&decide (0<x.writes.length)
def conB (x y:AccP):Bool:=decide (x.snap<y.stamp)&&decide (y.snap<x.stamp)
set_option maxRecDepth 20000 in
set_option maxHeartbeats 2000000 in
theorem writes_any (x:AccP) (w:World):Calls Tryz.prog 47 #[x.v] w (RetV (.bool x.wr) w):=by
 have H1:=Box.mk (And.intro (Blk.new (w:=w) (k:=w.heap.size) (ty:=102) (cs:=x.cs) rfl rfl) ((Below.refl w.heap.size w).alloc (Nat.le_refl _) (.cells x.cs.toArray 102)))
 obtain ⟨mode,snap,done,stamp,ra,rc,reads,wa,wc,writes⟩:=x
 unfold AccP.v AccP.wr
 unfold AccP.cs at *
 simp only at H1 ⊢
 have x2:=H1.out.1.cellOf (i:=2) rfl
 have x5:=H1.out.1.cellOf (i:=5) rfl
 generalize writes.length=n at *
 cases done with
 | false =>
  go_enter Tryz.func47,Tryz.ntmps47
  go_wp2_with fail
  go_ret
  exact ⟨rfl,H1.out.2⟩
 | true =>
  go_enter Tryz.func47,Tryz.ntmps47
  go_wp2_with fail
  go_ret
  exact ⟨by rw [Bool.true_and];first | rfl | simp,H1.out.2⟩
set_option maxRecDepth 20000 in
set_option maxHeartbeats 2000000 in
theorem concurrent_any (x y:AccP) (w:World):Calls Tryz.prog 48 #[x.v,y.v] w (RetV (.bool (conB x y)) w):=by
 have H1:=Box.mk (And.intro (((Own.start w).new x.cs 102).new y.cs 102) (((Below.refl w.heap.size w).alloc (Nat.le_refl _) (.cells x.cs.toArray 102)).alloc (by simp) (.cells y.cs.toArray 102)))
 unfold AccP.v conB
 unfold AccP.cs at *
 have x1:=(H1.out.1.blk 0 rfl).1.cellOf (i:=1) rfl
 have x3:=(H1.out.1.blk 0 rfl).1.cellOf (i:=3) rfl
 have y1:=(H1.out.1.blk 1 rfl).1.cellOf (i:=1) rfl
 have y3:=(H1.out.1.blk 1 rfl).1.cellOf (i:=3) rfl
 by_cases h:x.snap<y.stamp
 ·have t1:decide (x.snap<y.stamp)=true:=decide_eq_true h
  clear h
  go_enter Tryz.func48,Tryz.ntmps48
  go_wp2_with fail
  go_ret
  exact ⟨by rw [t1,Bool.true_and];first | rfl | simp,H1.out.2⟩
 ·have t1:decide (x.snap<y.stamp)=false:=decide_eq_false h
  clear h
  go_enter Tryz.func48,Tryz.ntmps48
  go_wp2_with fail
  go_ret
  exact ⟨by rw [t1,Bool.false_and];first | rfl | simp,H1.out.2⟩
end
section
open Go.RowKit
def formB (x:AccP):Bool :=
 if x.mode<0∨2<x.mode∨x.snap<0∨1073741824<x.snap∨ascB x.reads=false∨ascB x.writes=false then false
 else if x.mode=2∧0<x.writes.length then false
 else if x.wr=true then decide (x.snap<x.stamp)&&decide (x.stamp≤1073741824) else decide (x.stamp=0)
theorem asc_is {l:List Int} {b:Bool} (h:ascB l=b) {a:Option Addr} {n c:Nat} {w:World} (hr:Rd w a n c 1 (intVals l)):Calls Tryz.prog 113 #[.slice a n c] w (RetV (.bool b) w):=by
 subst h;exact ascending_any hr
theorem writes_is {mode snap stamp:Int} {done:Bool} {ra wa:Option Addr} {rn rc wn wc:Nat} {reads writes:List Int} {b:Bool} (hrn:reads.length=rn) (hwn:writes.length=wn) (h:AccP.wr ⟨mode,snap,done,stamp,ra,rc,reads,wa,wc,writes⟩=b) (w:World):Calls Tryz.prog 47 #[.agg #[.int .i64 mode,.int .i64 snap,.bool done,.int .i64 stamp,.slice ra rn rc,.slice wa wn wc]] w (RetV (.bool b) w):=by
 subst h;subst hrn;subst hwn;exact writes_any _ w
set_option maxRecDepth 20000 in
set_option maxHeartbeats 4000000 in
theorem formed_any (x:AccP) (w:World) (hx:AccRd w x):Calls Tryz.prog 45 #[x.v] w (RetV (.bool (formB x)) w):=by
 have H1:=Box.mk (And.intro (Blk.new (w:=w) (k:=w.heap.size) (ty:=102) (cs:=x.cs) rfl rfl) ((Below.refl w.heap.size w).alloc (Nat.le_refl _) (.cells x.cs.toArray 102)))
 generalize hF:formB x=F
 have HF:=Box.mk hF
 have HX:=Box.mk hx
 clear hF hx
 obtain ⟨mode,snap,done,stamp,ra,rc,reads,wa,wc,writes⟩:=x
 unfold AccP.v
 unfold AccP.cs at *
 simp only at H1 ⊢
 unfold formB at HF
 simp only at HF
 obtain ⟨rn,hrn⟩:∃rn,reads.length=rn:=⟨_,rfl⟩
 obtain ⟨wn,hwn⟩:∃wn,writes.length=wn:=⟨_,rfl⟩
 obtain ⟨ar,har⟩:∃b,ascB reads=b:=⟨_,rfl⟩
 obtain ⟨aw,haw⟩:∃b,ascB writes=b:=⟨_,rfl⟩
 obtain ⟨iw,hiw⟩:∃b,AccP.wr ⟨mode,snap,done,stamp,ra,rc,reads,wa,wc,writes⟩=b:=⟨_,rfl⟩
 have HN:=Box.mk (And.intro hrn (And.intro hwn (And.intro har (And.intro haw hiw))))
 rw [hrn,hwn] at H1
 rw [har,haw,hwn,hiw] at HF
 rw [hrn,hwn]
 have hxr:=HX.out.rd
 have hxw:=HX.out.wr
 simp only at hxr hxw
 rw [hrn] at hxr
 rw [hwn] at hxw
 have HXR:=Box.mk hxr
 have HXW:=Box.mk hxw
 clear hrn hwn har haw hiw HX hxr hxw
 have x0:=H1.out.1.cellOf (i:=0) rfl
 have x1:=H1.out.1.cellOf (i:=1) rfl
 have x2:=H1.out.1.cellOf (i:=2) rfl
 have x3:=H1.out.1.cellOf (i:=3) rfl
 have x4:=H1.out.1.cellOf (i:=4) rfl
 have x5:=H1.out.1.cellOf (i:=5) rfl
 go_enter Tryz.func45,Tryz.ntmps45
 go_upto_region 1 with fail
 generalize (w.alloc (.cells #[.int .i64 mode,.int .i64 snap,.bool done,.int .i64 stamp,.slice ra rn rc,.slice wa wn wc] 102))=w1 at *
 by_cases h1:mode<0
 ·obtain rfl:F=false:=by rw [← HF.out,if_pos (.inl h1)]
  go_wp2_with fail
  go_ret
  exact ⟨rfl,H1.out.2⟩
 by_cases h2:2<mode
 ·obtain rfl:F=false:=by rw [← HF.out,if_pos (.inr (.inl h2))]
  have h1':0≤mode:=by omega
  clear h1
  go_wp2_with fail
  go_ret
  exact ⟨rfl,H1.out.2⟩
 by_cases h3:snap<0
 ·obtain rfl:F=false:=by rw [← HF.out,if_pos (.inr (.inr (.inl h3)))]
  have h1':0≤mode:=by omega
  have h2':mode≤2:=by omega
  clear h1 h2
  go_wp2_with fail
  go_ret
  exact ⟨rfl,H1.out.2⟩
 by_cases h4:1073741824<snap
 ·obtain rfl:F=false:=by rw [← HF.out,if_pos (.inr (.inr (.inr (.inl h4))))]
  have h1':0≤mode:=by omega
  have h2':mode≤2:=by omega
  have h3':0≤snap:=by omega
  clear h1 h2 h3
  go_wp2_with fail
  go_ret
  exact ⟨rfl,H1.out.2⟩
 have h1':0≤mode:=by omega
 have h2':mode≤2:=by omega
 have h3':0≤snap:=by omega
 have h4':snap≤1073741824:=by omega
 have HZ:=Box.mk (And.intro h1 (And.intro h2 (And.intro h3 h4)))
 clear h1 h2 h3 h4
 go_wp2_with fail
 refine (asc_is HN.out.2.2.1 (HXR.out.below H1.out.2 (Nat.le_refl _))).mono ?_
 rintro e w2 ⟨rfl,hb2⟩
 have B2:=Box.mk (H1.out.2.trans (hb2.mono H1.out.2.size))
 have K2:=Box.mk (H1.out.1.below hb2 (Nat.le_refl _))
 clear hb2 H1 x0 x1 x2 x3 x4 x5
 have x0:=K2.out.cellOf (i:=0) rfl
 have x1:=K2.out.cellOf (i:=1) rfl
 have x2:=K2.out.cellOf (i:=2) rfl
 have x3:=K2.out.cellOf (i:=3) rfl
 have x4:=K2.out.cellOf (i:=4) rfl
 have x5:=K2.out.cellOf (i:=5) rfl
 cases ar with
 | false =>
  obtain rfl:F=false:=by rw [← HF.out,if_pos (.inr (.inr (.inr (.inr (.inl rfl)))))]
  go_wp2_with fail
  go_ret
  exact ⟨rfl,B2.out⟩
 | true =>
  go_wp2_with fail
  refine (asc_is HN.out.2.2.2.1 (HXW.out.below B2.out (Nat.le_refl _))).mono ?_
  rintro e w3 ⟨rfl,hb3⟩
  have B3:=Box.mk (B2.out.trans (hb3.mono B2.out.size))
  have K3:=Box.mk (K2.out.below hb3 (Nat.le_refl _))
  clear hb3 B2 K2 x0 x1 x2 x3 x4 x5
  have x0:=K3.out.cellOf (i:=0) rfl
  have x1:=K3.out.cellOf (i:=1) rfl
  have x2:=K3.out.cellOf (i:=2) rfl
  have x3:=K3.out.cellOf (i:=3) rfl
  have x4:=K3.out.cellOf (i:=4) rfl
  have x5:=K3.out.cellOf (i:=5) rfl
  cases aw with
  | false =>
   obtain rfl:F=false:=by rw [← HF.out,if_pos (.inr (.inr (.inr (.inr (.inr rfl)))))]
   go_wp2_with fail
   go_ret
   exact ⟨rfl,B3.out⟩
  | true =>
   rw [if_neg (by have:=HZ.out;simp;omega)] at HF
   by_cases hm:mode=2
   ·by_cases hw:0<wn
    ·obtain rfl:F=false:=by rw [← HF.out,if_pos ⟨hm,hw⟩]
     have tm:(mode==2)=true:=by simp [hm]
     clear hm
     go_wp2_with fail
     go_ret
     exact ⟨rfl,B3.out⟩
    ·rw [if_neg (fun h=>hw h.2)] at HF
     have HF2:=HF
     have tm:(mode==2)=true:=by simp [hm]
     have tw:decide (0<wn)=false:=decide_eq_false hw
     clear hm hw HF
     go_wp2_with fail
     refine (writes_is HN.out.1 HN.out.2.1 HN.out.2.2.2.2 w3).mono ?_
     rintro e w4 ⟨rfl,hb4⟩
     have B4:=Box.mk (B3.out.trans (hb4.mono B3.out.size))
     have K4:=Box.mk (K3.out.below hb4 (Nat.le_refl _))
     clear hb4 B3 K3 x0 x1 x2 x3 x4 x5
     have x1:=K4.out.cellOf (i:=1) rfl
     have x3:=K4.out.cellOf (i:=3) rfl
     cases iw with
     | false =>
      rw [if_neg (by decide)] at HF2
      by_cases hs:stamp=0
      ·obtain rfl:F=true:=by rw [← HF2.out];exact decide_eq_true hs
       have ts:(stamp==0)=true:=by simp [hs]
       clear hs
       go_wp2_with fail
       go_ret
       exact ⟨rfl,B4.out⟩
      ·obtain rfl:F=false:=by rw [← HF2.out];exact decide_eq_false hs
       have ts:(stamp==0)=false:=by simp [hs]
       clear hs
       go_wp2_with fail
       go_ret
       exact ⟨rfl,B4.out⟩
     | true =>
      rw [if_pos rfl] at HF2
      by_cases hs:snap<stamp
      ·have t1:decide (snap<stamp)=true:=decide_eq_true hs
       rw [t1,Bool.true_and] at HF2
       clear hs
       go_wp2_with fail
       go_ret
       exact ⟨by rw [← HF2.out];first | rfl | simp,B4.out⟩
      ·have t1:decide (snap<stamp)=false:=decide_eq_false hs
       rw [t1,Bool.false_and] at HF2
       clear hs
       go_wp2_with fail
       go_ret
       exact ⟨by rw [← HF2.out];first | rfl | simp,B4.out⟩
   ·rw [if_neg (fun h=>hm h.1)] at HF
    have HF2:=HF
    have tm:(mode==2)=false:=by simp [hm]
    clear hm HF
    go_wp2_with fail
    refine (writes_is HN.out.1 HN.out.2.1 HN.out.2.2.2.2 w3).mono ?_
    rintro e w4 ⟨rfl,hb4⟩
    have B4:=Box.mk (B3.out.trans (hb4.mono B3.out.size))
    have K4:=Box.mk (K3.out.below hb4 (Nat.le_refl _))
    clear hb4 B3 K3 x0 x1 x2 x3 x4 x5
    have x1:=K4.out.cellOf (i:=1) rfl
    have x3:=K4.out.cellOf (i:=3) rfl
    cases iw with
    | false =>
     rw [if_neg (by decide)] at HF2
     by_cases hs:stamp=0
     ·obtain rfl:F=true:=by rw [← HF2.out];exact decide_eq_true hs
      have ts:(stamp==0)=true:=by simp [hs]
      clear hs
      go_wp2_with fail
      go_ret
      exact ⟨rfl,B4.out⟩
     ·obtain rfl:F=false:=by rw [← HF2.out];exact decide_eq_false hs
      have ts:(stamp==0)=false:=by simp [hs]
      clear hs
      go_wp2_with fail
      go_ret
      exact ⟨rfl,B4.out⟩
    | true =>
     rw [if_pos rfl] at HF2
     by_cases hs:snap<stamp
     ·have t1:decide (snap<stamp)=true:=decide_eq_true hs
      rw [t1,Bool.true_and] at HF2
      clear hs
      go_wp2_with fail
      go_ret
      exact ⟨by rw [← HF2.out];first | rfl | simp,B4.out⟩
     ·have t1:decide (snap<stamp)=false:=decide_eq_false hs
      rw [t1,Bool.false_and] at HF2
      clear hs
      go_wp2_with fail
      go_ret
      exact ⟨by rw [← HF2.out];first | rfl | simp,B4.out⟩
end
end Go.Proofs.YtlfghapllmaigaaGreatDoor
