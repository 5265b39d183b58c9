/-
  An entry of a map that is taken, and stored to later ('m[k], n[j] = ..'); The desk's objects; Cut and Done, where a batch is due; Plain: what holds of the desk and its transactions between the steps. Conditions: each theorem's own hypotheses.
-/
import Derived.Test.YtlfghapllmaigaaGreatDoorK14
import Derived.WideKeyEntry
import Derived.Test.YtlfghapllmaigaaGreatDoorK35
set_option linter.unusedVariables false
set_option linter.unusedSimpArgs false
namespace Go.Proofs.YtlfghapllmaigaaGreatDoor
section
open Go.RowKit Go.Maps Go.MapKept Go.ChangeMaps Go.WideElems
section
variable {α β:Type} {P:Program} {k e t:TypeId} {ek:α→Value} {ev:β→Value}
def MapE (P:Program) (k:TypeId) (ek:α→Value) (ev:β→Value) (w:World) (b:Nat) (l:List (α×β)) (x:α) (st:Nat):Prop :=
 ∃es clock,w.heap[b]?=some (.map es clock)∧Stamped es clock∧(∀x∈es.toList,∃kl,keyOf P k x.key=some kl)∧es.toList.map (fun x=>(x.key,x.val))=l.map (fun p=>(ek p.1,ev p.2)) ∧
  ∃ (j:Nat) (e0:MapEntry) (v:β),es.toList[j]?=some e0∧e0.born=st∧l[j]?=some (x,v)
theorem MapE.map {w:World} {b st:Nat} {l:List (α×β)} {x:α} (h:MapE P k ek ev w b l x st):MapT P k ek ev w b l:=by
 obtain ⟨es,clock,h1,h2,h3,h4,_⟩:=h
 exact ⟨es,clock,h1,h2,h3,h4⟩
theorem MapE.lt {w:World} {b st:Nat} {l:List (α×β)} {x:α} (h:MapE P k ek ev w b l x st):b<w.heap.size:=h.map.lt
theorem MapE.eq {w w':World} {b st:Nat} {l:List (α×β)} {x:α} (h:MapE P k ek ev w b l x st) (he:w'.heap[b]?=w.heap[b]?):MapE P k ek ev w' b l x st:=by
 obtain ⟨es,clock,h1,h2⟩:=h
 exact ⟨es,clock,by rw [he];exact h1,h2⟩
theorem MapT.entry [DecidableEq α] (K:Keyed P k) (hi:∀a a',ek a=ek a'→a=a') (ht:P.underlying t=some (.map k e)) {z:β} (hz:∀u:World,(zeroValue e).run P u=.ok (ev z) u) {w:World} {b:Nat} {l:List (α×β)} (h:MapT P k ek ev w b l) {x:α} {kl:Lit} (hkey:keyOf P k (ek x)=some kl) :
  ∃ (st:Nat) (w':World),(Instr.mapEntry t (.map (some b)) (ek x)).run P w=.ok (.tuple #[ev ((getA l x).getD z),goInt st]) w'∧MapE P k ek ev w' b (putA l x ((getA l x).getD z)) x st∧w.mapTurned w' b:=by
 have hn:=h.nodup
 obtain ⟨es,clock,hb,hst,hs,hl⟩:=h
 rcases MapT.found K hi hs hl hkey (w:=w) with ⟨h1,h2,h3⟩ | ⟨j,e0,v0,h1,h2,h3,h4,h5⟩
 ·have hg:getA l x=none:=getA_none.2 h3
  rw [hg]
  refine ⟨clock,setBlock w b (.map (es.push ⟨ek x,ev z,clock⟩) (clock+1)),?_,⟨_,_,heap_setBlock_same hb _,stamped_push hst h2,?_,?_,es.size,⟨ek x,ev z,clock⟩,z,by simp,rfl,?_⟩,⟨es,clock,_,_,hb,rfl⟩⟩
  ·simp [Instr.mapEntry,run_underlying ht,MapKept.run_getObj_map hb,K.check w false hkey,h1,hz,MapKept.run_setObj_map _ hb,Result.andThen,setBlock]
  ·intro y hy
   simp only [Array.toList_push,List.mem_append,List.mem_singleton] at hy
   rcases hy with hy | rfl
   ·exact hs y hy
   ·exact ⟨kl,hkey⟩
  ·rw [putA_new h3,Array.toList_push,List.map_append,hl,List.map_append];rfl
  ·have hlen:es.size=l.length:=by have:=congrArg List.length hl;simpa using this
   rw [putA_new h3,hlen]
   simp
 ·have hj:es[j]?=some e0:=by simpa using h2
  have hg:getA l x=some v0:=getA_idx hn h5
  have hsame:es.modify j (fun e=>{ e with key:=ek x })=es:=by
   apply Array.ext'
   rw [Array.toList_modify,modify_eq_set _ _ _ _ h2]
   have:({ e0 with key:=ek x }:MapEntry)=e0:=by rw [← h3]
   rw [this]
   exact set_self _ _ _ h2
  rw [hg,Option.getD_some,putA_set hn h5,set_self _ _ _ h5]
  refine ⟨e0.born,setBlock w b (.map es clock),?_,⟨es,clock,heap_setBlock_same hb _,hst,hs,hl,j,e0,v0,h2,rfl,h5⟩,⟨es,clock,_,_,hb,rfl⟩⟩
  simp [Instr.mapEntry,run_underlying ht,MapKept.run_getObj_map hb,K.check w false hkey,h1,hj,h3,K.stays w hkey,hsame,MapKept.run_setObj_map _ hb,Result.andThen,setBlock,h4]
theorem MapE.store [DecidableEq α] {w:World} {b st:Nat} {l:List (α×β)} {x:α} (h:MapE P k ek ev w b l x st) (t:TypeId) (v:β) :
  ∃w',(Instr.entryStore t (.map (some b)) (goInt st) (ev v)).run P w=.ok () w'∧MapT P k ek ev w' b (putA l x v)∧w.mapTurned w' b:=by
 have hn:=h.map.nodup
 obtain ⟨es,clock,hb,hst,hs,hl,j,e0,v0,h2,rfl,h5⟩:=h
 have hj:es[j]?=some e0:=by simpa using h2
 have hidx:es.findIdx? (fun e=>((e.born:Nat):Int)==((e0.born:Nat):Int))=some j:=by
  rw [findIdx_arr]
  exact findIdx_born hst.2.1 h2
 have hlist:(es.modify j (fun e'=>{ e' with val:=ev v })).toList=es.toList.set j { e0 with val:=ev v }:=by rw [Array.toList_modify,modify_eq_set _ _ _ _ h2]
 refine ⟨setBlock w b (.map (es.modify j (fun e'=>{ e' with val:=ev v })) clock),?_,⟨_,_,heap_setBlock_same hb _,stamped_modify hst _ _ (fun _ _=>rfl) (fun e' _ he'=>rfl),?_,?_⟩,⟨es,clock,_,_,hb,rfl⟩⟩
 ·simp [Instr.entryStore,MapKept.run_getObj_map hb,asInt,asIntOf,goInt,hidx,MapKept.run_setObj_map _ hb,Result.andThen,setBlock]
 ·intro y hy
  rw [hlist] at hy
  rcases List.mem_or_eq_of_mem_set hy with hy | rfl
  ·exact hs y hy
  ·exact hs e0 (List.mem_of_getElem? h2)
 ·rw [putA_set hn h5,hlist,List.map_set,hl,List.map_set]
  have:(e0.key,e0.val)=(ek x,ev v0):=by
   have:=congrArg (fun L=>L[j]?) hl
   simp only [List.getElem?_map,h2,h5,Option.map_some,Option.some.injEq] at this
   exact this
  rw [show e0.key=ek x from congrArg Prod.fst this]
def MapEO (P:Program) (k:TypeId) (ek:α→Value) (ev:β→Value) (b:Nat) (m:List (α×β)) (x:α) (st:Nat):HP:=fun w F=>MapE P k ek ev w b m x st∧F=[b]
theorem MapEO.stb (b:Nat) (m:List (α×β)) (x:α) (st:Nat):Stb (MapEO P k ek ev b m x st) :=
 ⟨fun w F ⟨h,hF⟩ x hx=>by subst hF;simp at hx;subst hx;exact h.lt,fun w w' F ⟨h,hF⟩ he=>⟨h.eq (he b (by simp [hF])),hF⟩⟩
theorem Own.entryMap [DecidableEq α] (K:Keyed P k) (hi:∀a a',ek a=ek a'→a=a') (ht:P.underlying t=some (.map k e)) {z:β} (hz:∀u:World,(zeroValue e).run P u=.ok (ev z) u) {B:Nat} {w:World} {l:List HP} (O:Own B w l) (i:Nat) {b:Nat} {m:List (α×β)} (hi':l[i]?=some (MapO P k ek ev b m))
  {x:α} {kl:Lit} (hkey:keyOf P k (ek x)=some kl) :
  ∃ (st:Nat) (w':World),(Instr.mapEntry t (.map (some b)) (ek x)).run P w=.ok (.tuple #[ev ((getA m x).getD z),goInt st]) w'∧Own B w' (l.set i (MapEO P k ek ev b (putA m x ((getA m x).getD z)) x st))∧Below B w w':=by
 obtain ⟨F,⟨h1,rfl⟩,h2,h3⟩:=O.turn i hi'
 obtain ⟨st,w',hr,hm,htu⟩:=h1.entry K hi ht hz hkey
 obtain ⟨h4,h5⟩:=h3 (MapEO P k ek ev b (putA m x ((getA m x).getD z)) x st) w' [b] (MapEO.stb _ _ _ _) ((But.refl [b] w).turned htu (.inl (by simp))) ⟨hm,rfl⟩ (fun x hx=>.inl hx)
 exact ⟨st,w',hr,h4,h5⟩
theorem putA_putA [DecidableEq α] (l:List (α×β)) (x:α) (u v:β):putA (putA l x u) x v=putA l x v:=by
 induction l with
 | nil=>simp [putA]
 | cons p r ih =>
  obtain ⟨a,b⟩:=p
  by_cases h:a=x
  ·simp [putA,h]
  ·simp [putA,h,ih]
theorem Own.storeE [DecidableEq α] {B:Nat} {w:World} {l:List HP} (O:Own B w l) (i:Nat) {b st:Nat} {m:List (α×β)} {x:α} {u:β} (hi':l[i]?=some (MapEO P k ek ev b (putA m x u) x st)) (t:TypeId) (v:β) :
  ∃w',(Instr.entryStore t (.map (some b)) (goInt st) (ev v)).run P w=.ok () w'∧Own B w' (l.set i (MapO P k ek ev b (putA m x v)))∧Below B w w':=by
 obtain ⟨F,⟨h1,rfl⟩,h2,h3⟩:=O.turn i hi'
 obtain ⟨w',hr,hm,htu⟩:=h1.store t v
 rw [putA_putA] at hm
 obtain ⟨h4,h5⟩:=h3 (MapO P k ek ev b (putA m x v)) w' [b] (MapO.stb _ _) ((But.refl [b] w).turned htu (.inl (by simp))) ⟨hm,rfl⟩ (fun x hx=>.inl hx)
 exact ⟨w',hr,h4,h5⟩
end
theorem oper_entry {P:Program} {w w':World} {ops:Array Oper} {o:Oper} {a:Act} {K:Act→World→Prop} {Q:Exit→Act→World→Prop} (hgd:Region.wanted o (yielded ops a.tmps)=true) (t:TypeId) (m k:Operand) (ho:o.op=.mapEntry t m k) {b kv v:Value} (hm:a.eval m=b) (hk:a.eval k=kv)
  (hrun:(Instr.mapEntry t b kv).run P w=.ok v w') (h:K (a.put o.dst v) w'):if Region.wanted o (yielded ops a.tmps)=true then Oper.wp P o a w K Q else K (a.put o.dst undef) w:=by
 rw [if_pos hgd]
 unfold Oper.wp
 simp only [execOp,ho,hm,hk,Sem.run_bind,hrun,Result.andThen_ok,Sem.run_pure]
 exact h
theorem oper_storeE {P:Program} {w w':World} {ops:Array Oper} {o:Oper} {a:Act} {K:Act→World→Prop} {Q:Exit→Act→World→Prop} (hgd:Region.wanted o (yielded ops a.tmps)=true) (t:TypeId) (m s v:Operand) (ho:o.op=.entryStore t m s v) {b sv vv:Value} (hm:a.eval m=b) (hs:a.eval s=sv) (hv:a.eval v=vv)
  (hrun:(Instr.entryStore t b sv vv).run P w=.ok () w') (h:K (a.put o.dst undef) w'):if Region.wanted o (yielded ops a.tmps)=true then Oper.wp P o a w K Q else K (a.put o.dst undef) w:=by
 rw [if_pos hgd]
 unfold Oper.wp
 simp only [execOp,ho,hm,hs,hv,Sem.run_bind,hrun,Result.andThen_ok,Sem.run_pure]
 exact h
end
section
open Go.RowKit Go.Maps
theorem Own.only {B:Nat} {w:World} {l:List HP} (O:Own B w l) (i:Nat) {P:HP} (hi:l[i]?=some P):Own B w [P]:=by
 have h1:=(O.front i hi).perm (List.perm_append_comm (l₁:=[P]) (l₂:=l.eraseIdx i))
 exact Own.dropL (m:=l.eraseIdx i) h1
theorem nm_due:(Tryz.f52.name == "runtime.NumGoroutine")=false:=by kernel_rfl
theorem bd_due:Tryz.f52.body.isNone=false:=by kernel_rfl
theorem nm_cut:(Tryz.f53.name == "runtime.NumGoroutine")=false:=by kernel_rfl
theorem bd_cut:Tryz.f53.body.isNone=false:=by kernel_rfl
theorem nm_add:(Tryz.f54.name == "runtime.NumGoroutine")=false:=by kernel_rfl
theorem bd_add:Tryz.f54.body.isNone=false:=by kernel_rfl
theorem nm_pub:(Tryz.f56.name == "runtime.NumGoroutine")=false:=by kernel_rfl
theorem bd_pub:Tryz.f56.body.isNone=false:=by kernel_rfl
theorem cut_due {B:Nat} {w:World} {l:List HP} (O:Own B w l) (i:Nat) {g:Nat} {S:Gr.GS} (hi:l[i]?=some (Gr.GrpP g S)) {tick:Int} (h:S.due tick=true) {L f:Nat} {wt:List Wtx} (hL:S.stamp=(L:Int)+1) (hf:S.front=f) (hq:S.q.map Gr.Nd.tx=wt.map Wtx.tx) :
  Calls Tryz.prog 53 #[.pointer (some ⟨g,0,none⟩),.int .i64 tick] w fun e w'=>∃a cap,e=.returned (.tuple #[.agg #[.int .i64 ((L:Int)+1),.slice a f cap],.bool true])∧Own B w' (l.set i (Gr.GrpP g S.cut)++[RdP 1 a f cap (intVals ((wt.take f).map Wtx.tx))])∧Below B w w':=by
 refine (Gr.cut_own O i hi tick).mono ?_
 rintro e w' ⟨a,cap,he,hO,hb⟩
 have h1:S.cutTxs tick=(wt.take f).map Wtx.tx:=by unfold Gr.GS.cutTxs;rw [if_pos h,hf,List.map_take,hq,List.map_take]
 have hl:S.front≤wt.length:=by
  have h2:=S.front_le
  have h3:=congrArg List.length hq
  rw [List.length_map,List.length_map] at h3
  omega
 have h2:((wt.take f).map Wtx.tx).length=f:=by rw [List.length_map,List.length_take];omega
 have h3:S.cutFirst tick=(L:Int)+1:=by unfold Gr.GS.cutFirst;rw [if_pos h,hL]
 have h4:S.tryCut tick=S.cut:=by unfold Gr.GS.tryCut;rw [if_pos h]
 rw [h1,h2,h3,h] at he
 rw [h1,h2,h4] at hO
 exact ⟨a,cap,he,hO,hb⟩
theorem done_cut {B:Nat} {w:World} {l:List HP} (O:Own B w l) (i:Nat) {g:Nat} {S:Gr.GS} (hi:l[i]?=some (Gr.GrpP g S.cut)) {L f:Nat} {wt:List Wtx} (hL:S.stamp=(L:Int)+1) (hf:S.front=f) (hq:S.q.map Gr.Nd.tx=wt.map Wtx.tx) :
  Calls Tryz.prog 55 #[.pointer (some ⟨g,0,none⟩)] w fun e w'=>∃a cap,e=.returned (.slice a f cap)∧Own B w' (l.set i (Gr.GrpP g S.cut.done)++[RowP 129 2 a f cap (Gr.repVals ((L:Int)+1) ((wt.take f).map Wtx.tx) f)])∧Below B w w':=by
 refine (Gr.done_own O i hi).mono ?_
 rintro e w' ⟨a,cap,he,hO,hb⟩
 have h1:S.cut.txs=(wt.take f).map Wtx.tx:=by show (S.q.take S.front).map Gr.Nd.tx=_;rw [hf,List.map_take,hq,List.map_take]
 have hl:S.front≤wt.length:=by
  have h2:=S.front_le
  have h3:=congrArg List.length hq
  rw [List.length_map,List.length_map] at h3
  omega
 have h2:((wt.take f).map Wtx.tx).length=f:=by rw [List.length_map,List.length_take];omega
 have h3:S.cut.first=(L:Int)+1:=hL
 rw [h1,h2] at he
 rw [h1,h2,h3] at hO
 exact ⟨a,cap,he,hO,hb⟩
theorem Own.immLast {B:Nat} {w:World} {l:List HP} {e:TypeId} {size:Nat} {a:Option Addr} {n cap:Nat} {xs:List Value} {G:List RdD} (O:Own B w (l++[RowP e size a n cap xs])) (i:Nat) (hi:l[i]?=some (ImmO G)):Own B w (l.set i (ImmO (⟨a,n,cap,size,xs⟩::G))):=by
 have h1:(l++[RowP e size a n cap xs]).Perm (ImmO G::RowP e size a n cap xs::l.eraseIdx i) :=
  (List.perm_append_comm (l₁:=l) (l₂:=[RowP e size a n cap xs])).trans (((get_perm hi).cons _).trans (List.Perm.swap _ _ _))
 exact Own.back hi (O.perm h1).immTake
theorem Own.seeEnd {B:Nat} {w:World} {p0 p1 p2 p3 p4 p5 p6 p7 p9 x y z:HP} {G:List RdD} {e:TypeId} {size:Nat} {a:Option Addr} {n cap:Nat} {xs:List Value} (O:Own B w (p0::p1::p2::p3::p4::([p5,p6,p7,ImmO G,p9,x,y,z]++[RowP e size a n cap xs]))) :
  Own B w [p0,p1,p2,p3,p4,p5,p6,p7,ImmO (⟨a,n,cap,size,xs⟩::G),p9] :=
 Own.immLast (l:=[p0,p1,p2,p3,p4,p5,p6,p7,ImmO G,p9]) (((O.drop 12).drop 11).drop 10) 8 rfl
theorem front_pos {S:Gr.GS} (h:S.OK) {tick:Int} (hd:S.due tick=true):1≤S.front:=by
 have h1:=S.front_goes.2
 cases hf:S.front with
 | zero =>
  rw [hf] at h1
  unfold Gr.GS.due at hd
  simp only [Bool.and_eq_true,decide_eq_true_eq] at hd
  have h2:=h.most
  have h3:=(h.q _ (getD_mem hd.1.2)).1
  unfold Gr.GS.goes at h1
  rw [S.sumW_zero,decide_eq_true hd.1.2,decide_eq_true (show ((0:Nat):Int)<S.most by omega),decide_eq_true (show 0+(S.q.getD 0 default).words≤S.room by omega)] at h1
  cases h1
 | succ k=>omega
abbrev cwOf (com:List (Int×List WrP)):List (List WrP):=com.map (·.2)
abbrev DkL2 (gd gx gg bw bi bs:Nat) (all tick:Int) (com0 com1:List (Int×List WrP)) (X:TxP) (S:Gr.GS) (hs:List HpP) (G:List RdD) (mw:List (Int×WsS)) (mi:List (Int×Int)) (Z:HP) (a0:Option Addr) (c0:Nat) (a1:Option Addr) (c1:Nat) (ha:Option Addr) (hc:Nat):List HP :=
 [TxsO gx X,BlkP gd 36 (dkC gx gg ⟨a0,(verT (cwOf com0) 0).length,c0⟩ ⟨a1,(verT (cwOf com1) 1).length,c1⟩ bw bi all tick ⟨ha,hs.length,hc⟩ bs),RowP 93 4 a0 (verT (cwOf com0) 0).length c0 (recC VerP.enc (verT (cwOf com0) 0)),RowP 93 4 a1 (verT (cwOf com1) 1).length c1 (recC VerP.enc (verT (cwOf com1) 1)),
  RowP 84 5 ha hs.length hc (recC HpP.enc hs),Gr.GrpP gg S,WrsO bw mw,IntO bi mi,ImmO G,Z]
abbrev DkL (gd gx gg bw bi bs:Nat) (all tick:Int) (com:List (Int×List WrP)) (X:TxP) (S:Gr.GS) (hs:List HpP) (G:List RdD) (mw:List (Int×WsS)) (mi:List (Int×Int)) (Z:HP) (a0:Option Addr) (c0:Nat) (a1:Option Addr) (c1:Nat) (ha:Option Addr) (hc:Nat):List HP :=
 DkL2 gd gx gg bw bi bs all tick com com X S hs G mw mi Z a0 c0 a1 c1 ha hc
end
section
open Go.RowKit Go.Maps
structure SnP where
 k:Nat
 a0:Option Addr
 n0:Nat
 c0:Nat
 a1:Option Addr
 n1:Nat
 c1:Nat
 deriving Inhabited
def SnP.v (s:SnP):Value:=.agg #[.slice s.a0 s.n0 s.c0,.slice s.a1 s.n1 s.c1]
abbrev SeenO (b:Nat) (l:List (Int×SnP)):HP:=MapO Tryz.prog 3 kI SnP.v b l
structure SnIn (G:List RdD) (cw:List (List WrP)) (s:SnP):Prop where
 k:s.k≤cw.length
 r0:(⟨s.a0,s.n0,s.c0,4,recC VerP.enc (rowsT cw 0 s.k)⟩:RdD)∈G∧s.n0=(rowsT cw 0 s.k).length
 r1:(⟨s.a1,s.n1,s.c1,4,recC VerP.enc (rowsT cw 1 s.k)⟩:RdD)∈G∧s.n1=(rowsT cw 1 s.k).length
theorem SnIn.more {G G':List RdD} {cw:List (List WrP)} {s:SnP} (h:SnIn G cw s) (hG:∀r∈G,r∈G') (m:List (List WrP)):SnIn G' (cw++m) s :=
 ⟨by have:=h.k;rw [List.length_append];omega,by rw [rowsT_more h.k];exact ⟨hG _ h.r0.1,h.r0.2⟩,by rw [rowsT_more h.k];exact ⟨hG _ h.r1.1,h.r1.2⟩⟩
def LogOk (m:Nat) (G:List RdD) (t:TnP):Prop:=t.log.length≤m∧∀y∈t.log,(⟨y.va,y.vals.length,y.vc,3,recC Val.enc y.vals⟩:RdD)∈G∧(y.dead=true→y.vals=[])∧y.vals.length≤1
theorem LogOk.more {m m':Nat} {G G':List RdD} {t:TnP} (h:LogOk m G t) (hm:m≤m') (hG:∀r∈G,r∈G'):LogOk m' G' t:=⟨Nat.le_trans h.1 hm,fun y hy=>⟨hG _ (h.2 y hy).1,(h.2 y hy).2⟩⟩
theorem LogOk.ws {m:Nat} {G:List RdD} {t:TnP} (h:LogOk m G t):WsOk (wsOf t.log):=⟨fun x hx=>wsOf_key hx,wsOf_lt t.log,fun x hx=>(h.2 x (wsOf_mem hx)).2.1,fun x hx=>(h.2 x (wsOf_mem hx)).2.2⟩
theorem find_drop {X:TxP} {n k:Int} (h:k≠n):(X.drop n).find k=X.find k:=by
 unfold TxP.find TxP.drop
 simp only
 rw [List.find?_filter]
 congr 2
 funext q
 by_cases e:q.1=k
 ·have:q.1≠n:=fun e2=>h (e.symm.trans e2)
  simp [e,h]
 ·simp [e]
theorem find_upd {X:TxP} {n k:Int} {t t':TnP} (h:X.find k=some t):(X.upd n t').find k=some (if k=n then t' else t):=by
 unfold TxP.find TxP.upd at *
 simp only
 rw [List.find?_map]
 obtain ⟨q,hq,rfl⟩:=Option.map_eq_some_iff.1 h
 have e:((fun q:Int×TnP=>decide (q.1=k)) ∘ fun q:Int×TnP=>if q.1=n then (q.1,t') else q)=fun q=>decide (q.1=k):=by
  funext q
  by_cases h2:q.1=n<;>simp [h2]
 have hk:q.1=k:=by simpa using List.find?_some hq
 rw [e,hq]
 by_cases h2:k=n
 ·simp [hk,h2]
 ·simp [hk,h2]
theorem find_add {X:TxP} {k:Int} {t u:TnP} (h:X.find k=some t):(X.add u).find k=some t:=by
 unfold TxP.find TxP.add at *
 simp only
 rw [List.find?_append]
 obtain ⟨q,hq,rfl⟩:=Option.map_eq_some_iff.1 h
 rw [hq];rfl
theorem find_new {X:TxP} {u:TnP} (h:∀q∈X.act,q.1≤X.begun):(X.add u).find (X.begun+1)=some u:=by
 unfold TxP.find TxP.add
 simp only
 rw [List.find?_append]
 have:X.act.find? (fun q=>decide (q.1=X.begun+1))=none:=List.find?_eq_none.2 fun q hq=>by
  have:=h q hq
  simp;omega
 rw [this];simp
structure DkJ (ser:Bool) (m:Nat) (com:List (Int×List WrP)) (wt:List Wtx) (X:TxP) (S:Gr.GS) (hs:List HpP) (G:List RdD) (mw:List (Int×WsS)) (mi:List (Int×Int)) (ms:List (Int×SnP)) (n tick:Int):Prop where
 d:DkI com wt X S hs G mw mi n
 x:XI ser X
 n0:0≤n∧n≤m
 w:∀y∈wt,y.tx≤X.begun∧∀q∈X.act,q.1≠y.tx
 s:∀p∈ms,∃t,X.find p.1=some t∧t.snap=p.2.k∧SnIn G (com.map (·.2)) p.2
 b1:com.length+wt.length≤m
 b2:hs.length+2 * wt.length≤3 * m
 lg:∀t∈X.all,LogOk m G t
 bg:X.begun≤m
 tk:0≤tick∧tick≤m
variable {ser:Bool} {m:Nat} {com:List (Int×List WrP)} {wt:List Wtx} {X:TxP} {S:Gr.GS} {hs:List HpP} {G:List RdD} {mw:List (Int×WsS)} {mi:List (Int×Int)} {ms:List (Int×SnP)} {n tick:Int}
theorem DkI.setX (d:DkI com wt X S hs G mw mi n) {X':TxP} {G':List RdD} (h1:X'.shown=X.shown) (h2:X'.last=X.last) (ok:TxOk X') (hG:∀r∈G,r∈G'):DkI com wt X' S hs G' mw mi n :=
 ⟨d.trc,by rw [h1];exact d.shown,by rw [h2];exact d.last,ok,d.stamp,d.cl,d.par,d.q,d.mp,fun x hx=>hG _ (d.imm x hx),fun ws hw y hy=>hG _ (d.vals ws hw y hy),fun e he=>(d.ev e he).more hG,d.b1,d.b2⟩
theorem DkJ.setX (j:DkJ ser m com wt X S hs G mw mi ms n tick) {m':Nat} (hmm:m≤m') {X':TxP} {G':List RdD} {ms':List (Int×SnP)} (x':XI ser X') (h1:X'.shown=X.shown) (h2:X'.last=X.last) (hb:X'.begun=X.begun) (ha:∀q∈X'.act,∃q0∈X.act,q0.1=q.1)
  (hf:∀p∈ms',p∈ms∧∀t,X.find p.1=some t→∃t',X'.find p.1=some t'∧t'.snap=t.snap) (hl:∀t∈X'.all,LogOk m' G' t) (hG:∀r∈G,r∈G'):DkJ ser m' com wt X' S hs G' mw mi ms' n tick:=by
 have n0:=j.n0
 have b1:=j.b1
 have b2:=j.b2
 have bg:=j.bg
 have tk:=j.tk
 refine ⟨j.d.setX h1 h2 x'.ok hG,x',by omega,fun y hy=>?_,fun p hp=>?_,by omega,by omega,hl,by omega,by omega⟩
 ·obtain ⟨k1,k2⟩:=j.w y hy
  refine ⟨by rw [hb];exact k1,fun q hq=>?_⟩
  obtain ⟨q0,h3,h4⟩:=ha q hq
  rw [← h4];exact k2 q0 h3
 ·obtain ⟨hpm,h3⟩:=hf p hp
  obtain ⟨t,ht,hk,hs⟩:=j.s p hpm
  obtain ⟨t',ht',e⟩:=h3 t ht
  have:=hs.more hG []
  rw [List.append_nil] at this
  exact ⟨t',ht',by rw [e];exact hk,this⟩
theorem drop_act {n:Int}:∀q∈(X.drop n).act,∃q0∈X.act,q0.1=q.1:=fun q hq=>⟨q,(List.mem_filter.1 hq).1,rfl⟩
theorem DkJ.drop (j:DkJ ser m com wt X S hs G mw mi ms n tick) (hn:(keysA ms).Nodup) (tx:Int) {k:Int} (h1:k≤X.shown) (h2:∀q∈(X.drop tx).act,k≤q.2.snap) (a:Option Addr) (c:Nat):DkJ ser (m+1) com wt ((X.drop tx).less k a c) S hs G mw mi (delA ms tx) n tick:=by
 refine j.setX (Nat.le_succ _) ((j.x.drop tx).less h1 h2 a c) rfl rfl rfl drop_act (fun p hp=>?_) (fun t ht=>?_) fun r hr=>hr
 ·obtain ⟨h3,h4⟩:=(mem_delA hn).1 hp
  exact ⟨h3,fun t ht=>⟨t,by show (X.drop tx).find p.1=_;rw [find_drop h4];exact ht,rfl⟩⟩
 ·exact (j.lg t ((X.drop_all tx).subset ((less_all _ _ _ _).subset ht))).more (Nat.le_succ _) fun r hr=>hr
theorem fin_mem {tx:Int} {t u:TnP} {s k:Int} {a a':Option Addr} {c c':Nat} (hu:u∈((X.fin tx t s a c).less k a' c').all):u=t.fin s∨u∈X.all:=by
 have h1:=(less_all _ _ _ _).subset hu
 exact (List.mem_cons.1 (fin_all.mem_iff.1 h1)).imp id fun h=>(X.drop_all tx).subset h
theorem DkJ.finR (j:DkJ ser m com wt X S hs G mw mi ms n tick) (hn:(keysA ms).Nodup) {tx:Int} {t:TnP} (hf:X.find tx=some t) {h:List AccP} (hh:h.map AccP.pl=X.all.map TnP.pl) {i:Nat} (hi:i<X.all.length) (hit:X.all.getD i default=t) {s:Int} (had:Admits h i s) (hw:wsOf t.log=[]) {k:Int} (h1:k≤X.shown) (h2:∀q∈(X.drop tx).act,k≤q.2.snap) (a a':Option Addr) (c c':Nat) :
  DkJ ser (m+1) com wt ((X.fin tx t s a c).less k a' c') S hs G mw mi (delA ms tx) n tick:=by
 obtain ⟨xf,s0,_⟩:=j.x.fin hf hh hi hit had a c
 have hs0:s=0:=s0 (by unfold TnP.writes;rw [hw];rfl)
 subst hs0
 refine j.setX (Nat.le_succ _) (xf.less h1 h2 a' c') rfl rfl rfl drop_act (fun p hp=>?_) (fun u hu=>?_) fun r hr=>hr
 ·obtain ⟨h3,h4⟩:=(mem_delA hn).1 hp
  exact ⟨h3,fun t ht=>⟨t,by show (X.drop tx).find p.1=_;rw [find_drop h4];exact ht,rfl⟩⟩
 ·rcases fin_mem hu with rfl | hu
  ·exact (show LogOk m G (t.fin 0) from j.lg t (TxP.find_mem hf).2).more (Nat.le_succ _) fun r hr=>hr
  ·exact (j.lg u hu).more (Nat.le_succ _) fun r hr=>hr
theorem DkI.qlen (d:DkI com wt X S hs G mw mi n):S.q.length=wt.length:=by
 have:=congrArg List.length d.q
 rwa [List.length_map,List.length_map] at this
def GSask (S:Gr.GS) (tx words tick:Int):Gr.GS:={ S with q:=S.q++[⟨tx,words,tick⟩] }
theorem DkJ.ask (j:DkJ ser m com wt X S hs G mw mi ms n tick) (hm:m≤60) {tx:Int} {t:TnP} (hf:X.find tx=some t) (hw:wsOf t.log≠[]):S.ask tx (wsOf t.log).length tick=(GSask S tx (wsOf t.log).length tick,0):=by
 have h1:=wsOf_len t.log
 have h2:=List.length_pos_iff.2 hw
 have h3:=j.tk
 have h4:=j.d.qlen
 have h5:=j.b1
 have h6:=j.d.stamp
 have h7:tx∉S.q.map Gr.Nd.tx:=by
  rw [j.d.q]
  intro hm
  obtain ⟨y,hy,e⟩:=List.mem_map.1 hm
  exact (j.w y hy).2 _ (TxP.find_mem hf).1 e.symm
 unfold Gr.GS.ask
 rw [if_neg (by omega),if_neg (by rw [j.d.cl.2];simpa using h7),if_neg (by rw [j.d.par.2.1];omega)]
 rfl
theorem DkJ.finW (j:DkJ ser m com wt X S hs G mw mi ms n tick) (hm:m<60) (hn:(keysA ms).Nodup) {tx:Int} {t:TnP} (hf:X.find tx=some t) {h:List AccP} (hh:h.map AccP.pl=X.all.map TnP.pl) {i:Nat} (hi:i<X.all.length) (hit:X.all.getD i default=t) {s:Int} (had:Admits h i s) (hw:wsOf t.log≠[]) {k:Int} (h1:k≤X.shown) (h2:∀q∈(X.drop tx).act,k≤q.2.snap) (a a':Option Addr) (c c':Nat) (wa:Option Addr) (wc:Nat) :
  s=(com.length:Int)+wt.length+1 ∧
  DkJ ser (m+1) com (wt++[⟨tx,n+1,wsOf t.log,wa,wc⟩]) ((X.fin tx t s a c).less k a' c') (GSask S tx (wsOf t.log).length tick) (hs++[⟨1,n+1,0,wa,wc,wsOf t.log,none,0,[]⟩]) (⟨wa,(wsOf t.log).length,wc,4,recC WrP.enc (wsOf t.log)⟩::G) (putA mw tx ⟨wa,wc,wsOf t.log⟩) (putA mi tx (n+1)) (delA ms tx) (n+1) tick:=by
 obtain ⟨xf,_,s1⟩:=j.x.fin hf hh hi hit had a c
 have hs1:s=X.last+1:=s1 (by unfold TnP.writes;simpa using hw)
 obtain ⟨hma,hml⟩:=TxP.find_mem hf
 have n0:=j.n0
 have b1:=j.b1
 have b2:=j.b2
 have bg:=j.bg
 have tk:=j.tk
 have dl:=j.d.last
 have lgt:=j.lg t hml
 have hws:=lgt.ws
 have hl8:=wsOf_len t.log
 have hG:∀r∈G,r∈((⟨wa,(wsOf t.log).length,wc,4,recC WrP.enc (wsOf t.log)⟩:RdD)::G):=fun r hr=>List.mem_cons_of_mem _ hr
 have hne:∀y∈wt,y.tx≠tx:=fun y hy e=>(j.w y hy).2 _ hma e.symm
 refine ⟨by omega,?_⟩
 refine ⟨?_,xf.less h1 h2 a' c',by omega,fun y hy=>?_,fun p hp=>?_,by rw [List.length_append,List.length_singleton];omega,by rw [List.length_append,List.length_append,List.length_singleton,List.length_singleton];omega,fun u hu=>?_,by show X.begun≤_;omega,by omega⟩
 ·refine ⟨?_,j.d.shown,?_,(xf.less h1 h2 a' c').ok,j.d.stamp,j.d.cl,j.d.par,?_,fun y hy=>?_,fun y hy=>?_,fun ws hw y hy=>?_,fun e he=>?_,by rw [List.length_append,List.length_singleton];omega,by rw [List.length_append,List.length_append,List.length_singleton,List.length_singleton];omega⟩
  ·rw [List.map_append]
   exact j.d.trc.snoc (.ask _ _ rfl rfl rfl rfl hws hw)
  ·show (if 0<s then s else X.last)=_
   rw [if_pos (by omega),List.length_append,List.length_singleton];omega
  ·show (S.q++[_]).map Gr.Nd.tx=_
   rw [List.map_append,List.map_append,j.d.q];rfl
  ·rcases List.mem_append.1 hy with hy | hy
   ·rw [getA_putA,getA_putA,if_neg (Ne.symm (hne y hy)),if_neg (Ne.symm (hne y hy))]
    exact j.d.mp y hy
   ·rw [List.mem_singleton.1 hy,getA_putA,getA_putA,if_pos rfl,if_pos rfl]
    exact ⟨rfl,rfl,j.x.ok.i64 _ hma⟩
  ·rcases List.mem_append.1 hy with hy | hy
   ·exact hG _ (j.d.imm y hy)
   ·rw [List.mem_singleton.1 hy];exact List.mem_cons_self ..
  ·rw [List.map_append,← List.append_assoc] at hw
   rcases List.mem_append.1 hw with hw | hw
   ·exact hG _ (j.d.vals ws hw y hy)
   ·rw [List.map_singleton,List.mem_singleton] at hw
    subst hw
    exact hG _ (lgt.2 y (wsOf_mem hy)).1
  ·rcases List.mem_append.1 he with he | he
   ·exact (j.d.ev e he).more hG
   ·rw [List.mem_singleton.1 he]
    exact ⟨⟨.inl (List.mem_cons_self ..),fun y hy=>⟨_,hG _ (lgt.2 y (wsOf_mem hy)).1,rfl⟩⟩,.inr ⟨rfl,rfl,rfl⟩,by simp⟩
 ·rcases List.mem_append.1 hy with hy | hy
  ·obtain ⟨k1,k2⟩:=j.w y hy
   exact ⟨k1,fun q hq=>k2 q (List.mem_filter.1 hq).1⟩
  ·rw [List.mem_singleton.1 hy]
   refine ⟨(j.x.begun.2 _ hma).2,fun q hq=>?_⟩
   have:=(List.mem_filter.1 hq).2
   simpa using this
 ·obtain ⟨h3,h4⟩:=(mem_delA hn).1 hp
  obtain ⟨u,hu,hk,hsn⟩:=j.s p h3
  have:=hsn.more hG []
  rw [List.append_nil] at this
  exact ⟨u,by show (X.drop tx).find p.1=_;rw [find_drop h4];exact hu,hk,this⟩
 ·rcases fin_mem hu with rfl | hu
  ·exact (show LogOk m G (t.fin s) from lgt).more (Nat.le_succ _) hG
  ·exact (j.lg u hu).more (Nat.le_succ _) hG
theorem DkJ.delS (j:DkJ ser m com wt X S hs G mw mi ms n tick) (hn:(keysA ms).Nodup) (tx:Int):DkJ ser (m+1) com wt X S hs G mw mi (delA ms tx) n tick :=
 j.setX (Nat.le_succ _) j.x rfl rfl rfl (fun q hq=>⟨q,hq,rfl⟩) (fun p hp=>⟨((mem_delA hn).1 hp).1,fun t ht=>⟨t,ht,rfl⟩⟩) (fun t ht=>(j.lg t ht).more (Nat.le_succ _) fun r hr=>hr) fun r hr=>hr
theorem DkJ.step1 (j:DkJ ser m com wt X S hs G mw mi ms n tick):DkJ ser (m+1) com wt X S hs G mw mi ms n tick :=
 j.setX (Nat.le_succ _) j.x rfl rfl rfl (fun q hq=>⟨q,hq,rfl⟩) (fun p hp=>⟨hp,fun t ht=>⟨t,ht,rfl⟩⟩) (fun t ht=>(j.lg t ht).more (Nat.le_succ _) fun r hr=>hr) fun r hr=>hr
theorem DkJ.upd (j:DkJ ser m com wt X S hs G mw mi ms n tick) {m':Nat} (hmm:m≤m') {G':List RdD} {tx:Int} {t t':TnP} (hf:X.find tx=some t) (hp:t'.p=t.p) (hm:t'.mode=t.mode) (hs_:t'.snap=t.snap) (hd:t'.done=t.done) (hst:t'.stamp=t.stamp) (ht:TnOk t') (hl:LogOk m' G' t') (hG:∀r∈G,r∈G'):DkJ ser m' com wt (X.upd tx t') S hs G' mw mi ms n tick:=by
 refine j.setX hmm (j.x.upd hf hp hm hs_ hd hst ht) rfl rfl rfl (fun q hq=>?_) (fun p hpm=>⟨hpm,fun u hu=>⟨_,find_upd hu,?_⟩⟩) (fun u hu=>?_) hG
 ·obtain ⟨q0,h1,rfl⟩:=List.mem_map.1 hq
  exact ⟨q0,h1,by split<;>rfl⟩
 ·split
  ·next e=>rw [e,hf] at hu;cases hu;exact hs_
  ·rfl
 ·rcases List.mem_cons.1 ((upd_all j.x.ok hf t').mem_iff.1 hu) with rfl | hu
  ·exact hl
  ·exact (j.lg u ((X.drop_all tx).subset hu)).more hmm hG
theorem DkJ.read (j:DkJ ser m com wt X S hs G mw mi ms n tick) {m':Nat} (hmm:m≤m') {tx:Int} {t:TnP} (hf:X.find tx=some t) (hn:(keysA t.rows).Nodup) {s:Int×Int} (hs_:s∈spots):DkJ ser m' com wt (X.upd tx (t.read s)) S hs G mw mi ms n tick:=by
 have hml:=(TxP.find_mem hf).2
 exact j.upd hmm hf rfl rfl rfl rfl rfl ((j.x.ok.tn t hml).read hn hs_) ((show LogOk m G (t.read s) from j.lg t hml).more hmm fun r hr=>hr) fun r hr=>hr
theorem DkJ.write (j:DkJ ser m com wt X S hs G mw mi ms n tick) (hm:m≤60) {tx:Int} {t:TnP} (hf:X.find tx=some t) {x:WrP} (hx:x.key∈spots) (hd:x.dead=true→x.vals=[]) (hv:x.vals.length≤1) (la:Option Addr) (lc:Nat) :
  DkJ ser (m+1) com wt (X.upd tx (t.write x la lc)) S hs (⟨x.va,x.vals.length,x.vc,3,recC Val.enc x.vals⟩::G) mw mi ms n tick:=by
 have hml:=(TxP.find_mem hf).2
 have lgt:=j.lg t hml
 have hG:∀r∈G,r∈((⟨x.va,x.vals.length,x.vc,3,recC Val.enc x.vals⟩:RdD)::G):=fun r hr=>List.mem_cons_of_mem _ hr
 refine j.upd (Nat.le_succ _) hf rfl rfl rfl rfl rfl ((j.x.ok.tn t hml).write hx (by have:=lgt.1;omega) la lc) ⟨?_,fun y hy=>?_⟩ hG
 ·show (t.log++[x]).length≤_
  rw [List.length_append,List.length_singleton];have:=lgt.1;omega
 ·rcases List.mem_append.1 (show y∈t.log++[x] from hy) with hy | hy
  ·exact ⟨hG _ (lgt.2 y hy).1,(lgt.2 y hy).2⟩
  ·rw [List.mem_singleton.1 hy];exact ⟨List.mem_cons_self ..,hd,hv⟩
theorem DkJ.begin_ (j:DkJ ser m com wt X S hs G mw mi ms n tick) {p br bw:Nat} {mode:Int} (hmo:mode=0∨mode=1) (hser:ser=true→mode=1) (ok:TxOk (X.add (freshT p mode X.shown br bw))) {k:Int} (h1:k≤X.shown) (h2:∀q∈X.act,k≤q.2.snap) (a:Option Addr) (c:Nat)
  {s:SnP} {G':List RdD} (hG:∀r∈G,r∈G') (hk:s.k=com.length) (hsn:SnIn G' (com.map (·.2)) s) :
  DkJ ser (m+1) com wt ((X.add (freshT p mode X.shown br bw)).less k a c) S hs G' mw mi (putA ms (X.begun+1) s) n tick:=by
 have n0:=j.n0
 have b1:=j.b1
 have b2:=j.b2
 have bg:=j.bg
 have tk:=j.tk
 have hact:∀q∈(X.add (freshT p mode X.shown br bw)).act,q∈X.act∨q=(X.begun+1,freshT p mode X.shown br bw):=fun q hq=>(List.mem_append.1 hq).imp id List.mem_singleton.1
 have xl:=(j.x.add hmo hser ok).less (k:=k) h1 (fun q hq=>by
  rcases hact q hq with h | rfl
  ·exact h2 q h
  ·exact h1) a c
 refine ⟨j.d.setX rfl rfl xl.ok hG,xl,by omega,fun y hy=>?_,fun q hq=>?_,by omega,by omega,fun u hu=>?_,by show X.begun+1≤_;omega,by omega⟩
 ·obtain ⟨k1,k2⟩:=j.w y hy
  refine ⟨by show y.tx≤X.begun+1;omega,fun q hq=>?_⟩
  rcases hact q hq with h | rfl
  ·exact k2 q h
  ·show X.begun+1≠y.tx;omega
 ·rcases mem_putA hq with rfl | hq
  ·exact ⟨_,find_new fun q hq=>(j.x.begun.2 q hq).2,by show X.shown=_;rw [hk];exact j.d.shown,hsn⟩
  ·obtain ⟨t,ht,hk,hs⟩:=j.s q hq
   have:=hs.more hG []
   rw [List.append_nil] at this
   exact ⟨t,find_add ht,hk,this⟩
 ·have h3:=(less_all _ _ _ _).subset hu
  rw [TxP.add_all] at h3
  rcases List.mem_append.1 h3 with h | h
  ·exact (j.lg u h).more (Nat.le_succ _) hG
  ·rw [List.mem_singleton.1 h];exact ⟨Nat.zero_le _,by simp [freshT]⟩
theorem DkI.fail (d:DkI com wt X S hs G mw mi n) (b:Nat) (hb:hs.length+1≤350):DkI com [] (newX com.length b) (Gr.GS.new 3 200 1 ((com.length:Int)+1)) (hs++[⟨4,0,0,none,0,[],none,0,[]⟩]) G [] [] n:=by
 have b1:=d.b1
 refine ⟨d.trc.snoc (.fail _ _ rfl rfl rfl rfl rfl),rfl,by simp [newX],newX_ok _ b,rfl,⟨rfl,rfl⟩,⟨rfl,rfl,rfl⟩,rfl,by simp,by simp,fun ws hw y hy=>d.vals ws (List.mem_append.2 (.inl (by simpa using hw))) y hy,fun e he=>?_,by simp;omega,by simp;omega⟩
 rcases List.mem_append.1 he with he | he
 ·exact d.ev e he
 ·rw [List.mem_singleton.1 he]
  exact ⟨⟨.inr ⟨rfl,rfl,rfl⟩,by simp⟩,.inr ⟨rfl,rfl,rfl⟩,by simp⟩
theorem DkJ.fail (j:DkJ ser m com wt X S hs G mw mi ms n tick) (hm:m≤60) (b:Nat) (ra:Option Addr) (rc:Nat) :
  DkJ ser (m+1) com [] (newX com.length b) (Gr.GS.new 3 200 1 ((com.length:Int)+1)) ((hs++[⟨4,0,0,none,0,[],none,0,[]⟩])++[⟨5,0,com.length,none,0,[],ra,rc,rowsH (com.map (·.2)) com.length⟩])
   (⟨ra,(rowsH (com.map (·.2)) com.length).length,rc,4,recC HdP.enc (rowsH (com.map (·.2)) com.length)⟩::G) [] [] [] n tick:=by
 have n0:=j.n0
 have b1:=j.b1
 have b2:=j.b2
 have bg:=j.bg
 have tk:=j.tk
 exact ⟨(j.d.fail b (by omega)).see ra rc (by simp;omega),XI.new ser (by omega) b,by omega,by simp,by simp,by simp;omega,by simp;omega,by simp [newX,TxP.all],by simp [newX];omega,by omega⟩
def QX (ser:Bool) (X0 X:TxP):Prop:=XI ser X∧X.last=X0.last∧∀t∈X.all,t∈X0.all
theorem QX.step {X0:TxP} (X:TxP) (s k:Int) (a:Option Addr) (c:Nat) (h:QX ser X0 X) (h1:X.shown≤s) (h2:s≤X.last) (h3:k≤s) (h4:∀q∈X.act,k≤q.2.snap):QX ser X0 ((X.show_ s).less k a c) :=
 ⟨(h.1.show_ h1 h2).less h3 h4 a c,h.2.1,fun t ht=>h.2.2 t ((less_all (X.show_ s) k a c).subset ht)⟩
theorem DkJ.run (j:DkJ ser m com wt X S hs G mw mi ms n tick) {mm:List (Int×List WrP)} {k:Nat} {X':TxP} {S':Gr.GS} {hs':List HpP} {G':List RdD} {tick':Int} (d:DkI (com++mm) (wt.drop k) X' S' hs' G' mw mi n) (q:QX ser X X') (ha:X'.act=X.act) (hb:X'.begun=X.begun) (hl:hs'.length+2 * (wt.drop k).length≤hs.length+2 * wt.length) (hG:∀r∈G,r∈G') (ht:0≤tick'∧tick'≤((m+1:Nat):Int)) :
  DkJ ser (m+1) (com++mm) (wt.drop k) X' S' hs' G' mw mi ms n tick':=by
 have n0:=j.n0
 have b1:=j.b1
 have b2:=j.b2
 have bg:=j.bg
 have l1:=d.last
 have l2:=j.d.last
 have l3:=q.2.1
 refine ⟨d,q.1,by omega,fun y hy=>?_,fun p hp=>?_,by omega,by omega,fun t ht=>(j.lg t (q.2.2 t ht)).more (Nat.le_succ _) hG,by omega,ht⟩
 ·obtain ⟨k1,k2⟩:=j.w y (List.mem_of_mem_drop hy)
  exact ⟨by rw [hb];exact k1,fun q hq=>k2 q (by rw [← ha];exact hq)⟩
 ·obtain ⟨t,h1,h2,h3⟩:=j.s p hp
  refine ⟨t,by unfold TxP.find at *;rw [ha];exact h1,h2,?_⟩
  rw [List.map_append]
  exact h3.more hG _
end
end Go.Proofs.YtlfghapllmaigaaGreatDoor
