/-
  What holds of the desk between its steps; Plain: what holds of the transactions between the desk's steps; Plain: what holds of the transactions, where one commits; none waits for one another. Conditions: each theorem's own hypotheses.
-/
import Derived.Test.YtlfghapllmaigaaGreatDoorK34
import Derived.Test.YtlfghapllmaigaaGreatDoorK25
import Derived.Test.YtlfghapllmaigaaGreatDoorK20
import Derived.Test.YtlfghapllmaigaaGreatDoorK05
set_option linter.unusedVariables false
set_option linter.unusedSimpArgs false
namespace Go.Proofs.YtlfghapllmaigaaGreatDoor
section
open Go.RowKit Go.Maps
structure Wtx where
 tx:Int
 id:Int
 ws:List WrP
 wa:Option Addr
 wc:Nat
 deriving Inhabited
structure WsS where
 a:Option Addr
 c:Nat
 ws:List WrP
def WsS.v (s:WsS):Value:=.slice s.a s.ws.length s.c
abbrev WrsO (b:Nat) (l:List (Int×WsS)):HP:=MapO Tryz.prog 3 kI WsS.v b l
theorem und_miw:Tryz.prog.underlying 29=some (.map 3 80):=by kernel_rfl
set_option maxRecDepth 20000 in
theorem z_wrs:∀w,(zeroValue 80).run Tryz.prog w=.ok (.slice none 0 0) w:=fun w=>by rfl
def WsIn (G:List RdD) (a:Option Addr) (c:Nat) (ws:List WrP):Prop:=((⟨a,ws.length,c,4,recC WrP.enc ws⟩:RdD)∈G∨ws=[]∧a=none∧c=0)∧∀y∈ws,∃n,(⟨y.va,y.vals.length,y.vc,3,recC Val.enc y.vals⟩:RdD)∈G∧n=y.vals.length
def HsIn (G:List RdD) (a:Option Addr) (c:Nat) (rs:List HdP):Prop:=((⟨a,rs.length,c,4,recC HdP.enc rs⟩:RdD)∈G∨rs=[]∧a=none∧c=0)∧∀y∈rs,(⟨y.va,y.vals.length,y.vc,3,recC Val.enc y.vals⟩:RdD)∈G
def EvIn (G:List RdD) (e:HpP):Prop:=WsIn G e.wa e.wc e.writes∧HsIn G e.ra e.rc e.rows
theorem EvIn.more {G G':List RdD} {e:HpP} (h:EvIn G e) (hs:∀r∈G,r∈G'):EvIn G' e :=
 ⟨⟨h.1.1.imp (hs _) id,fun y hy=>by obtain ⟨n,h1,h2⟩:=h.1.2 y hy;exact ⟨n,hs _ h1,h2⟩⟩,⟨h.2.1.imp (hs _) id,fun y hy=>hs _ (h.2.2 y hy)⟩⟩
theorem Own.hsRd {B:Nat} {w:World} {l:List HP} (O:Own B w l) (i j:Nat) {G:List RdD} (hi:l[i]?=some (ImmO G)) {a:Option Addr} {n c:Nat} {hs:List HpP} (hj:l[j]?=some (RowP 84 5 a n c (recC HpP.enc hs))) (hG:∀e∈hs,EvIn G e):HsRd w a n c hs:=by
 refine ⟨Rd.ofOwn (O.row j hj),fun e he=>?_⟩
 obtain ⟨⟨h1,h2⟩,h3,h4⟩:=hG e he
 refine ⟨?_,?_,fun y hy=>?_,fun y hy=>?_⟩
 ·rcases h1 with h1 | ⟨h1,h5,h6⟩
  ·exact O.imm i hi h1
  ·rw [h1,h5,h6];exact Rd.nilSlice w 4
 ·rcases h3 with h3 | ⟨h3,h5,h6⟩
  ·exact O.imm i hi h3
  ·rw [h3,h5,h6];exact Rd.nilSlice w 4
 ·obtain ⟨_,h5,_⟩:=h2 y hy
  exact O.imm i hi h5
 ·exact O.imm i hi (h4 y hy)
def idw (x:Wtx):Int×List WrP:=(x.id,x.ws)
structure DkI (com:List (Int×List WrP)) (wt:List Wtx) (X:TxP) (S:Gr.GS) (hs:List HpP) (G:List RdD) (mw:List (Int×WsS)) (mi:List (Int×Int)) (n:Int):Prop where
 trc:Trc hs ⟨com,wt.map idw,n⟩
 shown:X.shown=(com.length:Int)
 last:X.last=(com.length:Int)+wt.length
 txok:TxOk X
 stamp:S.stamp=(com.length:Int)+1
 cl:S.opn=false∧S.txs=[]
 par:S.most=3∧S.room=200∧S.delay=1
 q:S.q.map Gr.Nd.tx=wt.map Wtx.tx
 mp:∀x∈wt,getA mw x.tx=some ⟨x.wa,x.wc,x.ws⟩∧getA mi x.tx=some x.id∧In64 x.tx
 imm:∀x∈wt,(⟨x.wa,x.ws.length,x.wc,4,recC WrP.enc x.ws⟩:RdD)∈G
 vals:∀ws∈com.map (·.2)++wt.map Wtx.ws,∀y∈ws,(⟨y.va,y.vals.length,y.vc,3,recC Val.enc y.vals⟩:RdD)∈G
 ev:∀e∈hs,EvIn G e
 b1:com.length+wt.length≤100
 b2:hs.length+2 * wt.length≤350
theorem rowsH_vals {com:List (List WrP)} {k:Nat} {x:HdP} (h:x∈rowsH com k):∃ws∈com,∃y∈ws,x.va=y.va∧x.vc=y.vc∧x.vals=y.vals:=by
 obtain ⟨q,hq,h⟩:=List.mem_filterMap.1 h
 unfold seeH at h
 obtain ⟨p,hp,h⟩:=Option.bind_eq_some_iff.1 h
 have hm:=List.mem_of_getLast? hp
 unfold colW at hm
 obtain ⟨y,hy,hm⟩:=List.mem_filterMap.1 hm
 obtain ⟨w,hw,rfl⟩:=Option.map_eq_some_iff.1 hm
 obtain ⟨h1,h2⟩:=wAt_key hw
 have h3:y.1∈com:=by
  have:=(List.mem_zipIdx hy).2.2
  rw [this]
  exact List.mem_of_mem_take (List.getElem_mem _)
 simp only at h
 split at h
 ·cases h
 ·cases h;exact ⟨y.1,h3,w,h2,rfl,rfl,rfl⟩
theorem DkI.see {com:List (Int×List WrP)} {wt:List Wtx} {X:TxP} {S:Gr.GS} {hs:List HpP} {G:List RdD} {mw:List (Int×WsS)} {mi:List (Int×Int)} {n:Int} (d:DkI com wt X S hs G mw mi n) (ra:Option Addr) (rc:Nat) (hb:hs.length+1+2 * wt.length≤350) :
  DkI com wt X S (hs++[⟨5,0,com.length,none,0,[],ra,rc,rowsH (com.map (·.2)) com.length⟩]) (⟨ra,(rowsH (com.map (·.2)) com.length).length,rc,4,recC HdP.enc (rowsH (com.map (·.2)) com.length)⟩::G) mw mi n:=by
 refine ⟨d.trc.snoc (.see _ _ rfl rfl rfl ?_ rfl),d.shown,d.last,d.txok,d.stamp,d.cl,d.par,d.q,d.mp,fun x hx=>List.mem_cons_of_mem _ (d.imm x hx),fun ws hw y hy=>List.mem_cons_of_mem _ (d.vals ws hw y hy),fun e he=>?_,d.b1,by rw [List.length_append];exact hb⟩
 ·simp [Sg.cw]
 ·rcases List.mem_append.1 he with he | he
  ·exact (d.ev e he).more fun r hr=>List.mem_cons_of_mem _ hr
  ·rw [List.mem_singleton.1 he]
   refine ⟨⟨.inr ⟨rfl,rfl,rfl⟩,by simp⟩,.inl (List.mem_cons_self ..),fun y hy=>?_⟩
   obtain ⟨ws,h1,z,h2,h3,h4,h5⟩:=rowsH_vals hy
   have:=d.vals ws (List.mem_append.2 (.inl h1)) z h2
   rw [h3,h4,h5]
   exact List.mem_cons_of_mem _ this
def repsL (wt:List Wtx) (L k:Nat):List HpP:=(List.range k).map fun j=>⟨2,(wt.getD j default).id,(L:Int)+j+1,none,0,[],none,0,[]⟩
theorem repsL_succ (wt:List Wtx) (L k:Nat):repsL wt L (k+1)=repsL wt L k++[⟨2,(wt.getD k default).id,(L:Int)+k+1,none,0,[],none,0,[]⟩]:=by
 unfold repsL;rw [List.range_succ,List.map_append];rfl
theorem repsL_len (wt:List Wtx) (L k:Nat):(repsL wt L k).length=k:=by unfold repsL;simp
theorem trc_reps {hs:List HpP} {com:List (Int×List WrP)} {wt:List Wtx} {n:Int} (t:Trc hs ⟨com,wt.map idw,n⟩):∀k,k≤wt.length→Trc (hs++repsL wt com.length k) ⟨com++(wt.take k).map idw,(wt.drop k).map idw,n⟩
 | 0,_=>by simpa [repsL] using t
 | k+1,hk=>by
  have ih:=trc_reps t k (by omega)
  rw [repsL_succ,← List.append_assoc]
  have hd:wt.drop k=wt.getD k default::wt.drop (k+1):=by
   rw [List.getD_eq_getElem?_getD,List.getElem?_eq_getElem hk]
   exact List.drop_eq_getElem_cons hk
  have ht:wt.take (k+1)=wt.take k++[wt.getD k default]:=take_snoc hk
  have h:=ih.snoc (.report _ ⟨2,(wt.getD k default).id,(com.length:Int)+k+1,none,0,[],none,0,[]⟩ (wt.getD k default).ws ((wt.drop (k+1)).map idw) rfl (by simp only;rw [hd];rfl) (by simp only [List.length_append,List.length_map,List.length_take];omega) rfl rfl)
  rw [ht,List.map_append,← List.append_assoc]
  exact h
theorem DkI.batch {com:List (Int×List WrP)} {wt:List Wtx} {X:TxP} {S:Gr.GS} {hs:List HpP} {G:List RdD} {mw:List (Int×WsS)} {mi:List (Int×Int)} {n:Int} (d:DkI com wt X S hs G mw mi n) {k:Nat} (hk:S.front=k) (hkw:k≤wt.length) {X':TxP} (hX:TxOk X') (h1:X'.shown=(com.length:Int)+k) (h2:X'.last=X.last) :
  DkI (com++(wt.take k).map idw) (wt.drop k) X' S.cut.done (hs++repsL wt com.length k) G mw mi n:=by
 have hb:=d.b1
 have hb2:=d.b2
 refine ⟨trc_reps d.trc k hkw,?_,?_,hX,?_,⟨rfl,rfl⟩,d.par,?_,fun x hx=>d.mp x (List.mem_of_mem_drop hx),fun x hx=>d.imm x (List.mem_of_mem_drop hx),fun ws hw y hy=>?_,fun e he=>?_,?_,?_⟩
 ·rw [h1];simp only [List.length_append,List.length_map,List.length_take];omega
 ·rw [h2,d.last];simp only [List.length_append,List.length_map,List.length_take,List.length_drop];omega
 ·show S.stamp+(S.front:Int)=_
  rw [d.stamp,hk];simp only [List.length_append,List.length_map,List.length_take];omega
 ·show (S.q.drop S.front).map Gr.Nd.tx=_
  rw [hk,List.map_drop,d.q,List.map_drop]
 ·refine d.vals ws ?_ y hy
  rcases List.mem_append.1 hw with hw | hw
  ·rw [List.map_append,List.map_map] at hw
   rcases List.mem_append.1 hw with hw | hw
   ·exact List.mem_append.2 (.inl hw)
   ·obtain ⟨x,hx,rfl⟩:=List.mem_map.1 hw
    exact List.mem_append.2 (.inr (List.mem_map.2 ⟨x,List.mem_of_mem_take hx,rfl⟩))
  ·obtain ⟨x,hx,rfl⟩:=List.mem_map.1 hw
   exact List.mem_append.2 (.inr (List.mem_map.2 ⟨x,List.mem_of_mem_drop hx,rfl⟩))
 ·rcases List.mem_append.1 he with he | he
  ·exact d.ev e he
  ·unfold repsL at he
   obtain ⟨j,_,rfl⟩:=List.mem_map.1 he
   exact ⟨⟨.inr ⟨rfl,rfl,rfl⟩,by simp⟩,.inr ⟨rfl,rfl,rfl⟩,by simp⟩
 ·simp only [List.length_append,List.length_map,List.length_take,List.length_drop];omega
 ·rw [List.length_append,repsL_len,List.length_drop];omega
end
section
open Go.RowKit
def TnP.wr (t:TnP):Bool:=t.done&&decide (0<t.writes.length)
def RelT (a b:TnP):Prop:=(0<a.stamp→a.stamp≠b.stamp)∧(a.wr=true→b.wr=true→a.snap<b.stamp→b.snap<a.stamp→meetI a.writes b.writes=false)
theorem RelT.symm {a b:TnP} (h:RelT a b):RelT b a:=⟨fun h1 h2=>h.1 (by omega) h2.symm,fun h1 h2 h3 h4=>by rw [meetI_comm];exact h.2 h2 h1 h4 h3⟩
structure TnI (last shown:Int) (t:TnP):Prop where
 mode:t.mode=0∨t.mode=1
 snap:0≤t.snap∧t.snap≤shown
 stamp:0≤t.stamp∧t.stamp≤last
 wr:t.wr=true→t.snap<t.stamp
 nw:t.wr=false→t.stamp=0
def accP (x:PAcc):Acc:=⟨x.mode.toNat,x.snap.toNat,x.done,x.stamp.toNat,x.reads.map Int.toNat,x.writes.map Int.toNat⟩
def nacc (t:TnP):NAcc:=(t.p,accP t.pl)
structure XI (ser:Bool) (X:TxP):Prop where
 ok:TxOk X
 pos:0≤X.shown∧X.shown≤X.last
 begun:0≤X.begun∧∀q∈X.act,1≤q.1∧q.1≤X.begun
 tn:∀t∈X.all,TnI X.last X.shown t
 act:∀q∈X.act,q.2.done=false
 top:(∃t∈X.kept,t.stamp=X.last)∨X.shown=X.last∧∀q∈X.act,q.2.snap=X.last
 pw:X.all.Pairwise RelT
 mode:ser=true→∀t∈X.all,t.mode=1
 nd:ser=true→NoDang (X.all.map nacc)
theorem XI.new (ser:Bool) {s:Int} (hs:0≤s) (b:Nat):XI ser (newX s b):=by
 refine ⟨newX_ok s b,⟨hs,Int.le_refl _⟩,⟨Int.le_refl _,by simp [newX]⟩,by simp [newX,TxP.all],by simp [newX],.inr ⟨rfl,by simp [newX]⟩,by simp [newX,TxP.all],fun _=>by simp [newX,TxP.all],fun _=>?_⟩
 intro x hx
 simp [newX,TxP.all] at hx
theorem act_all {X:TxP} {q:Int×TnP} (h:q∈X.act):q.2∈X.all:=List.mem_append.2 (.inr (List.mem_map.2 ⟨q,h,rfl⟩))
theorem less_all (X:TxP) (k:Int) (a:Option Addr) (c:Nat):List.Sublist (X.less k a c).all X.all:=List.Sublist.append List.filter_sublist (List.Sublist.refl _)
theorem TxOk.sub {X Y:TxP} (ok:TxOk X) (ha:List.Sublist Y.act X.act) (hs:List.Sublist Y.all X.all):TxOk Y :=
 ⟨ok.asc.sublist (ha.map _),fun q hq=>ok.i64 q (ha.subset hq),fun t ht=>ok.tn t (hs.subset ht),ok.nd.sublist (hs.map _),Nat.le_trans hs.length_le ok.len⟩
theorem NoDang.subL {l m:List TnP} (h:NoDang (m.map nacc)) (hs:∀x∈l,x∈m):NoDang (l.map nacc):=h.sub fun x hx=>by
 obtain ⟨t,ht,rfl⟩:=List.mem_map.1 hx
 exact List.mem_map.2 ⟨t,hs t ht,rfl⟩
theorem XI.less {ser:Bool} {X:TxP} (x:XI ser X) {k:Int} (h1:k≤X.shown) (h2:∀q∈X.act,k≤q.2.snap) (a:Option Addr) (c:Nat):XI ser (X.less k a c):=by
 have hs:=less_all X k a c
 refine ⟨x.ok.sub (List.Sublist.refl _) hs,x.pos,x.begun,fun t ht=>x.tn t (hs.subset ht),x.act,?_,x.pw.sublist hs,fun e t ht=>x.mode e t (hs.subset ht),fun e=>(x.nd e).subL fun t ht=>hs.subset ht⟩
 rcases x.top with ⟨t,ht,e⟩ | h
 ·by_cases hg:gone k t=true
  ·have h5:=x.pos
   unfold gone at hg
   rw [Bool.and_eq_true,decide_eq_true_eq] at hg
   refine .inr ⟨by show X.shown=X.last;omega,fun q hq=>?_⟩
   have h3:=h2 q hq
   have h4:=(x.tn q.2 (act_all hq)).snap
   show q.2.snap=X.last
   omega
  ·exact .inl ⟨t,List.mem_filter.2 ⟨ht,by simpa using hg⟩,e⟩
 ·exact .inr h
theorem XI.show_ {ser:Bool} {X:TxP} (x:XI ser X) {s:Int} (h1:X.shown≤s) (h2:s≤X.last):XI ser (X.show_ s) :=
 ⟨x.ok.show_ s,⟨Int.le_trans x.pos.1 h1,h2⟩,x.begun,fun t ht=>⟨(x.tn t ht).mode,⟨(x.tn t ht).snap.1,Int.le_trans (x.tn t ht).snap.2 h1⟩,(x.tn t ht).stamp,(x.tn t ht).wr,(x.tn t ht).nw⟩,x.act,x.top.imp id fun h=>⟨by show s=X.last;have:=h.1;omega,h.2⟩,x.pw,x.mode,x.nd⟩
theorem XI.drop {ser:Bool} {X:TxP} (x:XI ser X) (n:Int):XI ser (X.drop n):=by
 have hs:=X.drop_all n
 have ha:List.Sublist (X.drop n).act X.act:=List.filter_sublist
 exact ⟨x.ok.drop n,x.pos,⟨x.begun.1,fun q hq=>x.begun.2 q (ha.subset hq)⟩,fun t ht=>x.tn t (hs.subset ht),fun q hq=>x.act q (ha.subset hq),x.top.imp id fun h=>⟨h.1,fun q hq=>h.2 q (ha.subset hq)⟩,x.pw.sublist hs,fun e t ht=>x.mode e t (hs.subset ht),fun e=>(x.nd e).subL fun t ht=>hs.subset ht⟩
theorem p_inj {l:List TnP} (hn:(l.map TnP.p).Nodup) {a b:TnP} (ha:a∈l) (hb:b∈l) (h:a.p=b.p):a=b:=by
 obtain ⟨i,hi,rfl⟩:=List.mem_iff_getElem.1 ha
 obtain ⟨j,hj,rfl⟩:=List.mem_iff_getElem.1 hb
 have hp:=List.pairwise_iff_getElem.1 hn
 rcases Nat.lt_trichotomy i j with hlt | heq | hgt
 ·exact absurd (by rw [List.getElem_map,List.getElem_map];exact h) (hp i j (by simpa using hi) (by simpa using hj) hlt)
 ·subst heq;rfl
 ·exact absurd (by rw [List.getElem_map,List.getElem_map];exact h.symm) (hp j i (by simpa using hj) (by simpa using hi) hgt)
theorem nodang_open {l m:List TnP} {t:TnP} (h:NoDang (l.map nacc)) (hm:∀y∈m,y=t∨y∈l) (hn:(m.map TnP.p).Nodup) (ht:t∈m) (ho:t.done=false):NoDang (m.map nacc):=by
 have key:∀a∈m.map nacc,a.1=t.p→a.2.done=false:=fun a ha e=>by
  obtain ⟨u,hu,rfl⟩:=List.mem_map.1 ha
  rw [p_inj hn hu ht e];exact ho
 refine h.commit (x:=nacc t) (fun y hy=>?_) fun a ha b hb c hc e=>dangN_open ?_
 ·obtain ⟨u,hu,rfl⟩:=List.mem_map.1 hy
  exact (hm u hu).imp (fun e=>by rw [e]) fun h=>List.mem_map.2 ⟨u,h,rfl⟩
 ·exact e.imp (key a ha) (Or.imp (key b hb) (key c hc))
theorem wr_open {t:TnP} (h:t.done=false):t.wr=false:=by unfold TnP.wr;rw [h];rfl
theorem XI.add {ser:Bool} {X:TxP} (x:XI ser X) {p br bw:Nat} {mode:Int} (hm:mode=0∨mode=1) (hser:ser=true→mode=1) (ok:TxOk (X.add (freshT p mode X.shown br bw))):XI ser (X.add (freshT p mode X.shown br bw)):=by
 have hall:=X.add_all (freshT p mode X.shown br bw)
 have hmem:∀t∈(X.add (freshT p mode X.shown br bw)).all,t∈X.all∨t=freshT p mode X.shown br bw:=fun t ht=>by
  rw [hall] at ht
  exact (List.mem_append.1 ht).imp id List.mem_singleton.1
 have hl:∀t∈X.all,RelT t (freshT p mode X.shown br bw):=fun t ht=>⟨fun h=>by show t.stamp≠0;omega,fun _ h=>by cases h⟩
 refine ⟨ok,x.pos,⟨by show 0≤X.begun+1;have:=x.begun.1;omega,fun q hq=>?_⟩,fun t ht=>?_,fun q hq=>?_,?_,?_,fun e t ht=>?_,fun e=>?_⟩
 ·show 1≤q.1∧q.1≤X.begun+1
  rcases List.mem_append.1 hq with h | h
  ·have:=x.begun.2 q h;omega
  ·rw [List.mem_singleton.1 h];have:=x.begun.1;simp only;omega
 ·rcases hmem t ht with h | rfl
  ·exact x.tn t h
  ·exact ⟨hm,⟨x.pos.1,Int.le_refl _⟩,⟨Int.le_refl _,Int.le_trans x.pos.1 x.pos.2⟩,fun h=>(by cases h),fun _=>rfl⟩
 ·rcases List.mem_append.1 hq with h | h
  ·exact x.act q h
  ·rw [List.mem_singleton.1 h];rfl
 ·rcases x.top with ⟨t,ht,e⟩ | h
  ·exact .inl ⟨t,ht,e⟩
  ·refine .inr ⟨h.1,fun q hq=>?_⟩
   rcases List.mem_append.1 hq with h2 | h2
   ·exact h.2 q h2
   ·rw [List.mem_singleton.1 h2];exact h.1
 ·rw [hall,List.pairwise_append]
  exact ⟨x.pw,List.pairwise_singleton _ _,fun a ha b hb=>by rw [List.mem_singleton.1 hb];exact hl a ha⟩
 ·rcases hmem t ht with h | rfl
  ·exact x.mode e t h
  ·exact hser e
 ·exact nodang_open (t:=freshT p mode X.shown br bw) (x.nd e) (fun y hy=>(hmem y hy).symm) ok.nd (by rw [hall];simp) rfl
theorem XI.upd {ser:Bool} {X:TxP} (x:XI ser X) {n:Int} {t t':TnP} (h:X.find n=some t) (hp:t'.p=t.p) (hm:t'.mode=t.mode) (hs:t'.snap=t.snap) (hd:t'.done=t.done) (hst:t'.stamp=t.stamp) (ht:TnOk t'):XI ser (X.upd n t'):=by
 obtain ⟨hma,hml⟩:=TxP.find_mem h
 have hdf:t.done=false:=x.act _ hma
 have ho:t'.done=false:=by rw [hd];exact hdf
 have hall:=upd_all x.ok h t'
 have hdr:=X.drop_all n
 have ok:=x.ok.upd h hp ht
 obtain ⟨A1,A2,e1,e2,e3⟩:=upd_split x.ok h t'
 have hmem:∀u∈(X.upd n t').all,u=t'∨u∈X.all:=fun u hu=>(List.mem_cons.1 (hall.mem_iff.1 hu)).imp id fun h=>hdr.subset h
 have hact:∀q∈(X.upd n t').act,q=(n,t')∨q∈X.act:=fun q hq=>by
  rw [e3] at hq
  rw [e1]
  rcases List.mem_append.1 hq with h | h
  ·exact .inr (List.mem_append.2 (.inl h))
  ·rcases List.mem_cons.1 h with h | h
   ·exact .inl h
   ·exact .inr (List.mem_append.2 (.inr (List.mem_cons_of_mem _ h)))
 refine ⟨ok,x.pos,⟨x.begun.1,fun q hq=>?_⟩,fun u hu=>?_,fun q hq=>?_,x.top.imp id fun h=>⟨h.1,fun q hq=>?_⟩,?_,fun e u hu=>?_,fun e=>?_⟩
 ·rcases hact q hq with rfl | h
  ·exact x.begun.2 (n,t) hma
  ·exact x.begun.2 q h
 ·rcases hmem u hu with rfl | h
  ·have k:=x.tn t hml
   exact ⟨by rw [hm];exact k.mode,by rw [hs];exact k.snap,by rw [hst];exact k.stamp,fun h=>(by rw [wr_open ho] at h;cases h),fun _=>by rw [hst];exact k.nw (wr_open hdf)⟩
  ·exact x.tn u h
 ·rcases hact q hq with rfl | h
  ·exact ho
  ·exact x.act q h
 ·rcases hact q hq with rfl | h2
  ·show t'.snap=X.last
   rw [hs];exact h.2 _ hma
  ·exact h.2 q h2
 ·refine List.Pairwise.perm (List.pairwise_cons.2 ⟨fun u hu=>?_,x.pw.sublist hdr⟩) hall.symm fun h=>h.symm
  exact ⟨fun h=>by rw [hst,(x.tn t hml).nw (wr_open hdf)] at h;omega,fun h=>by rw [wr_open ho] at h;cases h⟩
 ·rcases hmem u hu with rfl | h
  ·rw [hm];exact x.mode e t hml
  ·exact x.mode e u h
 ·exact nodang_open (t:=t') (x.nd e) hmem ok.nd (hall.mem_iff.2 (List.mem_cons_self ..)) ho
theorem pl_eq {x:AccP} {t:TnP} (h:x.pl=t.pl):x.mode=t.mode∧x.snap=t.snap∧x.done=t.done∧x.stamp=t.stamp∧x.reads=t.reads∧x.writes=t.writes:=by
 unfold AccP.pl TnP.pl at h
 exact PAcc.mk.inj h
theorem pl_wr {x:AccP} {t:TnP} (h:x.pl=t.pl):x.wr=t.wr:=by
 obtain ⟨_,_,h3,_,_,h6⟩:=pl_eq h
 unfold AccP.wr TnP.wr
 rw [h3,h6]
theorem items_asc {S:List (Int×Int)} (hs:∀s∈S,s∈spots) (h:S.Pairwise (fun a b=>a.1<b.1∨a.1=b.1∧a.2<b.2)):ascB (S.map itemI)=true:=by
 refine ascB_yes fun k hk=>?_
 rw [List.length_map] at hk
 have h1:=List.pairwise_iff_getElem.1 h k (k+1) (by omega) hk (by omega)
 have g:∀j (hj:j<S.length),(S.map itemI).getD j 0=itemI S[j]:=fun j hj=>by rw [List.getD_eq_getElem?_getD,List.getElem?_map,List.getElem?_eq_getElem hj];rfl
 rw [g k (by omega),g (k+1) hk]
 exact (itemI_lt (hs _ (List.getElem_mem _)) (hs _ (List.getElem_mem _))).2 h1
theorem wsOf_key {log:List WrP} {w:WrP} (h:w∈wsOf log):w.key∈spots:=by
 obtain ⟨s,hs,h⟩:=List.mem_filterMap.1 h
 rw [(lastW_key h).1];exact hs
theorem reads_facts (t:TnP):ascB t.reads=true∧t.reads.length≤64∧∀y∈t.reads,In64 y∧0≤y:=by
 have hs:∀s∈spots.filter fun s=>decide (s∈keysA t.rows),s∈spots:=fun s h=>(List.mem_filter.1 h).1
 refine ⟨items_asc hs (spots_lt.sublist List.filter_sublist),?_,fun y hy=>?_⟩
 ·unfold TnP.reads
  rw [List.length_map]
  exact Nat.le_trans (List.length_filter_le _ _) (by decide)
 ·unfold TnP.reads at hy
  obtain ⟨s,h,rfl⟩:=List.mem_map.1 hy
  refine ⟨itemI_i64 (hs s h),?_⟩
  have:=spots_iff.1 (hs s h)
  unfold itemI;omega
theorem writes_facts (t:TnP):ascB t.writes=true∧t.writes.length≤64∧∀y∈t.writes,In64 y∧0≤y:=by
 have e:t.writes=((wsOf t.log).map WrP.key).map itemI:=by unfold TnP.writes;rw [List.map_map];rfl
 have hs:∀s∈(wsOf t.log).map WrP.key,s∈spots:=fun s h=>by
  obtain ⟨w,hw,rfl⟩:=List.mem_map.1 h
  exact wsOf_key hw
 rw [e]
 refine ⟨items_asc hs ?_,?_,fun y hy=>?_⟩
 ·rw [List.pairwise_map];exact wsOf_lt t.log
 ·rw [List.length_map,List.length_map];exact Nat.le_trans (wsOf_len _) (by decide)
 ·obtain ⟨s,h,rfl⟩:=List.mem_map.1 hy
  refine ⟨itemI_i64 (hs s h),?_⟩
  have:=spots_iff.1 (hs s h)
  unfold itemI;omega
theorem pl_len {hs:List AccP} {ts:List TnP} (h:hs.map AccP.pl=ts.map TnP.pl):hs.length=ts.length:=by
 have:=congrArg List.length h
 rwa [List.length_map,List.length_map] at this
theorem pl_mem {hs:List AccP} {ts:List TnP} (h:hs.map AccP.pl=ts.map TnP.pl) {x:AccP} (hx:x∈hs):∃t∈ts,x.pl=t.pl:=by
 have:x.pl∈ts.map TnP.pl:=by rw [← h];exact List.mem_map.2 ⟨x,hx,rfl⟩
 obtain ⟨t,ht,e⟩:=List.mem_map.1 this
 exact ⟨t,ht,e.symm⟩
theorem pl_mem2 {hs:List AccP} {ts:List TnP} (h:hs.map AccP.pl=ts.map TnP.pl) {t:TnP} (ht:t∈ts):∃x∈hs,x.pl=t.pl:=by
 have:t.pl∈hs.map AccP.pl:=by rw [h];exact List.mem_map.2 ⟨t,ht,rfl⟩
 obtain ⟨x,hx,e⟩:=List.mem_map.1 this
 exact ⟨x,hx,e⟩
theorem pw_at {l:List TnP} (h:l.Pairwise RelT) {i j:Nat} (hi:i<l.length) (hj:j<l.length) (hij:i≠j):RelT (l.getD i default) (l.getD j default):=by
 have h1:=List.pairwise_iff_getElem.1 h
 have g:∀ {k},(hk:k<l.length)→l.getD k default=l[k]:=fun hk=>by rw [List.getD_eq_getElem?_getD,List.getElem?_eq_getElem hk];rfl
 rw [g hi,g hj]
 rcases Nat.lt_or_gt_of_ne hij with h2 | h2
 ·exact h1 i j hi hj h2
 ·exact (h1 j i hj hi h2).symm
theorem XI.hok {ser:Bool} {X:TxP} (x:XI ser X) (hl:X.last≤1073741824) {hs:List AccP} (h:hs.map AccP.pl=X.all.map TnP.pl):HOk hs:=by
 have hlen:=pl_len h
 refine ⟨by rw [hlen];exact x.ok.len,fun y hy=>?_,fun y hy=>?_,fun i j hij hj hp=>?_,fun i j hij hi w1 w2 hc=>?_,fun y hy=>?_⟩
 ·obtain ⟨t,ht,e⟩:=pl_mem h hy
  obtain ⟨_,_,_,_,e5,e6⟩:=pl_eq e
  rw [e5,e6];exact ⟨(reads_facts t).2.1,(writes_facts t).2.1⟩
 ·obtain ⟨t,ht,e⟩:=pl_mem h hy
  obtain ⟨e1,e2,e3,e4,e5,e6⟩:=pl_eq e
  have k:=x.tn t ht
  have hp:=x.pos
  have hw:=pl_wr e
  have k1:=k.mode
  have k2:=k.snap
  have k3:=k.stamp
  refine formB_ok.2 ⟨by rw [e1];omega,by rw [e2];omega,by rw [e5];exact (reads_facts t).1,by rw [e6];exact (writes_facts t).1,fun h=>by rw [e1] at h;omega,fun h=>?_,fun h=>?_⟩
  ·rw [hw] at h;rw [e2,e4];have:=k.wr h;omega
  ·rw [hw] at h;rw [e4];exact k.nw h
 ·obtain ⟨_,_,_,e4,_,_⟩:=pl_eq (pl_done h (i:=i) (by omega) rfl)
  obtain ⟨_,_,_,f4,_,_⟩:=pl_eq (pl_done h (i:=j) (by omega) rfl)
  rw [e4,f4]
  rw [e4] at hp
  exact (pw_at x.pw (by omega) (by omega) (by omega)).1 hp
 ·have ei:=pl_done h (i:=i) (by omega) rfl
  have ej:=pl_done h (i:=j) (by omega) rfl
  obtain ⟨_,e2,_,e4,_,e6⟩:=pl_eq ei
  obtain ⟨_,f2,_,f4,_,f6⟩:=pl_eq ej
  rw [pl_wr ei] at w1
  rw [pl_wr ej] at w2
  unfold conB at hc
  rw [Bool.and_eq_true,decide_eq_true_eq,decide_eq_true_eq,e2,e4,f2,f4] at hc
  rw [e6,f6]
  exact (pw_at x.pw (by omega) (by omega) (by omega)).2 w1 w2 hc.1 hc.2
 ·obtain ⟨t,ht,e⟩:=pl_mem h hy
  obtain ⟨_,_,_,_,e5,e6⟩:=pl_eq e
  rw [e5,e6];exact ⟨fun z hz=>((reads_facts t).2.2 z hz).1,fun z hz=>((writes_facts t).2.2 z hz).1⟩
theorem XI.top_is {ser:Bool} {X:TxP} (x:XI ser X) {hs:List AccP} (h:hs.map AccP.pl=X.all.map TnP.pl) (ha:X.act≠[]):topS hs=X.last:=by
 refine Int.le_antisymm (topS_le (Int.le_trans x.pos.1 x.pos.2) fun y hy=>?_) ?_
 ·obtain ⟨t,ht,e⟩:=pl_mem h hy
  obtain ⟨_,e2,_,e4,_,_⟩:=pl_eq e
  have k:=x.tn t ht
  have hp:=x.pos
  have k2:=k.snap
  rw [e2,e4];exact ⟨k.stamp.2,by omega⟩
 ·rcases x.top with ⟨t,ht,e⟩ | ⟨_,h2⟩
  ·obtain ⟨y,hy,e'⟩:=pl_mem2 h (List.mem_append.2 (.inl ht):t∈X.all)
   have:=(topS_mem hy).1
   rw [(pl_eq e').2.2.2.1,e] at this;exact this
  ·obtain ⟨q,hq⟩:=List.exists_mem_of_ne_nil _ ha
   obtain ⟨y,hy,e'⟩:=pl_mem2 h (act_all hq)
   have:=(topS_mem hy).2
   rw [(pl_eq e').2.1,h2 q hq] at this;exact this
end
section
open Go.RowKit
theorem meets_nat {a b:List Int} (ha:∀x∈a,0≤x) (hb:∀x∈b,0≤x):meetsL (a.map Int.toNat) (b.map Int.toNat)=meetI a b:=by
 rw [Bool.eq_iff_iff,meetsL_iff]
 unfold meetI
 rw [List.any_eq_true]
 constructor
 ·rintro ⟨x,h1,h2⟩
  obtain ⟨y,hy,rfl⟩:=List.mem_map.1 h2
  obtain ⟨z,hz,e⟩:=List.mem_map.1 h1
  have h3:=ha z hz
  have h4:=hb y hy
  obtain rfl:z=y:=by omega
  exact ⟨z,hy,decide_eq_true hz⟩
 ·rintro ⟨x,h1,h2⟩
  exact ⟨x.toNat,List.mem_map.2 ⟨x,of_decide_eq_true h2,rfl⟩,List.mem_map.2 ⟨x,h1,rfl⟩⟩
theorem reads_pos (t:TnP):∀y∈t.reads,0≤y:=fun y hy=>((reads_facts t).2.2 y hy).2
theorem writes_pos (t:TnP):∀y∈t.writes,0≤y:=fun y hy=>((writes_facts t).2.2 y hy).2
def NnT (t:TnP):Prop:=0≤t.snap∧0≤t.stamp
theorem anti_nat {x y:TnP} (hx:NnT x) (hy:NnT y):antiB (accP x.pl) (accP y.pl)=(decide (x.snap<y.stamp)&&meetI x.reads y.writes):=by
 unfold antiB accP TnP.pl
 simp only
 rw [meets_nat (reads_pos x) (writes_pos y)]
 congr 1
 rw [decide_eq_decide]
 have:=hx.1
 have:=hy.2
 omega
theorem plain_nat {x y:TnP} (hx:NnT x) (hy:NnT y):plainB (accP x.pl) (accP y.pl)=((decide (x.stamp<y.stamp)&&meetI x.writes y.writes)||(decide (x.stamp≤y.snap)&&meetI x.writes y.reads)):=by
 unfold plainB accP TnP.pl
 simp only
 rw [meets_nat (writes_pos x) (writes_pos y),meets_nat (writes_pos x) (reads_pos y)]
 have h1:=hx.2
 have h2:=hy.2
 have h3:=hy.1
 congr 2
 ·rw [decide_eq_decide];omega
 ·rw [decide_eq_decide];omega
theorem wr_nat (t:TnP):(accP t.pl).writer=t.wr:=by
 unfold Acc.writer TnP.wr accP TnP.pl
 simp only
 cases t.writes<;>simp
theorem dangI_N {hs:List AccP} {L:List TnP} (h:hs.map AccP.pl=L.map TnP.pl) (hn:(L.map TnP.p).Nodup) (nn:∀t∈L,NnT t) {a b c:Nat} (ha:a<L.length) (hb:b<L.length) (hc:c<L.length) :
  dangN (nacc (L.getD a default)) (nacc (L.getD b default)) (nacc (L.getD c default))=dangI hs a b c:=by
 have ne:∀ {i j},i<L.length→j<L.length→((L.getD i default).p=(L.getD j default).p↔i=j):=by
  intro i j hi hj
  constructor
  ·intro e
   have g:∀ {k},(hk:k<L.length)→L.getD k default=L[k]:=fun hk=>by rw [List.getD_eq_getElem?_getD,List.getElem?_eq_getElem hk];rfl
   rw [g hi,g hj] at e
   have hp:=List.pairwise_iff_getElem.1 hn
   rcases Nat.lt_trichotomy i j with hlt | heq | hgt
   ·exact absurd (by rw [List.getElem_map,List.getElem_map];exact e) (hp i j (by simpa using hi) (by simpa using hj) hlt)
   ·exact heq
   ·exact absurd (by rw [List.getElem_map,List.getElem_map];exact e.symm) (hp j i (by simpa using hj) (by simpa using hi) hgt)
  ·rintro rfl;rfl
 have mem:∀ {i},i<L.length→L.getD i default∈L:=fun hi=>getD_mem hi
 have pl:∀ {i},i<L.length→(hs.getD i default).pl=(L.getD i default).pl:=fun hi=>pl_done h hi rfl
 have an:∀ {i j},i<L.length→j<L.length→antiN (nacc (L.getD i default)) (nacc (L.getD j default))=antiI hs i j:=by
  intro i j hi hj
  obtain ⟨_,e2,e3,e4,e5,e6⟩:=pl_eq (pl hi)
  obtain ⟨_,f2,f3,f4,f5,f6⟩:=pl_eq (pl hj)
  unfold antiN antiI antiP nacc
  rw [anti_nat (nn _ (mem hi)) (nn _ (mem hj)),e2,e3,e5,f3,f4,f6]
  have:decide ((L.getD i default).p≠(L.getD j default).p)=decide (i≠j):=by rw [decide_eq_decide];exact not_congr (ne hi hj)
  rw [this];rfl
 obtain ⟨_,a2,_,a4,_,_⟩:=pl_eq (pl ha)
 obtain ⟨_,_,_,b4,_,_⟩:=pl_eq (pl hb)
 obtain ⟨_,_,_,c4,_,_⟩:=pl_eq (pl hc)
 have na:=nn _ (mem ha)
 have nb:=nn _ (mem hb)
 have nc:=nn _ (mem hc)
 unfold NnT at na nb nc
 unfold dangN dangI
 rw [an ha hb,an hb hc,pl_wr (pl ha),a2,a4,b4,c4]
 unfold nacc
 simp only
 rw [wr_nat]
 have e1:decide ((L.getD a default).p=(L.getD c default).p)=decide (a=c):=by rw [decide_eq_decide];exact ne ha hc
 have e2:decide ((accP (L.getD c default).pl).stamp<(accP (L.getD b default).pl).stamp)=decide ((L.getD c default).stamp<(L.getD b default).stamp):=by
  unfold accP TnP.pl;simp only;rw [decide_eq_decide];omega
 have e3:decide ((accP (L.getD c default).pl).stamp<(accP (L.getD a default).pl).stamp)=decide ((L.getD c default).stamp<(L.getD a default).stamp):=by
  unfold accP TnP.pl;simp only;rw [decide_eq_decide];omega
 have e4:decide ((accP (L.getD c default).pl).stamp≤(accP (L.getD a default).pl).snap)=decide ((L.getD c default).stamp≤(L.getD a default).snap):=by
  unfold accP TnP.pl;simp only;rw [decide_eq_decide];omega
 rw [e1,e2,e3,e4]
theorem XI.kok {X:TxP} (x:XI true X) {hs:List AccP} (h:hs.map AccP.pl=X.all.map TnP.pl):KOk hs hs.length:=by
 have hlen:=pl_len h
 obtain ⟨H,hH⟩:∃H,X.all.map (fun t=>accP t.pl)=H:=⟨_,rfl⟩
 have hHl:H.length=X.all.length:=by rw [← hH,List.length_map]
 have hat:∀ {i},i<X.all.length→H.getD i default=accP (X.all.getD i default).pl:=fun {i} hi=>by
  rw [← hH,List.getD_eq_getElem?_getD,List.getElem?_map,List.getElem?_eq_getElem hi,List.getD_eq_getElem?_getD,List.getElem?_eq_getElem hi];rfl
 have mem:∀ {i},i<X.all.length→X.all.getD i default∈X.all:=fun hi=>getD_mem hi
 have nn:∀t∈X.all,NnT t:=fun t ht=>⟨(x.tn t ht).snap.1,(x.tn t ht).stamp.1⟩
 have wrw:∀ {t:TnP},t.done=true→(accP t.pl).writes≠[]→t.wr=true:=fun {t} hd hw=>by
  rw [← wr_nat]
  exact (writer_iff (show (accP t.pl).done=true from hd)).2 hw
 have ok:AccOk H:=by
  refine ⟨fun y hy hd hw=>?_,fun y hy hd hw=>?_,fun i j hi hj hij di dj wi wj=>?_,fun i j hi hj hij di dj hm h1 h2=>?_⟩
  ·rw [← hH] at hy
   obtain ⟨t,ht,rfl⟩:=List.mem_map.1 hy
   have h1:=(x.tn t ht).wr (wrw hd hw)
   have h2:=nn t ht
   unfold NnT at h2
   show t.snap.toNat<t.stamp.toNat
   omega
  ·rw [← hH] at hy
   obtain ⟨t,ht,rfl⟩:=List.mem_map.1 hy
   have:t.wr=false:=by
    rw [← wr_nat]
    cases hx:(accP t.pl).writer with
    | false=>rfl
    | true=>exact absurd hw ((writer_iff (show (accP t.pl).done=true from hd)).1 hx)
   show t.stamp.toNat=0
   rw [(x.tn t ht).nw this];rfl
  ·rw [hHl] at hi hj
   rw [hat hi] at di wi ⊢
   rw [hat hj] at dj wj ⊢
   have h1:=(x.tn _ (mem hi)).wr (wrw di wi)
   have h2:=nn _ (mem hi)
   have h3:=nn _ (mem hj)
   have h4:=(pw_at x.pw hi hj hij).1
   unfold NnT at h2 h3
   show (X.all.getD i default).stamp.toNat≠(X.all.getD j default).stamp.toNat
   have h5:=h4 (by omega)
   omega
  ·rw [hHl] at hi hj
   rw [hat hi] at di hm h1 h2
   rw [hat hj] at dj hm h1 h2
   have h6:=nn _ (mem hi)
   have h7:=nn _ (mem hj)
   unfold NnT at h6 h7
   have hw:=meetsL_ne hm
   have h3:=(pw_at x.pw hi hj hij).2 (wrw di hw.1) (wrw dj hw.2) (by
    have:(X.all.getD i default).snap.toNat<(X.all.getD j default).stamp.toNat:=h1
    omega) (by
    have:(X.all.getD j default).snap.toNat<(X.all.getD i default).stamp.toNat:=h2
    omega)
   have h4:meetsL (accP (X.all.getD i default).pl).writes (accP (X.all.getD j default).pl).writes=meetI (X.all.getD i default).writes (X.all.getD j default).writes:=meets_nat (writes_pos _) (writes_pos _)
   rw [h4,h3] at hm;cases hm
 have nd:∀a b c,a<H.length→b<H.length→c<H.length→dangB H a b c=false:=by
  have h1:=(x.nd rfl).idx (by rw [List.map_map];exact x.ok.nd)
  have h2:(X.all.map nacc).map (·.2)=H:=by rw [← hH,List.map_map];rfl
  rw [h2] at h1;exact h1
 intro L hL hj
 have pl:∀ {i},i<X.all.length→(hs.getD i default).pl=(X.all.getD i default).pl:=fun hi=>pl_done h hi rfl
 have hLj:∀j∈L,j<X.all.length∧(X.all.getD j default).done=true:=fun j hj2=>by
  have h1:=hj j hj2
  rw [hlen] at h1
  exact ⟨h1.1,by rw [← (pl_eq (pl h1.1)).2.2.1];exact h1.2⟩
 obtain ⟨j,hjL,hed⟩:=kahn_step ok nd (L:=L) (fun j hj2=>⟨by rw [hHl];exact (hLj j hj2).1,by rw [hat (hLj j hj2).1];exact (hLj j hj2).2⟩) hL
 refine ⟨j,hjL,fun i hi=>?_⟩
 by_cases hij:i=j
 ·exact edgeI_no (.inl hij)
 ·have h1:=hed i hi
  obtain ⟨hi1,hi2⟩:=hLj i hi
  obtain ⟨hj1,hj2⟩:=hLj j hjL
  unfold edgeB at h1
  rw [hat hi1,hat hj1,decide_eq_true hij,plain_nat (nn _ (mem hi1)) (nn _ (mem hj1)),anti_nat (nn _ (mem hi1)) (nn _ (mem hj1))] at h1
  have d1:(accP (X.all.getD i default).pl).done=true:=hi2
  have d2:(accP (X.all.getD j default).pl).done=true:=hj2
  rw [d1,d2] at h1
  simp only [Bool.true_and,Bool.or_eq_false_iff] at h1
  obtain ⟨_,e2,e3,e4,e5,e6⟩:=pl_eq (pl hi1)
  obtain ⟨_,f2,f3,f4,f5,f6⟩:=pl_eq (pl hj1)
  rw [edgeI_is (hs:=hs) (i:=i) (j:=j) rfl rfl hij (by rw [e3];exact hi2) (by rw [f3];exact hj2) (p:=false) (q:=false) (by unfold plainP;rw [e4,e6,f2,f4,f5,f6,h1.1.1,h1.1.2];rfl) (by unfold antiP;rw [e2,e5,f4,f6,h1.2])]
  rfl
theorem XI.fin {ser:Bool} {X:TxP} (x:XI ser X) {n:Int} {t:TnP} (h:X.find n=some t) {hs:List AccP} (hh:hs.map AccP.pl=X.all.map TnP.pl) {i:Nat} (hi:i<X.all.length) (hit:X.all.getD i default=t) {s:Int} (had:Admits hs i s) (a:Option Addr) (c:Nat) :
  XI ser (X.fin n t s a c)∧(t.writes=[]→s=0)∧(t.writes≠[]→s=X.last+1):=by
 obtain ⟨hma,hml⟩:=TxP.find_mem h
 have hdf:t.done=false:=x.act _ hma
 have e:=pl_done hh hi hit
 obtain ⟨e1,e2,e3,e4,e5,e6⟩:=pl_eq e
 have hne:X.act≠[]:=List.ne_nil_of_mem hma
 have s0:t.writes=[]→s=0:=fun hw=>had.ro (by rw [e6];exact hw)
 have s1:t.writes≠[]→s=X.last+1:=fun hw=>by rw [← x.top_is hh hne];exact (had.rw_ (by rw [e6];exact hw)).1
 refine ⟨?_,s0,s1⟩
 have kt:=x.tn t hml
 have hp:=x.pos
 have hall:(X.fin n t s a c).all.Perm (t.fin s::(X.drop n).all):=fin_all
 have hdr:=X.drop_all n
 have ok:=x.ok.fin h s a c
 have ha:List.Sublist (X.fin n t s a c).act X.act:=List.filter_sublist
 have hlast:X.last≤(X.fin n t s a c).last∧(0<s→s=(X.fin n t s a c).last)∧(¬ 0<s→(X.fin n t s a c).last=X.last):=by
  show X.last≤(if 0<s then s else X.last)∧(0<s→s=(if 0<s then s else X.last))∧(¬ 0<s→(if 0<s then s else X.last)=X.last)
  by_cases hs0:0<s
  ·rw [if_pos hs0]
   refine ⟨?_,fun _=>rfl,fun h=>absurd hs0 h⟩
   by_cases hw:t.writes=[]
   ·have:=s0 hw;omega
   ·have:=s1 hw;omega
  ·rw [if_neg hs0];exact ⟨Int.le_refl _,fun h=>absurd h hs0,fun _=>rfl⟩
 have hmem:∀u∈(X.fin n t s a c).all,u=t.fin s∨u∈(X.drop n).all:=fun u hu=>List.mem_cons.1 (hall.mem_iff.1 hu)
 have hwf:(t.fin s).wr=true↔t.writes≠[]:=by
  show (true&&decide (0<t.writes.length))=true↔_
  rw [Bool.true_and,decide_eq_true_eq]
  exact List.length_pos_iff
 have hss:0≤s:=by
  by_cases hw:t.writes=[]
  ·rw [s0 hw];exact Int.le_refl _
  ·rw [s1 hw];omega
 refine ⟨ok,⟨hp.1,Int.le_trans hp.2 hlast.1⟩,⟨x.begun.1,fun q hq=>x.begun.2 q (ha.subset hq)⟩,fun u hu=>?_,fun q hq=>x.act q (ha.subset hq),?_,?_,fun e u hu=>?_,fun e=>?_⟩
 ·rcases hmem u hu with rfl | hu
  ·refine ⟨kt.mode,kt.snap,⟨hss,?_⟩,fun hw=>?_,fun hw=>?_⟩
   ·show s≤_
    by_cases h0:0<s
    ·rw [← hlast.2.1 h0];exact Int.le_refl _
    ·have:=hlast.1;omega
   ·show t.snap<s
    have:=s1 (hwf.1 hw)
    have:=kt.snap
    omega
   ·show s=0
    refine s0 (Classical.byContradiction fun hn=>?_)
    rw [hwf.2 hn] at hw;cases hw
  ·have k:=x.tn u (hdr.subset hu)
   exact ⟨k.mode,k.snap,⟨k.stamp.1,Int.le_trans k.stamp.2 hlast.1⟩,k.wr,k.nw⟩
 ·by_cases h0:0<s
  ·exact .inl ⟨t.fin s,List.mem_append.2 (.inr (by simp)),hlast.2.1 h0⟩
  ·rw [hlast.2.2 h0]
   rcases x.top with ⟨u,hu,e⟩ | ⟨h1,h2⟩
   ·exact .inl ⟨u,List.mem_append.2 (.inl hu),e⟩
   ·exact .inr ⟨h1,fun q hq=>h2 q (ha.subset hq)⟩
 ·refine List.Pairwise.perm (List.pairwise_cons.2 ⟨fun u hu=>?_,x.pw.sublist hdr⟩) hall.symm fun h=>h.symm
  have hu2:=hdr.subset hu
  refine ⟨fun h0=>?_,fun w1 w2 h1 h2=>?_⟩
  ·show s≠u.stamp
   have h3:0<s:=h0
   have h4:s=X.last+1:=s1 fun hw=>by rw [s0 hw] at h3;omega
   have:=(x.tn u hu2).stamp.2
   omega
  ·have hw:=had.rw_ (by rw [e6];exact hwf.1 w1)
   have hwin:=hw.2.2
   unfold winB at hwin
   rw [List.all_eq_true] at hwin
   obtain ⟨y,hy,ey⟩:=pl_mem2 hh hu2
   obtain ⟨_,_,_,f4,_,f6⟩:=pl_eq ey
   have h3:=hwin y hy
   have h1':t.snap<u.stamp:=h1
   rw [pl_wr ey,w2,e2,f4,e6,f6,decide_eq_true h1'] at h3
   show meetI t.writes u.writes=false
   simpa using h3
 ·rcases hmem u hu with rfl | hu
  ·exact x.mode e t hml
  ·exact x.mode e u (hdr.subset hu)
 ·have hmode:=x.mode e t hml
  have hser:=had.ser (by rw [e1];exact hmode)
  have hlen:=pl_len hh
  have hpn:((t.fin s::(X.drop n).all).map TnP.p).Nodup:=(hall.map TnP.p).nodup_iff.1 ok.nd
  have hpn2:=(List.nodup_cons.1 hpn).1
  obtain ⟨L,hL⟩:∃L,X.all.set i (t.fin s)=L:=⟨_,rfl⟩
  have hLl:L.length=X.all.length:=by rw [← hL,List.length_set]
  have hpl:(hs.set i ((hs.getD i default).fin s)).map AccP.pl=L.map TnP.pl:=by
   rw [← hL,List.map_set,List.map_set,hh]
   congr 1
   unfold AccP.fin AccP.pl TnP.fin TnP.pl
   simp only
   rw [e1,e2,e5,e6]
   rfl
  have hLi:L.getD i default=t.fin s:=by rw [← hL,List.getD_eq_getElem?_getD,List.getElem?_set_self hi];rfl
  have hLo:∀j,j≠i→L.getD j default=X.all.getD j default:=fun j hj=>by rw [← hL,List.getD_eq_getElem?_getD,List.getElem?_set_ne (Ne.symm hj),← List.getD_eq_getElem?_getD]
  have hLp:(L.map TnP.p).Nodup:=by
   have:L.map TnP.p=X.all.map TnP.p:=by
    rw [← hL,List.map_set]
    show (X.all.map TnP.p).set i t.p=_
    rw [← hit,List.getD_eq_getElem?_getD,List.getElem?_eq_getElem hi]
    simp only [Option.getD_some]
    rw [← List.getElem_map (f:=TnP.p) (h:=by simpa using hi)]
    exact List.set_getElem_self _
   rw [this];exact x.ok.nd
  have hnn:∀u∈L,NnT u:=fun u hu=>by
   rw [← hL] at hu
   rcases List.mem_or_eq_of_mem_set hu with h | rfl
   ·exact ⟨(x.tn u h).snap.1,(x.tn u h).stamp.1⟩
   ·exact ⟨kt.snap.1,hss⟩
  have hidx:∀u∈(X.fin n t s a c).all,∃j,j<L.length∧L.getD j default=u∧(u.p=t.p→j=i):=fun u hu=>by
   rcases hmem u hu with rfl | hu
   ·exact ⟨i,by omega,hLi,fun _=>rfl⟩
   ·have hup:u.p≠t.p:=fun e=>hpn2 (List.mem_map.2 ⟨u,hu,e⟩)
    obtain ⟨j,hj,rfl⟩:=List.mem_iff_getElem.1 (hdr.subset hu)
    have g:X.all.getD j default=X.all[j]:=by rw [List.getD_eq_getElem?_getD,List.getElem?_eq_getElem hj];rfl
    have hji:j≠i:=fun e=>hup (by subst e;rw [← g,hit])
    exact ⟨j,by omega,by rw [hLo j hji,g],fun e=>absurd e hup⟩
  refine (x.nd e).commit (x:=nacc (t.fin s)) (fun y hy=>?_) fun ya ha yb hb yc hc e=>?_
  ·obtain ⟨u,hu,rfl⟩:=List.mem_map.1 hy
   exact (hmem u hu).imp (fun e=>by rw [e]) fun h=>List.mem_map.2 ⟨u,hdr.subset h,rfl⟩
  ·obtain ⟨ua,hua,rfl⟩:=List.mem_map.1 ha
   obtain ⟨ub,hub,rfl⟩:=List.mem_map.1 hb
   obtain ⟨uc,huc,rfl⟩:=List.mem_map.1 hc
   obtain ⟨ja,h1,rfl,k1⟩:=hidx ua hua
   obtain ⟨jb,h2,rfl,k2⟩:=hidx ub hub
   obtain ⟨jc,h3,rfl,k3⟩:=hidx uc huc
   rw [dangI_N hpl hLp hnn h1 h2 h3]
   cases hd:dangI (hs.set i ((hs.getD i default).fin s)) ja jb jc with
   | false=>rfl
   | true =>
    have hacc:(decide (ja=i)||decide (jb=i)||decide (jc=i))=true:=by
     rcases e with e | e | e
     ·rw [decide_eq_true (k1 e)];rfl
     ·rw [decide_eq_true (k2 e)];simp
     ·rw [decide_eq_true (k3 e)];simp
    have:=anyD_yes (acc:=fun a b c=>decide (a=i)||decide (b=i)||decide (c=i)) (n:=hs.length) (by omega) (by omega) (by omega) hd hacc
    rw [hser] at this;cases this
end
end Go.Proofs.YtlfghapllmaigaaGreatDoor
