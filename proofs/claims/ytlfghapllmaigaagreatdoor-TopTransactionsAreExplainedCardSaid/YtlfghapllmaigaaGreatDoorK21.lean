/-
  The walk of Write where there is no such transaction; The walk of snapshot's Last; Plain: the versions of a table, what a snapshot sees of them, the rows of both tables; Plain: the histories that the desk writes, as an automaton's traces; A range over a function, in words of objects that lie apart: an iterator may hand out slices of memory of its own; A region within a round, by the laws that serve outside of one; The iterator of slices.Values at versions; the walk of snapshot's ordered. Conditions: each theorem's own hypotheses.
-/
import Derived.Test.YtlfghapllmaigaaGreatDoorK20
import Derived.Test.YtlfghapllmaigaaGreatDoorK13
set_option linter.unusedVariables false
set_option linter.unusedSimpArgs false
namespace Go.Proofs.YtlfghapllmaigaaGreatDoor
section
open Go.RowKit Go.Maps
set_option maxRecDepth 20000 in
set_option maxHeartbeats 1000000 in
theorem write_no {B g:Nat} {X:TxP} {w:World} {l:List HP} (O:Own B w (TxsO g X::l)) {n:Int} (hn:In64 n) (hf:X.find n=none) (x:WrP) :
  Calls Tryz.prog 36 #[.pointer (some ⟨g,0,none⟩),.int .i64 n,x.v] w (RetW (.int .i64 273) B (TxsO g X::l) w):=by
 obtain ⟨xt,xr,xd,xa,xc,xl⟩:=x
 have O1:=Box.mk (O.alloc (.cells #[.int .i64 xt,.int .i64 xr,.bool xd,.slice xa xl.length xc] 90))
 have B1:=Box.mk ((Below.refl B w).alloc O.1 (.cells #[.int .i64 xt,.int .i64 xr,.bool xd,.slice xa xl.length xc] 90))
 have HG:=Box.mk (get_any O1.out.txs hn)
 rw [hf] at HG
 simp only [optV,errE,pV] at HG
 unfold WrP.v
 simp only
 clear hf O
 go_enter Tryz.func36,Tryz.ntmps36
 go_wp2_with fail
 refine HG.out.mono ?_
 rintro e w1 ⟨rfl,hb⟩
 go_wp2_with fail
 go_ret
 exact ⟨rfl,O1.out.below hb,B1.out.trans (hb.mono O1.out.1)⟩
end
section
open Go.RowKit Go.Maps
def lastV (l:List VerP):Int:=l.foldl (fun m v=>max m v.stamp) 0
theorem lastV_snoc (l:List VerP) (v:VerP):lastV (l++[v])=max (lastV l) v.stamp:=by unfold lastV;rw [List.foldl_append];rfl
set_option maxRecDepth 20000 in
set_option maxHeartbeats 1000000 in
theorem last_any {vs:List VerP} {a:Option Addr} {n c:Nat} {w:World} (hr:Rd w a n c 4 (recC VerP.enc vs)):Calls Tryz.prog 117 #[.slice a n c] w (RetV (.int .i64 (lastV vs)) w):=by
 have hln:=hr.rlen VerP.enc_len (by omega)
 have hmx:=hr.lenMax
 have R:=Box.mk hr
 have HL:=Box.mk hln
 clear hr hln
 go_enter Tryz.func117,Tryz.ntmps117
 go_wp2_with fail
 go_loopg [3,5,8] n (fun gg s3 _ s8 wr=>∃k:Nat,k≤n∧n - k≤gg∧s8=.int .i64 k∧s3=.int .i64 (lastV (vs.take k))∧Box (Below w.heap.size w wr))
 case atStart=>exact ⟨0,Nat.zero_le _,by omega,rfl,rfl,⟨Below.refl _ _⟩⟩
 case round =>
  obtain ⟨k,hk,hg,rfl,rfl,B⟩:=hrel
  by_cases hlt:k<n
  ·obtain ⟨b,off,rfl,hb,hc⟩:=(R.out.below B.out (Nat.le_refl _)).recAt VerP.enc_len (by omega) k hlt
   obtain ⟨x,hx⟩:∃x,vs.getD k default=x:=⟨_,rfl⟩
   have HS:=Box.mk (show lastV (vs.take (k+1))=max (lastV (vs.take k)) x.stamp from by rw [take_snoc (by rw [HL.out];exact hlt),lastV_snoc,hx])
   rw [hx] at hc
   obtain ⟨xa,xb,xd,va,vc,xl⟩:=x
   have c0:=hc 0 _ rfl
   have c1:=hc 1 _ rfl
   have c2:=hc 2 _ rfl
   have c3:=hc 3 _ rfl
   simp only [Nat.add_zero] at c0 c1 c2 c3
   have B2:=Box.mk (B.out.new (Nat.le_refl _) (.cells #[.int .i64 xa,.int .i64 xb,.bool xd,.slice va xl.length vc] 93))
   have K1:=Blk.new (w:=wr) (k:=wr.heap.size) (ty:=93) (arr:=#[.int .i64 xa,.int .i64 xb,.bool xd,.slice va xl.length vc]) (cs:=[.int .i64 xa,.int .i64 xb,.bool xd,.slice va xl.length vc]) rfl rfl
   clear hc hx B
   go_upto_region 5 with fail
   clear c0 c1 c2 c3
   have y1:=K1.cellOf (i:=1) rfl
   generalize (wr.alloc (.cells #[.int .i64 xa,.int .i64 xb,.bool xd,.slice va xl.length vc] 93))=w2 at *
   go_wp2_with fail
   go_roundg (n - (k+1))
   case measure=>omega
   case rel=>exact ⟨k+1,by omega,by omega,by go_num,by rw [HS.out],B2⟩
  ·have hkn:k=n:=by omega
   have HS:=Box.mk (show vs.take k=vs from List.take_of_length_le (by rw [HL.out];omega))
   go_wp2_with fail
   go_ret
   exact ⟨by rw [HS.out];rfl,B.out⟩
end
section
def WrP.ver (x:WrP) (s:Int):VerP:=⟨x.row,s,x.dead,x.va,x.vc,x.vals⟩
def WrP.held (x:WrP) (s:Int):HdP:=⟨x.table,x.row,s,x.va,x.vc,x.vals⟩
def wAt (ws:List WrP) (q:Int×Int):Option WrP:=ws.find? fun w=>decide (w.key=q)
theorem wAt_key {ws:List WrP} {q:Int×Int} {w:WrP} (h:wAt ws q=some w):w.key=q∧w∈ws:=by
 unfold wAt at h
 exact ⟨by simpa using List.find?_some h,List.mem_of_find?_eq_some h⟩
structure WsOk (ws:List WrP):Prop where
 spot:∀x∈ws,x.key∈spots
 lt:ws.Pairwise (fun a b=>a.key.1<b.key.1∨a.key.1=b.key.1∧a.key.2<b.key.2)
 dead:∀x∈ws,x.dead=true→x.vals=[]
 len:∀x∈ws,x.vals.length≤1
theorem WsOk.uniq {ws:List WrP} (h:WsOk ws) {x y:WrP} (hx:x∈ws) (hy:y∈ws) (e:x.key=y.key):x=y:=by
 have h1:=h.lt
 clear h
 induction ws with
 | nil=>cases hx
 | cons a l ih =>
  obtain ⟨h2,h3⟩:=List.pairwise_cons.1 h1
  rcases List.mem_cons.1 hx with ex | hx'
  ·rcases List.mem_cons.1 hy with ey | hy'
   ·rw [ex,ey]
   ·have:=h2 y hy';rw [← ex,e] at this;omega
  ·rcases List.mem_cons.1 hy with ey | hy'
   ·have:=h2 x hx';rw [← ey,e] at this;omega
   ·exact ih hx' hy' h3
theorem WsOk.at_ {ws:List WrP} (h:WsOk ws) {x:WrP} (hx:x∈ws):wAt ws x.key=some x:=by
 cases hw:wAt ws x.key with
 | none =>
  unfold wAt at hw
  have:=List.find?_eq_none.1 hw x hx
  simp at this
 | some y =>
  obtain ⟨h1,h2⟩:=wAt_key hw
  rw [h.uniq h2 hx h1]
def colW (com:List (List WrP)) (q:Int×Int):List (WrP×Int):=com.zipIdx.filterMap fun p=>(wAt p.1 q).map fun w=>(w,(p.2:Int)+1)
theorem colW_snoc (com:List (List WrP)) (ws:List WrP) (q:Int×Int):colW (com++[ws]) q=colW com q++((wAt ws q).map fun w=>(w,(com.length:Int)+1)).toList:=by
 unfold colW
 rw [List.zipIdx_append,List.filterMap_append]
 congr 1
 simp only [List.zipIdx_cons,List.zipIdx_nil,List.filterMap_cons,List.filterMap_nil,Nat.zero_add]
 cases wAt ws q<;>rfl
theorem colW_nil (q:Int×Int):colW [] q=[]:=rfl
theorem colW_stamp:∀ {com:List (List WrP)} {q:Int×Int} {p:WrP×Int},p∈colW com q→1≤p.2∧p.2≤com.length∧p.1.key=q:=by
 intro com q p h
 unfold colW at h
 obtain ⟨y,hy,h⟩:=List.mem_filterMap.1 h
 obtain ⟨w,hw,rfl⟩:=Option.map_eq_some_iff.1 h
 have h1:=List.mem_zipIdx hy
 exact ⟨by omega,by simp only;omega,(wAt_key hw).1⟩
theorem snoc_ind {α:Type} {P:List α→Prop} (h0:P []) (h1:∀l x,P l→P (l++[x])) (l:List α):P l:=by
 rw [← List.reverse_reverse l]
 induction l.reverse with
 | nil=>exact h0
 | cons x r ih=>rw [List.reverse_cons];exact h1 _ _ ih
theorem colW_lt (com:List (List WrP)) (q:Int×Int):(colW com q).Pairwise (fun a b=>a.2<b.2):=by
 induction com using snoc_ind with
 | h0=>exact List.Pairwise.nil
 | h1 com ws ih =>
  rw [colW_snoc,List.pairwise_append]
  refine ⟨ih,?_,fun a ha b hb=>?_⟩
  ·cases wAt ws q with
   | none=>exact List.Pairwise.nil
   | some w=>exact List.pairwise_singleton _ _
  ·have h1:=colW_stamp ha
   obtain ⟨w,_,rfl⟩:=Option.map_eq_some_iff.1 (Option.mem_toList.1 hb)
   simp only;omega
theorem colW_take (com:List (List WrP)) (q:Int×Int) (k:Nat):colW (com.take k) q=(colW com q).filter fun p=>decide (p.2≤(k:Int)):=by
 induction com using snoc_ind with
 | h0=>simp [colW_nil]
 | h1 com ws ih =>
  rw [colW_snoc,List.filter_append,← ih]
  by_cases h:k≤com.length
  ·rw [List.take_append_of_le_length h]
   cases wAt ws q with
   | none=>simp
   | some w =>
    simp only [Option.map_some,Option.toList_some]
    rw [List.filter_cons_of_neg (by simp;omega)];simp
  ·rw [List.take_of_length_le (l:=com++[ws]) (by simp;omega),List.take_of_length_le (l:=com) (by omega),colW_snoc]
   cases wAt ws q with
   | none=>simp
   | some w =>
    simp only [Option.map_some,Option.toList_some]
    rw [List.filter_cons_of_pos (by simp;omega)];simp
def colV (com:List (List WrP)) (q:Int×Int):List VerP:=(colW com q).map fun p=>p.1.ver p.2
def rows4:List Int:=[1,2,3,4]
def verT (com:List (List WrP)) (t:Int):List VerP:=rows4.flatMap fun r=>colV com (t,r)
theorem colV_row {com:List (List WrP)} {t r:Int} {v:VerP} (h:v∈colV com (t,r)):v.row=r∧1≤v.stamp∧v.stamp≤com.length:=by
 unfold colV at h
 obtain ⟨p,hp,rfl⟩:=List.mem_map.1 h
 obtain ⟨h1,h2,h3⟩:=colW_stamp hp
 exact ⟨(congrArg Prod.snd h3:p.1.row=r),h1,h2⟩
theorem colV_lt (com:List (List WrP)) (q:Int×Int):(colV com q).Pairwise (fun a b=>a.stamp<b.stamp):=by
 unfold colV
 rw [List.pairwise_map]
 exact (colW_lt com q).imp fun h=>h
theorem flat_lt {com:List (List WrP)} {t:Int}:∀ {R:List Int},R.Pairwise (·<·)→(R.flatMap fun r=>colV com (t,r)).Pairwise (fun a b=>a.row<b.row∨a.row=b.row∧a.stamp<b.stamp)
 | [],_=>List.Pairwise.nil
 | r::R,h=>by
  obtain ⟨h1,h2⟩:=List.pairwise_cons.1 h
  rw [List.flatMap_cons,List.pairwise_append]
  refine ⟨?_,flat_lt h2,fun a ha b hb=>?_⟩
  ·exact (colV_lt com (t,r)).imp_of_mem fun {a b} ha hb h=>.inr ⟨by rw [(colV_row ha).1,(colV_row hb).1],h⟩
  ·obtain ⟨r',hr',hb⟩:=List.mem_flatMap.1 hb
   have:=h1 r' hr'
   rw [(colV_row ha).1,(colV_row hb).1]
   exact .inl this
theorem verT_lt (com:List (List WrP)) (t:Int):(verT com t).Pairwise (fun a b=>a.row<b.row∨a.row=b.row∧a.stamp<b.stamp):=flat_lt (by decide)
theorem verT_mem {com:List (List WrP)} {t:Int} {v:VerP}:v∈verT com t↔∃r∈rows4,v∈colV com (t,r):=List.mem_flatMap
theorem verT_stamp {com:List (List WrP)} {t:Int} {v:VerP} (h:v∈verT com t):1≤v.stamp∧v.stamp≤com.length∧v.row∈rows4:=by
 obtain ⟨r,hr,h⟩:=verT_mem.1 h
 obtain ⟨h1,h2,h3⟩:=colV_row h
 exact ⟨h2,h3,by rw [h1];exact hr⟩
def addV (ws:List WrP) (t s:Int):List VerP:=(ws.filter fun w=>decide (w.table=t)).map fun w=>w.ver s
theorem mem_addV {ws:List WrP} {t s:Int} {v:VerP}:v∈addV ws t s↔∃w∈ws,w.table=t∧v=w.ver s:=by
 unfold addV
 rw [List.mem_map]
 constructor
 ·rintro ⟨w,hw,rfl⟩
  obtain ⟨h1,h2⟩:=List.mem_filter.1 hw
  exact ⟨w,h1,of_decide_eq_true h2,rfl⟩
 ·rintro ⟨w,hw,ht,rfl⟩
  exact ⟨w,List.mem_filter.2 ⟨hw,decide_eq_true ht⟩,rfl⟩
theorem verLt_nodup {l:List VerP} (h:l.Pairwise (fun a b=>a.row<b.row∨a.row=b.row∧a.stamp<b.stamp)):l.Nodup:=h.imp fun {a b} h e=>by subst e;omega
theorem verLt_le2 {l:List VerP} (h:l.Pairwise (fun a b=>a.row<b.row∨a.row=b.row∧a.stamp<b.stamp)):l.Pairwise (Le2 VerP.row VerP.stamp):=h.imp fun {a b} h=>by unfold Le2;omega
theorem addV_lt {ws:List WrP} (ok:WsOk ws) (t s:Int):(addV ws t s).Pairwise (fun a b=>a.row<b.row):=by
 unfold addV
 rw [List.pairwise_map]
 refine (ok.lt.sublist List.filter_sublist).imp_of_mem fun {a b} ha hb h=>?_
 have h1:=of_decide_eq_true (List.mem_filter.1 ha).2
 have h2:=of_decide_eq_true (List.mem_filter.1 hb).2
 show a.row<b.row
 have h3:a.table<b.table∨a.table=b.table∧a.row<b.row:=h
 omega
theorem verT_add {com:List (List WrP)} {ws:List WrP} (ok:WsOk ws) {t:Int} {ys:List VerP} (hp:ys.Perm (verT com t++addV ws t (com.length+1))) (ho:ys.Pairwise (Le2 VerP.row VerP.stamp)):ys=verT (com++[ws]) t:=by
 classical
 have hl:=verT_lt (com++[ws]) t
 have hnd:(verT com t++addV ws t (com.length+1)).Nodup:=by
  rw [List.nodup_append]
  refine ⟨verLt_nodup (verT_lt com t),(addV_lt ok t _).imp fun {a b} h e=>by subst e;omega,fun a ha b hb e=>?_⟩
  subst e
  have h1:=verT_stamp ha
  obtain ⟨w,_,_,rfl⟩:=mem_addV.1 hb
  have h2:=h1.2.1
  simp only [WrP.ver] at h2;omega
 have hm:∀v,v∈verT com t++addV ws t (com.length+1)↔v∈verT (com++[ws]) t:=by
  intro v
  rw [List.mem_append]
  constructor
  ·rintro (h | h)
   ·obtain ⟨r,hr,h⟩:=verT_mem.1 h
    refine verT_mem.2 ⟨r,hr,?_⟩
    unfold colV at h ⊢
    rw [colW_snoc,List.map_append]
    exact List.mem_append.2 (.inl h)
   ·obtain ⟨w,hw,hwt,rfl⟩:=mem_addV.1 h
    have hs:=spots_iff.1 (ok.spot w hw)
    refine verT_mem.2 ⟨w.row,?_,?_⟩
    ·have:1≤w.row∧w.row≤4:=⟨hs.2.2.1,hs.2.2.2⟩
     unfold rows4
     simp only [List.mem_cons,List.not_mem_nil,or_false];omega
    ·unfold colV
     rw [colW_snoc,List.map_append,show ((t,w.row):Int×Int)=w.key from by unfold WrP.key;rw [hwt],ok.at_ hw]
     exact List.mem_append.2 (.inr (by simp))
  ·intro h
   obtain ⟨r,hr,h⟩:=verT_mem.1 h
   unfold colV at h
   rw [colW_snoc,List.map_append] at h
   rcases List.mem_append.1 h with h | h
   ·exact .inl (verT_mem.2 ⟨r,hr,h⟩)
   ·obtain ⟨p,hp,rfl⟩:=List.mem_map.1 h
    obtain ⟨w,hw,rfl⟩:=Option.map_eq_some_iff.1 (Option.mem_toList.1 hp)
    obtain ⟨h1,h2⟩:=wAt_key hw
    exact .inr (mem_addV.2 ⟨w,h2,congrArg Prod.fst h1,rfl⟩)
 have hpm:ys.Perm (verT (com++[ws]) t):=hp.trans (perm_of_mem hnd (verLt_nodup hl) (fun v h=>(hm v).1 h) (fun v h=>(hm v).2 h))
 refine perm_sorted_eq hpm ho (verLt_le2 hl) (fun a ha b hb h1 h2=>?_)
 have ha':=hpm.mem_iff.1 ha
 have hb':=hpm.mem_iff.1 hb
 unfold Le2 at h1 h2
 have hl':=hl
 generalize verT (com++[ws]) t=L at ha' hb' hl'
 clear hpm hl hm hnd hp ho
 induction L with
 | nil=>cases ha'
 | cons c L ih =>
  obtain ⟨h3,h4⟩:=List.pairwise_cons.1 hl'
  rcases List.mem_cons.1 ha' with ea | ha2
  ·rcases List.mem_cons.1 hb' with eb | hb2
   ·rw [ea,eb]
   ·have:=h3 b hb2;rw [← ea] at this;omega
  ·rcases List.mem_cons.1 hb' with eb | hb2
   ·have:=h3 a ha2;rw [← eb] at this;omega
   ·exact ih ha2 hb2 h4
def lastC (com:List (List WrP)) (k:Nat) (q:Int×Int):Option (WrP×Int):=(colW (com.take k) q).getLast?
theorem lastC_succ {com:List (List WrP)} {k:Nat} (hk:k<com.length) (q:Int×Int):lastC com (k+1) q=((wAt (com.getD k []) q).map fun w=>(w,(k:Int)+1)).or (lastC com k q):=by
 unfold lastC
 rw [List.take_succ_eq_append_getElem hk,colW_snoc,List.length_take,Nat.min_eq_left (by omega),List.getD_eq_getElem?_getD,List.getElem?_eq_getElem hk,Option.getD_some]
 cases wAt com[k] q with
 | none=>simp
 | some w=>simp
theorem lastC_key {com:List (List WrP)} {k:Nat} {q:Int×Int} {p:WrP×Int} (h:lastC com k q=some p):p.1.key=q∧1≤p.2∧p.2≤k:=by
 have:=colW_stamp (List.mem_of_getLast? h)
 rw [List.length_take] at this
 exact ⟨this.2.2,this.1,by omega⟩
def seeV (com:List (List WrP)) (k:Nat) (q:Int×Int):Option VerP:=(lastC com k q).bind fun p=>if p.1.dead then none else some (p.1.ver p.2)
def seeH (com:List (List WrP)) (k:Nat) (q:Int×Int):Option HdP:=(lastC com k q).bind fun p=>if p.1.dead then none else some (p.1.held p.2)
def rowsT (com:List (List WrP)) (t:Int) (k:Nat):List VerP:=rows4.filterMap fun r=>seeV com k (t,r)
def rowsH (com:List (List WrP)) (k:Nat):List HdP:=spots.filterMap (seeH com k)
def VerP.held (x:VerP) (t:Int):HdP:=⟨t,x.row,x.stamp,x.va,x.vc,x.vals⟩
theorem seeH_is (com:List (List WrP)) (k:Nat) (t r:Int):seeH com k (t,r)=(seeV com k (t,r)).map fun v=>v.held t:=by
 unfold seeH seeV
 cases h:lastC com k (t,r) with
 | none=>rfl
 | some p =>
  obtain ⟨h1,_⟩:=lastC_key h
  simp only [Option.bind_some]
  cases p.1.dead with
  | true=>rfl
  | false =>
   have:p.1.table=t:=congrArg Prod.fst h1
   simp only [Bool.false_eq_true,if_false,Option.map_some,WrP.ver,WrP.held,VerP.held,this]
theorem rowsH_is (com:List (List WrP)) (k:Nat):rowsH com k=(rowsT com 0 k).map (fun v=>v.held 0)++(rowsT com 1 k).map (fun v=>v.held 1):=by
 unfold rowsH rowsT
 rw [show spots=rows4.map (fun r=>((0:Int),r))++rows4.map (fun r=>((1:Int),r)) from rfl,List.filterMap_append,List.filterMap_map,List.filterMap_map,List.map_filterMap,List.map_filterMap]
 congr 1
 ·exact congrArg (fun f=>List.filterMap f rows4) (funext fun r=>seeH_is com k 0 r)
 ·exact congrArg (fun f=>List.filterMap f rows4) (funext fun r=>seeH_is com k 1 r)
theorem rowsT_more {com:List (List WrP)} {k:Nat} (hk:k≤com.length) (m:List (List WrP)) (t:Int):rowsT (com++m) t k=rowsT com t k:=by
 unfold rowsT seeV lastC
 rw [List.take_append_of_le_length hk]
theorem rowsH_more {com:List (List WrP)} {k:Nat} (hk:k≤com.length) (m:List (List WrP)):rowsH (com++m) k=rowsH com k:=by
 rw [rowsH_is,rowsH_is,rowsT_more hk,rowsT_more hk]
theorem seeH_key {com:List (List WrP)} {k:Nat} {q:Int×Int} {x:HdP} (h:seeH com k q=some x):x.key=q∧1≤x.stamp∧x.stamp≤k:=by
 unfold seeH at h
 obtain ⟨p,hp,h⟩:=Option.bind_eq_some_iff.1 h
 have:=lastC_key hp
 split at h
 ·cases h
 ·cases h;exact this
theorem rowsH_lt (com:List (List WrP)) (k:Nat):(rowsH com k).Pairwise (fun a b=>a.key.1<b.key.1∨a.key.1=b.key.1∧a.key.2<b.key.2):=fm_lt HdP.key (fun _ _ h=>(seeH_key h).1) spots_lt
theorem rowsH_mem {com:List (List WrP)} {k:Nat} {x:HdP} (h:x∈rowsH com k):x.key∈spots∧1≤x.stamp∧x.stamp≤k:=by
 obtain ⟨q,hq,h⟩:=List.mem_filterMap.1 h
 have:=seeH_key h
 exact ⟨by rw [this.1];exact hq,this.2⟩
theorem rowsH_len (com:List (List WrP)) (k:Nat):(rowsH com k).length≤8:=List.length_filterMap_le _ _
end
section
structure Sg where
 com:List (Int×List WrP)
 opn:List (Int×List WrP)
 n:Int
def Sg.ids (σ:Sg):List Int:=σ.com.map (·.1)
def Sg.cw (σ:Sg):List (List WrP):=σ.com.map (·.2)
inductive Stp:Sg→HpP→Sg→Prop
 | ask (σ:Sg) (x:HpP) (h1:x.kind=1) (h2:x.tx=σ.n+1) (h3:x.stamp=0) (h4:x.rows=[]) (h5:WsOk x.writes) (h6:x.writes≠[]):Stp σ x ⟨σ.com,σ.opn++[(x.tx,x.writes)],x.tx⟩
 | report (σ:Sg) (x:HpP) (ws:List WrP) (o:List (Int×List WrP)) (h1:x.kind=2) (h2:σ.opn=(x.tx,ws)::o) (h3:x.stamp=σ.com.length+1) (h4:x.rows=[]) (h5:x.writes=[]):Stp σ x ⟨σ.com++[(x.tx,ws)],o,σ.n⟩
 | fail (σ:Sg) (x:HpP) (h1:x.kind=4) (h2:x.tx=0) (h3:x.stamp=0) (h4:x.rows=[]) (h5:x.writes=[]):Stp σ x ⟨σ.com,[],σ.n⟩
 | see (σ:Sg) (x:HpP) (h1:x.kind=5) (h2:x.tx=0) (h3:x.stamp=σ.com.length) (h4:x.rows=rowsH σ.cw σ.com.length) (h5:x.writes=[]):Stp σ x σ
inductive Trc:List HpP→Sg→Prop
 | nil:Trc [] ⟨[],[],0⟩
 | snoc {h:List HpP} {σ σ':Sg} {x:HpP}:Trc h σ→Stp σ x σ'→Trc (h++[x]) σ'
structure Ext (σ σ':Sg):Prop where
 com:∃m,σ'.com=σ.com++m∧∀p∈m++σ'.opn,p∈σ.opn∨σ.n<p.1
 n:σ.n≤σ'.n
theorem Ext.refl (σ:Sg):Ext σ σ:=⟨⟨[],by simp,fun p hp=>.inl (by simpa using hp)⟩,Int.le_refl _⟩
theorem Stp.ext {σ σ':Sg} {x:HpP} (h:Stp σ x σ'):Ext σ σ':=by
 cases h with
 | ask h1 h2=>exact ⟨⟨[],by simp,fun p hp=>by
   simp only [List.nil_append] at hp
   rcases List.mem_append.1 hp with h | h
   ·exact .inl h
   ·simp at h;subst h;exact .inr (by simp only;omega)⟩,by simp only;omega⟩
 | report ws o h1 h2=>exact ⟨⟨[(x.tx,ws)],rfl,fun p hp=>.inl (by rw [h2];simpa using hp)⟩,Int.le_refl _⟩
 | fail=>exact ⟨⟨[],by simp,fun p hp=>by simp at hp⟩,Int.le_refl _⟩
 | see=>exact Ext.refl _
theorem Ext.trans {a b c:Sg} (h:Ext a b) (k:Ext b c):Ext a c:=by
 obtain ⟨m,hm,hm2⟩:=h.com
 obtain ⟨l,hl,hl2⟩:=k.com
 refine ⟨⟨m++l,by rw [hl,hm,List.append_assoc],fun p hp=>?_⟩,Int.le_trans h.n k.n⟩
 have key:∀p,p∈b.opn∨b.n<p.1→p∈a.opn∨a.n<p.1:=fun p hp=>by
  rcases hp with hp | hp
  ·exact hm2 p (List.mem_append.2 (.inr hp))
  ·exact .inr (by have:=h.n;omega)
 rcases List.mem_append.1 hp with hp | hp
 ·rcases List.mem_append.1 hp with hp | hp
  ·exact hm2 p (List.mem_append.2 (.inl hp))
  ·exact key p (hl2 p (List.mem_append.2 (.inl hp)))
 ·exact key p (hl2 p (List.mem_append.2 (.inr hp)))
structure SgOk (σ:Sg):Prop where
 pos:0≤σ.n
 mem:∀p∈σ.com++σ.opn,1≤p.1∧p.1≤σ.n∧WsOk p.2
 nd:((σ.com++σ.opn).map (·.1)).Nodup
theorem Stp.ok {σ σ':Sg} {x:HpP} (h:Stp σ x σ') (ok:SgOk σ):SgOk σ':=by
 obtain ⟨h1,h2,h3⟩:=ok
 cases h with
 | ask k1 k2 k3 k4 k5 k6 =>
  refine ⟨by simp only;omega,fun p hp=>?_,?_⟩
  ·simp only at hp
   rw [← List.append_assoc] at hp
   rcases List.mem_append.1 hp with hp | hp
   ·have:=h2 p hp;exact ⟨this.1,by simp only;omega,this.2.2⟩
   ·simp at hp;subst hp;exact ⟨by simp only;omega,by simp only;omega,k5⟩
  ·simp only
   rw [← List.append_assoc,List.map_append,List.nodup_append]
   refine ⟨h3,by simp,fun a ha b hb e=>?_⟩
   obtain ⟨p,hp,rfl⟩:=List.mem_map.1 ha
   simp at hb
   have:=h2 p hp
   omega
 | report ws o k1 k2 =>
  rw [k2] at h2 h3
  have e:σ.com++[(x.tx,ws)]++o=σ.com++(x.tx,ws)::o:=by simp
  exact ⟨h1,fun p hp=>h2 p (by simp only at hp;rw [e] at hp;exact hp),by simp only;rw [e];exact h3⟩
 | fail=>exact ⟨h1,fun p hp=>h2 p (by simp at hp ⊢;exact .inl hp),by
   simp only [List.append_nil]
   rw [List.map_append,List.nodup_append] at h3;exact h3.1⟩
 | see=>exact ⟨h1,h2,h3⟩
theorem Trc.ok {h:List HpP} {σ:Sg} (t:Trc h σ):SgOk σ:=by
 induction t with
 | nil=>exact ⟨Int.le_refl _,by simp,by simp⟩
 | snoc _ s ih=>exact s.ok ih
theorem Trc.at_ {h:List HpP} {σ:Sg} (t:Trc h σ):∀k,k<h.length→∃a b,Trc (h.take k) a∧Stp a (h.getD k default) b∧Trc (h.take (k+1)) b∧Ext b σ:=by
 induction t with
 | nil=>intro k hk;simp at hk
 | @snoc h σ σ' x t s ih =>
  intro k hk
  simp only [List.length_append,List.length_singleton] at hk
  by_cases e:k<h.length
  ·obtain ⟨a,b,h1,h2,h3,h4⟩:=ih k e
   refine ⟨a,b,?_,?_,?_,h4.trans s.ext⟩
   ·rw [List.take_append_of_le_length (by omega)];exact h1
   ·rw [List.getD_eq_getElem?_getD,List.getElem?_append_left e,← List.getD_eq_getElem?_getD];exact h2
   ·rw [List.take_append_of_le_length (by omega)];exact h3
  ·obtain rfl:k=h.length:=by omega
   refine ⟨σ,σ',?_,?_,?_,Ext.refl _⟩
   ·rw [List.take_append_of_le_length (Nat.le_refl _),List.take_length];exact t
   ·rw [List.getD_eq_getElem?_getD,List.getElem?_append_right (Nat.le_refl _)];simpa using s
   ·rw [List.take_of_length_le (by simp)];exact t.snoc s
theorem Trc.len {h:List HpP} {σ:Sg} (t:Trc h σ):σ.n≤h.length∧σ.com.length+σ.opn.length≤h.length:=by
 induction t with
 | nil=>simp
 | snoc t s ih =>
  obtain ⟨h1,h2⟩:=ih
  cases s with
  | ask k1 k2=>simp;omega
  | report ws o k1 k2=>rw [k2] at h2;simp at *;omega
  | fail=>simp at *;omega
  | see=>simp at *;omega
theorem Trc.asked {h:List HpP} {σ:Sg} (t:Trc h σ):∀p∈σ.com++σ.opn,∃j,j<h.length∧(h.getD j default).kind=1∧(h.getD j default).tx=p.1∧(h.getD j default).writes=p.2:=by
 induction t with
 | nil=>simp
 | @snoc h σ σ' x t s ih =>
  have up:∀p,(∃j,j<h.length∧(h.getD j default).kind=1∧(h.getD j default).tx=p.1∧(h.getD j default).writes=p.2)→∃j,j<(h++[x]).length∧((h++[x]).getD j default).kind=1∧((h++[x]).getD j default).tx=p.1∧((h++[x]).getD j default).writes=(p:Int×List WrP).2:=by
   rintro p ⟨j,hj,r⟩
   refine ⟨j,by simp;omega,?_⟩
   rw [List.getD_eq_getElem?_getD,List.getElem?_append_left hj,← List.getD_eq_getElem?_getD];exact r
  intro p hp
  cases s with
  | ask k1 k2 =>
   simp only at hp
   rw [← List.append_assoc] at hp
   rcases List.mem_append.1 hp with hp | hp
   ·exact up p (ih p hp)
   ·simp at hp;subst hp
    refine ⟨h.length,by simp,?_⟩
    rw [List.getD_eq_getElem?_getD,List.getElem?_append_right (Nat.le_refl _)]
    simp [k1]
  | report ws o k1 k2 =>
   refine up p (ih p ?_)
   rw [k2]
   simpa using hp
  | fail=>exact up p (ih p (by simp at hp ⊢;exact .inl hp))
  | see=>exact up p (ih p hp)
theorem Trc.ask_n {h:List HpP} {σ:Sg} (t:Trc h σ):∀j,j<h.length→(h.getD j default).kind=1→1≤(h.getD j default).tx∧(h.getD j default).tx≤σ.n:=by
 intro j hj hk
 obtain ⟨a,b,h1,h2,h3,h4⟩:=t.at_ j hj
 have ha:=h1.ok.pos
 have hn:=h4.n
 generalize h.getD j default=x at *
 cases h2 with
 | ask k1 k2=>simp only at hn;omega
 | report ws o k1=>omega
 | fail k1=>omega
 | see k1=>omega
theorem Trc.ask_inj {h:List HpP} {σ:Sg} (t:Trc h σ) {i j:Nat} (hij:i<j) (hj:j<h.length) (hi1:(h.getD i default).kind=1) (hj1:(h.getD j default).kind=1):(h.getD i default).tx<(h.getD j default).tx:=by
 obtain ⟨a,b,h1,h2,h3,h4⟩:=t.at_ j hj
 have hi:=h1.ask_n i (by simp;omega)
 rw [List.getD_eq_getElem?_getD,List.getElem?_take_of_lt hij,← List.getD_eq_getElem?_getD] at hi
 have:=hi hi1
 generalize h.getD j default=x at *
 cases h2 with
 | ask k1 k2=>omega
 | report ws o k1=>omega
 | fail k1=>omega
 | see k1=>omega
theorem Ext.ids {a b:Sg} (h:Ext a b):b.ids.take a.com.length=a.ids:=by
 obtain ⟨m,hm,_⟩:=h.com
 unfold Sg.ids
 rw [hm,List.map_append,List.take_append_of_le_length (by simp),List.take_of_length_le (by simp)]
theorem Ext.cw {a b:Sg} (h:Ext a b):∃m,b.cw=a.cw++m:=by
 obtain ⟨m,hm,_⟩:=h.com
 exact ⟨m.map (·.2),by unfold Sg.cw;rw [hm,List.map_append]⟩
theorem Ext.clen {a b:Sg} (h:Ext a b):a.com.length≤b.com.length:=by
 obtain ⟨m,hm,_⟩:=h.com
 rw [hm,List.length_append];omega
theorem Ext.late {a b:Sg} (h:Ext a b) (ok:SgOk a) {tx:Int} {i:Nat} (_:i<b.com.length) (e:b.ids.getD i 0=tx) (ht:a.n<tx∨tx∈a.opn.map (·.1)):a.com.length≤i:=by
 apply Nat.le_of_not_lt
 intro hlt
 obtain ⟨m,hm,_⟩:=h.com
 have h1:b.ids.getD i 0=(a.com.map (·.1)).getD i 0:=by
  unfold Sg.ids
  rw [hm,List.map_append,List.getD_eq_getElem?_getD,List.getElem?_append_left (by simpa using hlt),← List.getD_eq_getElem?_getD]
 have h2:tx∈a.com.map (·.1):=by
  rw [← e,h1,List.getD_eq_getElem?_getD,List.getElem?_eq_getElem (by simpa using hlt)]
  exact List.getElem_mem _
 rcases ht with ht | ht
 ·obtain ⟨p,hp,rfl⟩:=List.mem_map.1 h2
  have:=ok.mem p (List.mem_append.2 (.inl hp))
  omega
 ·have h3:=ok.nd
  rw [List.map_append,List.nodup_append] at h3
  exact h3.2.2 _ h2 _ ht rfl
theorem Stp.lost {a b c:Sg} {x:HpP} (h:Stp a x b) (hk:x.kind=4) (ok:SgOk a) (k:Ext b c) {tx:Int} (ht:tx∈a.opn.map (·.1)):tx∉c.ids:=by
 cases h with
 | ask k1=>omega
 | report ws o k1=>omega
 | see k1=>omega
 | fail k1 =>
  intro hm
  obtain ⟨m,hm1,hm2⟩:=k.com
  unfold Sg.ids at hm
  rw [hm1,List.map_append] at hm
  obtain ⟨q,hq,rfl⟩:=List.mem_map.1 ht
  rcases List.mem_append.1 hm with hm | hm
  ·have h3:=ok.nd
   rw [List.map_append,List.nodup_append] at h3
   exact h3.2.2 _ hm _ ht rfl
  ·obtain ⟨p,hp,e⟩:=List.mem_map.1 hm
   have h4:=ok.mem q (List.mem_append.2 (.inr hq))
   rcases hm2 p (List.mem_append.2 (.inl hp)) with h5 | h5
   ·cases h5
   ·simp only at h5;omega
theorem Trc.ids_nd {h:List HpP} {σ:Sg} (t:Trc h σ):σ.ids.Nodup:=by
 have h3:=t.ok.nd
 rw [List.map_append,List.nodup_append] at h3
 exact h3.1
end
section
open Go.RowKit Go.Maps
def IterO {α:Type} (gf:Nat) (lb:Array Value) (encs:α→Array Value) (rds:α→List RdD) (p:α→Prop) (S:List α→Prop) (N:Nat) (B:Nat) (C:List HP) (w:World):Prop :=
 ∀ (l:Nat) (Mine:List α→List HP) (W:World),Below B w W→Own B W (Mine []++C) →
  (∀pre x G R W1,Own B W1 (Mine pre++ImmO G::R)→(∀r∈rds x,r∈G)→p x→pre.length<N→YieldAt Fence.wide 6 Tryz.prog l (encs x) W1 fun e W' =>
   e=.returned (.bool true)∧Own B W' (Mine (pre++[x])++ImmO G::R)∧Below B W1 W') →
  CallsIn Fence.wide 7 Tryz.prog gf (#[.func (.yield l) #[] #[]]++lb) W fun e W'=>(∃v,e=.returned v)∧Below B W W'∧∃xs,S xs∧∃R,Own B W' (Mine xs++R)
theorem wpIn_range_own {α:Type} {g:Operand} {ps:Array Tmp} {assign body:Code} {Q:Exit→Act→World→Prop} {a:Act} {w:World} {gf:Nat} {lb:Array Value} (hg:a.eval g=.func (.func gf) #[] lb) (eg:∀args w,(callFunc gf args).run Tryz.prog w=.ok (.enter gf args) w)
  {encs:α→Array Value} {rds:α→List RdD} {p:α→Prop} {S:List α→Prop} {N B:Nat} {C:List HP} {w0:World} (hseq:IterO gf lb encs rds p S N B C w0) (hb0:Below B w0 w) (hps:∀x,(encs x).size=ps.size)
  (Mine:List α→List HP) (O:Own B w (Mine []++C)) (a₁:α→Act)
  (hassign:∀ (l:Nat) (x:α) (W:World) (K:Act→World→Prop),K (a₁ x) W →
   assign.wpIn (Fence.wide.inRound l) 6 Tryz.prog (Exit.then K (fun _ _ _=>False)) { tmps:=(ps.zip (encs x)).foldl (fun t (p,v)=>t.setIfInBounds p v) a.tmps,defers:=[] } W)
  (hbody:∀ (l:Nat) (pre:List α) (x:α) (G:List RdD) (R:List HP) (W:World),Own B W (Mine pre++ImmO G::R)→(∀r∈rds x,r∈G)→p x→pre.length<N →
   body.wpIn (Fence.wide.inRound l) 6 Tryz.prog (fun e _ W'=>e=.normal∧Own B W' (Mine (pre++[x])++ImmO G::R)∧Below B W W') (a₁ x) W)
  (hdone:∀ (D:Nat) (xs:List α) (W:World) (R:List HP),S xs→Own B W (ObjO D (.deferred (some []))::(Mine xs++R))→Below B w W→Q .normal { a with defers:={ target:=.collected D,args:=#[] }::a.defers } W) :
  (Code.rangeFunc g ps assign body).wpIn Fence.wide 8 Tryz.prog Q a w:=by
 refine wpIn_rangeFunc ?_
 intro fn hfn
 obtain ⟨rec,hrec⟩:∃rec:LoopState→Option Code→Loop,rec=fun st pe=>{ state:=st,pending:=pe,fn,tmps:=a.tmps,params:=ps,assign,body,defers:=w.heap.size }:=⟨_,rfl⟩
 obtain ⟨W1,hW1⟩:∃W1,(w.alloc (.deferred (some []))).alloc (.loop (rec .ready none))=W1:=⟨_,rfl⟩
 have hB:=O.1
 have O1:Own B W1 (((Mine []++C)++[ObjO w.heap.size (.deferred (some []))])++[ObjO (w.heap.size+1) (.loop (rec .ready none))]):=by
  rw [← hW1]
  have:=(O.newObj (.deferred (some []))).newObj (.loop (rec .ready none))
  rwa [World.size_alloc] at this
 have hB1:Below B w W1:=by rw [← hW1];exact ((Below.refl B w).alloc hB _).alloc (by simp;omega) _
 have O2:Own B W1 ((ObjO w.heap.size (.deferred (some []))::ObjO (w.heap.size+1) (.loop (rec .ready none))::Mine [])++C):=by
  refine O1.perm ?_
  have h1:(Mine []++C++[ObjO w.heap.size (.deferred (some []))]++[ObjO (w.heap.size+1) (.loop (rec .ready none))])=(Mine []++C)++[ObjO w.heap.size (.deferred (some [])),ObjO (w.heap.size+1) (.loop (rec .ready none))]:=by simp
  rw [h1]
  exact List.perm_append_comm
 clear O1
 refine ⟨w.heap.size+1,[{ target:=.collected w.heap.size,args:=#[] }],W1,{ target:=.fn (.func gf) lb,args:=#[.func (.yield (w.heap.size+1)) #[] #[]] },W1,gf,
  #[.func (.yield (w.heap.size+1)) #[] #[]]++lb,W1,?_,?_,?_,?_,?_,?_⟩
 ·rw [← hW1,hrec];exact run_enterLoop_outer _ _ _ _ _
 ·simp only [resolve,hg]
  simp [go_sem]
 ·intro f' hf';trivial
 ·simp [invoke,go_sem,eg]
 ·intro _;omega
 ·refine (hseq (w.heap.size+1) (fun pre=>ObjO w.heap.size (.deferred (some []))::ObjO (w.heap.size+1) (.loop (rec .ready none))::Mine pre) W1 (hb0.trans hB1) O2 ?_).mono ?_
  ·rintro pre x G R W OW hr hpx hlen
   have hl:=(OW.obj 1 rfl).1
   have hy:=run_yield (P:=Tryz.prog) (args:=encs x) hl (by rw [hrec];exact hps x)
   rw [hrec] at hy
   refine ⟨fn,_,assign,body,hy,roundIn_of_wpIn hfn (hassign _ x W _ ?_)⟩
   have hbr:=run_beginRound (P:=Tryz.prog) hl (by rw [hrec])
   obtain ⟨O3,hB3⟩:=OW.turnObj 1 rfl (w':=W.putObj (w.heap.size+1) (.loop { rec .ready none with state:=.busy })) (((But.refl _ W).grown (grownBy_putObj' W _ _) (fun k e=>.inl (by cases e;simp)))) (World.putObj_heap_same (Array.getElem?_eq_some_iff.1 hl).1)
   refine ⟨_,hbr,?_⟩
   have O4:Own B (W.putObj (w.heap.size+1) (.loop { rec .ready none with state:=.busy })) (Mine pre++ImmO G::(R++[ObjO w.heap.size (.deferred (some [])),ObjO (w.heap.size+1) (.loop { rec .ready none with state:=.busy })])):=by
    refine O3.perm ?_
    have h1:Mine pre++ImmO G::(R++[ObjO w.heap.size (.deferred (some [])),ObjO (w.heap.size+1) (.loop { rec .ready none with state:=.busy })])=(Mine pre++ImmO G::R)++[ObjO w.heap.size (.deferred (some [])),ObjO (w.heap.size+1) (.loop { rec .ready none with state:=.busy })]:=by simp
    rw [h1]
    exact List.perm_append_comm (l₁:=[ObjO w.heap.size (.deferred (some [])),ObjO (w.heap.size+1) (.loop { rec .ready none with state:=.busy })])
   refine wpIn_mono (hbody _ pre x G _ _ O4 hr hpx hlen) ?_
   rintro e a3 W3 ⟨rfl,O5,hB5⟩
   have O6:Own B W3 (ObjO w.heap.size (.deferred (some []))::ObjO (w.heap.size+1) (.loop { rec .ready none with state:=.busy })::(Mine (pre++[x])++ImmO G::R)):=by
    refine O5.perm ?_
    have h1:Mine (pre++[x])++ImmO G::(R++[ObjO w.heap.size (.deferred (some [])),ObjO (w.heap.size+1) (.loop { rec .ready none with state:=.busy })])=(Mine (pre++[x])++ImmO G::R)++[ObjO w.heap.size (.deferred (some [])),ObjO (w.heap.size+1) (.loop { rec .ready none with state:=.busy })]:=by simp
    rw [h1]
    exact List.perm_append_comm (l₂:=[ObjO w.heap.size (.deferred (some [])),ObjO (w.heap.size+1) (.loop { rec .ready none with state:=.busy })])
   have hl3:=(O6.obj 1 rfl).1
   have her:=run_endRound (P:=Tryz.prog) none hl3
   obtain ⟨O7,hB7⟩:=O6.turnObj 1 rfl (w':=W3.putObj (w.heap.size+1) (.loop (rec .ready none))) (((But.refl _ W3).grown (grownBy_putObj' W3 _ _) (fun k e=>.inl (by cases e;simp)))) (World.putObj_heap_same (Array.getElem?_eq_some_iff.1 hl3).1)
   refine ⟨.bool true,W3.putObj (w.heap.size+1) (.loop (rec .ready none)),?_,rfl,O7,(hB3.trans hB5).trans hB7⟩
   rw [hrec] at her ⊢
   exact her
  ·rintro e W2 ⟨⟨v,rfl⟩,hB2,xs,hS,R,OW⟩
   have hl:=(OW.obj 1 rfl).1
   have hel:=run_endLoop (P:=Tryz.prog) hl (by rw [hrec];simp)
   obtain ⟨O3,hB3⟩:=OW.turnObj 1 rfl (w':=W2.putObj (w.heap.size+1) (.loop { rec .ready none with state:=.exhausted })) (((But.refl _ W2).grown (grownBy_putObj' W2 _ _) (fun k e=>.inl (by cases e;simp)))) (World.putObj_heap_same (Array.getElem?_eq_some_iff.1 hl).1)
   have hpn:(rec .ready none).pending=none:=by rw [hrec]
   generalize (W2.putObj (w.heap.size+1) (.loop { rec .ready none with state:=.exhausted }))=W5 at *
   refine ⟨(rec .ready none).pending,W5,hel,?_⟩
   rw [hpn]
   exact hdone _ xs _ R hS (O3.drop 1) ((hB1.trans hB2).trans hB3)
end
section
open Go.RowKit Go.Maps
theorem Oper.wp_in {P:Program} {l n:Nat} {o:Oper} {a:Act} {w:World} {K:Act→World→Prop} {Q:Exit→Act→World→Prop} (hd:∀c,o.op≠.defer c) (h:Go.Oper.wp P o a w K Q):Go.Oper.wpIn (Fence.wide.inRound l) n P o a w K Q:=by
 unfold Go.Oper.wpIn
 refine ⟨fun _ _=>trivial,?_⟩
 rw [Oper.semAt_eq _ _ _ hd]
 unfold Go.Oper.wp at h
 generalize (execOp a.eval o).run P w=r at h ⊢
 have hdp:(Fence.wide.inRound l).depth.isSome=true→1≤n:=fun h=>by simp [Fence.wide] at h
 cases r with
 | ok x w' =>
  cases x with
  | value v=>exact h
  | skip=>exact h
  | defer d=>exact h
  | enter f args=>exact ⟨hdp,CallsIn.inRound l (callsIn_wide.2 h)⟩
  | row row args =>
   refine ⟨hdp,fun c cs _=>?_⟩
   obtain ⟨v,w',hR,hs⟩:=h c cs
   exact ⟨v,w',hR,stepsIn_wide.2 hs⟩
  | round=>exact h.elim
  | _=>exact h
 | halt x w'=>cases x<;>exact h
theorem wpAny_in {P:Program} {l n:Nat} {md:Region.Mode} {ops:Array Oper} {Q:Exit→Act→World→Prop} (hd:∀ (i:Nat) (o:Oper) (c:Call),ops[i]?=some o→o.op≠.defer c) (hq:¬ LetsOut Q):∀ (fuel:Nat) (listed:Array Bool) (a:Act) (w:World),wpAny P md ops Q fuel listed a w→wpAnyIn (Fence.wide.inRound l) n P md ops Q fuel listed a w
 | 0,_,_,_,h=>h
 | fuel+1,listed,a,w,h=>by
  refine ⟨h.1,fun i hi=>?_⟩
  have h2:=h.2 i hi
  unfold wpOp at h2
  unfold wpOpIn
  cases ho:ops[i]? with
  | none=>rw [ho] at h2;exact wpAny_in hd hq fuel _ _ _ h2
  | some o =>
   rw [ho] at h2
   simp only at h2 ⊢
   split
   ·rename_i hw
    rw [if_pos hw] at h2
    refine Oper.wp_in (hd i o · ho) ?_
    rcases h2 with h2 | h2
    ·exact Go.Oper.wp_mono (fun a w h=>wpAny_in hd hq fuel _ _ _ h) h2
    ·exact absurd h2.2 hq
   ·rename_i hw
    rw [if_neg hw] at h2
    exact ⟨fun _ _=>trivial,wpAny_in hd hq fuel _ _ _ h2⟩
theorem wpIn_region_in {P:Program} {id l n:Nat} {ops:Array Oper} {Q:Exit→Act→World→Prop} {a:Act} {w:World} (hm:P.follows .mixedOrders=true) (hd:(ops.all fun o=>match o.op with | .defer _=>false | _=>true)=true) (hq:¬ LetsOut Q)
  (h:wpAny P .any ops Q ops.size (Array.replicate ops.size false) a w.drew):(Code.region id ops true).wpIn (Fence.wide.inRound l) n P Q a w :=
 wpIn_region_any hm (wpAny_in (fun i o c ho e=>by
  have h1:=Array.all_eq_true'.1 hd o (Array.mem_of_getElem? ho)
  rw [e] at h1;simp at h1) hq _ _ _ _ h)
theorem wpIn_region_in_held {P:Program} {id l n:Nat} {ops:Array Oper} {Q:Exit→Act→World→Prop} {a:Act} {w:World} (S:World→Prop) (hm:P.follows .mixedOrders=true) (hd:(ops.all fun o=>match o.op with | .defer _=>false | _=>true)=true) (hq:¬ LetsOut Q) (hS:S w.drew)
  (h:S w.drew→wpAnyH P .any ops Q S ops.size (Array.replicate ops.size false) a w.drew):(Code.region id ops true).wpIn (Fence.wide.inRound l) n P Q a w :=
 wpIn_region_in hm hd hq (wpAny_of_held _ _ _ _ (h hS))
end
section
open Go.RowKit Go.Maps
attribute [local go_sem] Oper.semAt_some
set_option maxRecDepth 20000 in
theorem mk_vals (a:Option Addr) (n c:Nat) (w:World):Calls Tryz.prog 159 #[.slice a n c] w fun e w'=>e=.returned (.func (.func 184) #[] #[.pointer (some ⟨w.heap.size,0,none⟩)])∧w'=w.alloc (.cells #[.slice a n c] 32):=by
 go_enter Tryz.func159,Tryz.ntmps159
 go_wp2_with fail
 go_ret
 exact ⟨rfl,rfl⟩
theorem en_vals (args:Array Value) (w:World):(callFunc 184 args).run Tryz.prog w=.ok (.enter 184 args) w:=enters_fn Tryz.func184 (by kernel_rfl) (by kernel_rfl) args w
set_option maxRecDepth 100000 in
set_option maxHeartbeats 2000000 in
theorem it_vals {w:World} {g:Nat} {a:Option Addr} {n c:Nat} {vs:List VerP} (hr:Rd w a n c 4 (recC VerP.enc vs)) (hc:w.cell? ⟨g,0,none⟩=some (.slice a n c)) :
  IterK 184 #[.pointer (some ⟨g,0,none⟩)] (fun x:VerP=>#[VerP.v x]) (fun xs=>xs=vs) n w:=by
 intro n₀ hn₀ ll J Jx W hW hJ hJx hY h0
 have hcW:=(hW.cell (p:=⟨g,0,none⟩) (cell_block_lt hc)).trans hc
 have hln:=hr.rlen VerP.enc_len (by omega)
 have hmx:=hr.lenMax
 have R:=Box.mk hr
 have HL:=Box.mk hln
 have HW:=Box.mk hW
 clear hr hc hln hW
 subst hn₀
 refine callsIn_of_wp Tryz.func184 rfl trivial ?_ rfl
 simp only [Tryz.ntmps184,List.size_toArray,List.length_cons,List.length_nil,Nat.reduceAdd,Nat.reduceSub,Array.replicate_succ,Array.replicate_zero,List.push_toArray,List.append_toArray,List.nil_append,List.cons_append]
 gi_wp2
 gi_loopg [4,7] n (fun gg _ s7 wr=>∃k:Nat,k≤n∧n - k≤gg∧s7=.int .i64 k∧Box (J (vs.take k) wr∧Below w.heap.size w wr))
 case atStart=>exact ⟨0,Nat.zero_le _,by omega,rfl,⟨h0,HW.out⟩⟩
 case round =>
  obtain ⟨k,hk,hg,rfl,HI⟩:=hrel
  by_cases hlt:k<n
  ·obtain ⟨b,off,rfl,hb,hcl⟩:=(R.out.below HI.out.2 (Nat.le_refl _)).recAt VerP.enc_len (by omega) k hlt
   obtain ⟨x,hx⟩:∃x,vs.getD k default=x:=⟨_,rfl⟩
   have HTK:=Box.mk (show vs.take (k+1)=vs.take k++[x] from by rw [take_snoc (by rw [HL.out];exact hlt),hx])
   rw [hx] at hcl
   have hJ3:J (vs.take k) (wr.alloc (.cells (VerP.enc x).toArray 93)):=hJ _ wr _ none HI.out.1 (World.grownBy_alloc wr _ none) (fun r e=>by cases e)
   obtain ⟨fn,tmps,assign,body,hy,hR⟩:=hY _ x (wr.alloc (.cells (VerP.enc x).toArray 93)) hJ3 (by rw [List.length_take,HL.out];omega)
   have HS:=Box.mk (HI.out.2.alloc HI.out.2.size (.cells (VerP.enc x).toArray 93))
   obtain ⟨xa,xb,xd,va,vc,xl⟩:=x
   have c0:=hcl 0 _ rfl
   have c1:=hcl 1 _ rfl
   have c2:=hcl 2 _ rfl
   have c3:=hcl 3 _ rfl
   simp only [Nat.add_zero] at c0 c1 c2 c3
   clear hx hcl hJ3 HI
   simp only [VerP.v] at hy
   simp only [VerP.enc] at hy hR
   gi_wp2
   refine hR.mono ?_
   rintro e W3 (⟨rfl,hJ4,hk3⟩ | ⟨rfl,hJx3⟩)
   ·have hB4:=HS.out.trans hk3.1
    gi_wp2
    gi_roundg (n - (k+1))
    case measure=>omega
    case rel=>exact ⟨k+1,by omega,by omega,by go_num,⟨by rw [HTK.out];exact hJ4,hB4⟩⟩
   ·gi_wp2
    refine bodyPost_ret (results_none rfl _ _ _) rfl ?_
    exact ⟨⟨_,rfl⟩,.inr ⟨_,trivial,hJx3⟩⟩
  ·have hkn:k=n:=by omega
   have HS:=Box.mk (show vs.take k=vs from List.take_of_length_le (by rw [HL.out];omega))
   have hJE:=HI.out.1
   gi_wp2
   go_end0
   exact ⟨⟨_,rfl⟩,.inl ⟨_,rfl,by rw [← HS.out];exact hJE⟩⟩
set_option maxRecDepth 20000 in
set_option maxHeartbeats 1000000 in
theorem ordered_any {vs:List VerP} {a:Option Addr} {n c:Nat} {w:World} (hr:Rd w a n c 4 (recC VerP.enc vs)) (hn:n≤1000000) :
  Calls Tryz.prog 119 #[.slice a n c] w (RetCol (fun ys=>ys.Pairwise (Le2 VerP.row VerP.stamp)∧ys.Perm vs) VerP.enc 93 4 w):=by
 have hln:=hr.rlen VerP.enc_len (by omega)
 have HR:=Box.mk hr
 have HL:=Box.mk hln
 clear hr hln
 go_enter Tryz.func119,Tryz.ntmps119
 go_wp2_with fail
 refine (mk_vals a n c w).mono ?_
 rintro e w1 ⟨rfl,rfl⟩
 have HS:=Box.mk (srtd_ver en_vals (it_vals (w:=w.alloc (.cells #[.slice a n c] 32)) (g:=w.heap.size) (HR.out.alloc _) ((Blk.new (w:=w) (k:=w.heap.size) (ty:=32) (arr:=#[.slice a n c]) (cs:=[.slice a n c]) rfl rfl).cellOf (i:=0) rfl)) hn (fun xs hxs=>by rw [hxs,HL.out];exact hn))
 have HB:=Box.mk ((Below.refl w.heap.size w).alloc (Nat.le_refl _) (.cells #[.slice a n c] 32))
 go_wp2_with fail
 refine HS.out.mono ?_
 rintro e w3 ⟨hb3,ys,a3,c3,⟨hso,xs,hx,hp⟩,rfl,hrow⟩
 subst hx
 have HR2:=Box.mk (And.intro (HB.out.trans (hb3.mono HB.out.size)) (And.intro (And.intro hso hp) (own_base hrow HB.out.size)))
 clear hb3 hso hp hrow
 go_wp2_with fail
 go_ret
 exact ⟨HR2.out.1,ys,a3,c3,HR2.out.2.1,rfl,HR2.out.2.2⟩
end
end Go.Proofs.YtlfghapllmaigaaGreatDoor
