/-
  How a group lies in memory; The walks of slices.Index, Contains, Clone at lists of integers; The walks of group's New, Next, Waiting; A node laid behind the last one of a group; The walk of a group's Ask; The walk of a group's Done. Conditions: each theorem's own hypotheses.
-/
import Derived.Test.YtlfghapllmaigaaGreatDoorK23
import Derived.Test.YtlfghapllmaigaaGreatDoorK21
import Derived.Deep.QuietTactic
import Derived.StillTailTactics
import Derived.Lib.SliceRun
set_option linter.unusedVariables false
set_option linter.unusedSimpArgs false
namespace Go.Proofs.YtlfghapllmaigaaGreatDoor.Gr
open Go.RowKit
def ptrOf (o:Option Nat):Value:=.pointer (o.map fun b=>⟨b,0,none⟩)
def grpVals (S:GS) (m:Nat) (bs:List Nat) (ta:Option Addr) (tc:Nat):List Value :=
 [.int .i64 S.most,.int .i64 S.room,.int .i64 S.delay,.int .i64 S.stamp,ptrOf bs[0]?,.map (some m),.bool S.opn,.int .i64 S.first,.slice ta S.txs.length tc]
def ndVals (n:Nd) (nx:Value):List Value:=[.int .i64 n.tx,.int .i64 n.words,.int .i64 n.tick,nx]
structure Grp (w:World) (g m:Nat) (bs:List Nat) (ta:Option Addr) (tc:Nat) (S:GS):Prop where
 blk:Blk w g 74 (grpVals S m bs ta tc)
 nodes:∀i (h:i<S.q.length),∃b,bs[i]?=some b∧Blk w b 198 (ndVals S.q[i] (ptrOf bs[i+1]?))
 blen:bs.length=S.q.length
 map:SetM Tryz.prog 3 4 w m (S.q.map Nd.tx)
 txs:Rd w ta S.txs.length tc 1 (intVals S.txs)
 nodup:(g::m::bs).Nodup
 tsep:∀ad,ta=some ad→ad.block∉g::m::bs∧ad.block<w.heap.size
 ok:S.OK
def fpOf (g m:Nat) (bs:List Nat) (ta:Option Addr):List Nat:=g::m::(bs++(ta.map Addr.block).toList)
theorem Grp.but {w w':World} {g m:Nat} {bs:List Nat} {ta:Option Addr} {tc:Nat} {S:GS} (h:Grp w g m bs ta tc S) {F:List Nat} (hb:But F w w') (hF:∀x∈fpOf g m bs ta,x∉F):Grp w' g m bs ta tc S:=by
 refine ⟨h.blk.but hb (hF g (by simp [fpOf])),fun i hi=>?_,h.blen,h.map.but hb (hF m (by simp [fpOf])),?_,h.nodup,fun ad ha=>⟨(h.tsep ad ha).1,Nat.lt_of_lt_of_le (h.tsep ad ha).2 hb.size⟩,h.ok⟩
 ·obtain ⟨b,hb1,hb2⟩:=h.nodes i hi
  exact ⟨b,hb1,hb2.but hb (hF b (by simp [fpOf,List.mem_of_getElem? hb1]))⟩
 ·refine ⟨h.txs.hlen,h.txs.hcap,h.txs.hmax,h.txs.hnil,fun ad ha j u hu=>?_⟩
  have hc:=h.txs.hcell ad ha j u hu
  have hl:=cell_block_lt hc
  rw [cell_eq (w:=w) (hb.block _ hl (hF _ (by rw [add_block,ha];simp [fpOf])))]
  exact hc
theorem Grp.below {w w':World} {g m:Nat} {bs:List Nat} {ta:Option Addr} {tc:Nat} {S:GS} (h:Grp w g m bs ta tc S) (hb:Below w.heap.size w w'):Grp w' g m bs ta tc S :=
 h.but (But.ofBelow (F:=[]) hb) (fun _ _ h=>by cases h)
theorem Grp.drewN {w:World} {g m:Nat} {bs:List Nat} {ta:Option Addr} {tc:Nat} {S:GS} (h:Grp w g m bs ta tc S) (n:Nat):Grp (w.drewN n) g m bs ta tc S :=
 h.below ⟨rfl,rfl,rfl,Nat.le_refl _,fun _ _=>rfl⟩
theorem Grp.node {w:World} {g m:Nat} {bs:List Nat} {ta:Option Addr} {tc:Nat} {S:GS} (h:Grp w g m bs ta tc S) (i:Nat) (hi:i<S.q.length) :
  ∃b,bs[i]?=some b∧Blk w b 198 (ndVals (S.q.getD i default) (ptrOf bs[i+1]?)):=by
 obtain ⟨b,h1,h2⟩:=h.nodes i hi
 exact ⟨b,h1,by rw [List.getD_eq_getElem?_getD,List.getElem?_eq_getElem hi];exact h2⟩
theorem Grp.last {w:World} {g m:Nat} {bs:List Nat} {ta:Option Addr} {tc:Nat} {S:GS} (h:Grp w g m bs ta tc S) (i:Nat) (hi:S.q.length≤i):bs[i]?=none:=by
 rw [List.getElem?_eq_none];rw [h.blen];exact hi
def RetQ (v:Value) (w:World) (e:Ending) (w':World):Prop:=e=.returned v∧∃n,w'=w.drewN n
set_option maxRecDepth 20000 in
set_option maxHeartbeats 1000000 in
theorem front_any {w:World} {g m:Nat} {bs:List Nat} {ta:Option Addr} {tc:Nat} {S:GS} (h:Grp w g m bs ta tc S) :
  Calls Tryz.prog 115 #[.pointer (some ⟨g,0,none⟩)] w (RetQ (.tuple #[.int .i64 S.front,ptrOf bs[S.front]?]) w):=by
 have c0:=h.blk.cellOf (i:=0) rfl
 have c1:=h.blk.cellOf (i:=1) rfl
 have c4:=h.blk.cellOf (i:=4) rfl
 have hOK:=Box.mk h.ok
 have HG:=Box.mk h;clear h
 go_enter Tryz.func115,Tryz.ntmps115
 go_wp2_with fail
 go_quiet (fail)
 go_wp2_with fail
 go_loopw [4,5,6] (fun i x r wr=>∃k:Nat,k≤S.q.length∧(∀j,j<k→S.goes j=true)∧i=.int .i64 k∧x=.int .i64 (S.sumW k)∧r=ptrOf bs[k]?∧0≤S.sumW k∧S.sumW k≤1048576∧∃n,wr=w.drewN n) (fun i _ _ _=>S.q.length - (intOf i).toNat)
 case atStart=>exact ⟨0,Nat.zero_le _,fun j h=>by omega,rfl,by rw [S.sumW_zero],rfl,by rw [S.sumW_zero];omega,by rw [S.sumW_zero];omega,_,rfl⟩
 case round =>
  obtain ⟨k,hk,hgo,rfl,rfl,rfl,hs0,hs1,n,rfl⟩:=hrel
  have HGO:=Box.mk hgo;clear hgo
  by_cases hl:k<S.q.length
  ·obtain ⟨b,hb1,hb2⟩:=HG.out.node k hl
   have hq:=HG.out.ok.q (S.q.getD k default) (by rw [List.getD_eq_getElem?_getD,List.getElem?_eq_getElem hl];exact List.getElem_mem hl)
   have hs:=Box.mk (S.sumW_succ k hl)
   have hge:=Box.mk (show S.goes k=(decide ((k:Int)<S.most)&&decide (S.sumW k+(S.q.getD k default).words≤S.room)) from by unfold GS.goes;simp [hl])
   have hm64:=HG.out.ok.most
   have hr20:=HG.out.ok.room
   have d1:=hb2.cellOf (i:=1) rfl
   have d3:=hb2.cellOf (i:=3) rfl
   rw [show ptrOf bs[k]?=.pointer (some ⟨b,0,none⟩) from by rw [hb1];rfl]
   generalize (S.q.getD k default)=nd at *
   generalize S.sumW k=sk at *
   obtain ⟨⟨hw1,hw2⟩,_,_⟩:=hq
   by_cases hm:(k:Int)<S.most
   ·by_cases hw:sk+nd.words≤S.room
    ·have hgk:S.goes k=true:=by rw [hge.out];simp [hm,hw]
     go_wp2_with fail
     go_quiet (fail)
     go_wp2_with fail
     go_roundw
     case rel=>exact ⟨k+1,by omega,fun j hj=>by
      by_cases e:j=k
      ·subst e;exact hgk
      ·exact HGO.out j (by omega),by go_num,by rw [hs.out],rfl,by rw [hs.out];omega,by rw [hs.out];omega,_,rfl⟩
     case measure=>simp [intOf];omega
    ·have hgk:S.goes k=false:=by rw [hge.out];simp [hw]
     have hw':decide (sk+nd.words≤S.room)=false:=decide_eq_false hw
     have hf:=Box.mk (S.front_is HGO.out hgk)
     go_wp2_with fail
     go_quiet (fail)
     go_wp2_with fail
     go_ret2
     exact ⟨by rw [hf.out,hb1];rfl,_,World.drewN_drewN _ _ _⟩
   ·have hgk:S.goes k=false:=by rw [hge.out];simp [hm]
    have hm':decide ((k:Int)<S.most)=false:=decide_eq_false hm
    have hf:=Box.mk (S.front_is HGO.out hgk)
    go_wp2_with fail
    go_quiet (fail)
    go_wp2_with fail
    go_ret2
    exact ⟨by rw [hf.out,hb1];rfl,_,World.drewN_drewN _ _ _⟩
  ·have hgk:S.goes k=false:=by unfold GS.goes;simp [hl]
   have hf:=Box.mk (S.front_is HGO.out hgk)
   have hb1:=HG.out.last k (by omega)
   rw [show ptrOf bs[k]?=.pointer none from by rw [hb1];rfl]
   go_wp2_with fail
   go_quiet (fail)
   go_wp2_with fail
   go_ret2
   exact ⟨by rw [hf.out,hb1];rfl,_,World.drewN_drewN _ _ _⟩
set_option maxRecDepth 20000 in
set_option maxHeartbeats 1000000 in
theorem due_any {w:World} {g m:Nat} {bs:List Nat} {ta:Option Addr} {tc:Nat} {S:GS} (h:Grp w g m bs ta tc S) (tick:Int) :
  Calls Tryz.prog 52 #[.pointer (some ⟨g,0,none⟩),.int .i64 tick] w (RetQ (.bool (S.due tick)) w):=by
 have c0:=h.blk.cellOf (i:=0) rfl
 have c2:=h.blk.cellOf (i:=2) rfl
 have c4:=h.blk.cellOf (i:=4) rfl
 have c6:=h.blk.cellOf (i:=6) rfl
 have HG:=Box.mk h;clear h
 have HF:=Box.mk (fun n=>front_any (HG.out.drewN n))
 have hdue:=Box.mk (show S.due tick=(!S.opn&&decide (0<S.q.length)&&(decide ((S.front:Int)=S.most)||decide (S.front<S.q.length)||decide ((S.q.getD 0 default).tick+S.delay≤tick))) from rfl)
 cases ho:S.opn
 ·rw [ho] at c6
  by_cases hl:0<S.q.length
  ·obtain ⟨b,hb1,hb2⟩:=HG.out.node 0 hl
   rw [show ptrOf bs[0]?=.pointer (some ⟨b,0,none⟩) from by rw [hb1];rfl] at c4
   have hq:=HG.out.ok.q (S.q.getD 0 default) (by rw [List.getD_eq_getElem?_getD,List.getElem?_eq_getElem hl];exact List.getElem_mem hl)
   have d2:=hb2.cellOf (i:=2) rfl
   have hdl:=HG.out.ok.delay
   generalize (S.q.getD 0 default)=nd at *
   obtain ⟨_,⟨ht1,ht2⟩,_⟩:=hq
   go_enter Tryz.func52,Tryz.ntmps52
   go_wp2_with fail
   refine (front_any HG.out).mono ?_
   rintro e w1 ⟨rfl,n1,rfl⟩
   have hfm:=GS.front_most HG.out.ok
   have hfl:=S.front_le
   obtain ⟨fr,hfr⟩:∃fr,S.front=fr:=⟨_,rfl⟩
   rw [hfr] at hfm hfl ⊢
   rw [hfr] at hdue
   have HFR:=Box.mk hfr;clear hfr
   by_cases h1:(fr:Int)=S.most
   ·have h1':((fr:Int)==S.most)=true:=by simp [h1]
    go_wp2_with fail
    go_quiet (fail)
    go_wp2_with fail
    go_ret
    exact ⟨by rw [hdue.out,ho];simp [hl,h1],_,World.drewN_drewN _ _ _⟩
   ·have h1':((fr:Int)==S.most)=false:=by simp [h1]
    by_cases h2:fr<S.q.length
    ·obtain ⟨b2,hr,_⟩:=HG.out.node fr h2
     rw [show ptrOf bs[fr]?=.pointer (some ⟨b2,0,none⟩) from by rw [hr];rfl]
     go_wp2_with fail
     go_quiet (fail)
     go_wp2_with fail
     go_ret
     exact ⟨by rw [hdue.out,ho];simp [hl,h2],_,World.drewN_drewN _ _ _⟩
    ·have hr:=HG.out.last fr (by omega)
     rw [show ptrOf bs[fr]?=.pointer none from by rw [hr];rfl]
     go_wp2_with fail
     go_quiet (fail)
     go_wp2_with fail
     go_ret
     exact ⟨by rw [hdue.out,ho];simp [hl,h1,h2],_,World.drewN_drewN _ _ _⟩
  ·have hb1:=HG.out.last 0 (by omega)
   rw [show ptrOf bs[0]?=.pointer none from by rw [hb1];rfl] at c4
   go_enter Tryz.func52,Tryz.ntmps52
   go_wp2_with fail
   go_ret
   exact ⟨by rw [hdue.out];simp [hl],0,rfl⟩
 ·rw [ho] at c6
  go_enter Tryz.func52,Tryz.ntmps52
  go_wp2_with fail
  go_ret
  exact ⟨by rw [hdue.out,ho];simp,0,rfl⟩
end Go.Proofs.YtlfghapllmaigaaGreatDoor.Gr
namespace Go.Proofs.YtlfghapllmaigaaGreatDoor.Gr
open Go.RowKit
theorem sl22:SlT Tryz.prog 44 3 (.int .i64 0) 1 8:=⟨by kernel_rfl,by kernel_rfl,rfl⟩
theorem intVals_one (l:List Int):∀u∈intVals l,u.oneCell'=true:=by
 intro u hu;obtain ⟨_,_,rfl⟩:=List.mem_map.1 hu;rfl
theorem Rd.ilen {w:World} {a:Option Addr} {n cap:Nat} {l:List Int} (h:Rd w a n cap 1 (intVals l)):l.length=n:=by
 have:=h.hlen;rw [intVals_length] at this;omega
theorem Rd.intAtD {w:World} {a:Option Addr} {n cap:Nat} {l:List Int} (h:Rd w a n cap 1 (intVals l)) (k:Nat) (hk:k<n) :
  ∃g off,a=some ⟨g,off,none⟩∧w.cell? ⟨g,off+k,none⟩=some (.int .i64 (l.getD k 0)):=by
 have hl:=h.ilen
 obtain ⟨b,off,ha,hc⟩:=h.at k hk
 refine ⟨b,off,ha,?_⟩
 rw [hc k (by rw [intVals_length];omega)]
 simp [intVals,List.getD_eq_getElem?_getD,List.getElem?_eq_getElem (show k<l.length by omega)]
theorem own_new {w:World} {g base e size n:Nat} {cs:List Value} (hb:Blk w g e cs) (hbase:base≤g) (hl:cs.length=n * size) (hn:n≤maxLen):w.ownsRow base e size (.slice (some ⟨g,0,none⟩) n n) n cs :=
 ⟨hl,.inr ⟨g,n,cs.toArray,rfl,hbase,hb,Nat.le_refl _,hn,by simp [hl],by rw [← hl];simp⟩⟩
def idx (l:List Int) (x:Int):Int:=if x∈l then (l.idxOf x:Int) else -1
set_option maxRecDepth 20000 in
set_option maxHeartbeats 1000000 in
theorem index_any (l:List Int) (x:Int) (a:Option Addr) (n cap:Nat) (w:World) (hrd:Rd w a n cap 1 (intVals l)) :
  Calls Tryz.prog 126 #[.slice a n cap,.int .i64 x] w fun e w'=>e=.returned (.int .i64 (idx l x))∧w'=w:=by
 have hln:=hrd.ilen
 have hmax:=hrd.lenMax
 have R:=Box.mk hrd;clear hrd
 go_enter Tryz.func126,Tryz.ntmps126
 go_wp2_with fail
 go_loopw [8] (fun i wr=>∃k:Nat,k≤n∧i=.int .i64 k∧(∀j,j<k→l.getD j 0≠x)∧wr=w) (fun i _=>n - (intOf i).toNat)
 case atStart=>exact ⟨0,Nat.zero_le _,rfl,fun j h=>by omega,rfl⟩
 case round =>
  obtain ⟨k,hk,rfl,hne,rfl⟩:=hrel
  have HNE:=Box.mk hne;clear hne
  by_cases hl:k<n
  ·obtain ⟨g,off,rfl,hc⟩:=R.out.intAtD k hl
   by_cases hx:x=l.getD k 0
   ·have hxx:(x==l.getD k 0)=true:=by simp only [beq_iff_eq];exact hx
    have hidx:idx l x=(k:Int):=by
     have hkl:k<l.length:=by omega
     have e:l.getD k 0=l[k]:=by rw [List.getD_eq_getElem?_getD,List.getElem?_eq_getElem hkl];rfl
     have hm:x∈l:=by rw [hx,e];exact List.getElem_mem hkl
     unfold idx
     rw [if_pos hm]
     have h2:l.idxOf x=k:=by
      have h3:l.idxOf x<l.length:=List.idxOf_lt_length_iff.2 hm
      have h4:l[l.idxOf x]=x:=List.getElem_idxOf h3
      rcases Nat.lt_trichotomy (l.idxOf x) k with h5 | h5 | h5
      ·exact absurd (by rw [List.getD_eq_getElem?_getD,List.getElem?_eq_getElem h3];exact h4) (HNE.out _ h5)
      ·exact h5
      ·have h6:=List.not_of_lt_findIdx (p:=(·==x)) (xs:=l) (i:=k) h5
       simp only [beq_eq_false_iff_ne] at h6
       exact absurd (hx.trans e).symm h6
     rw [h2]
    have HI:=Box.mk hidx;clear hidx
    generalize l.getD k 0=y at *
    subst hx
    go_wp2_with fail
    go_ret
    exact ⟨by rw [HI.out];rfl,rfl⟩
   ·have hxx:(x==l.getD k 0)=false:=by simp only [beq_eq_false_iff_ne];exact hx
    have hnx:=Box.mk hx;clear hx
    generalize hy:l.getD k 0=y at *
    have HY:=Box.mk hy;clear hy
    go_wp2_with fail
    go_roundw
    case rel=>exact ⟨k+1,by omega,by go_num,fun j hj=>by
     by_cases e:j=k
     ·subst e;rw [HY.out];exact fun h=>hnx.out h.symm
     ·exact HNE.out j (by omega),trivial⟩
    case measure=>simp [intOf];omega
  ·have hidx:idx l x=-1:=by
    unfold idx
    rw [if_neg]
    intro hm
    obtain ⟨j,hj,he⟩:=List.getElem_of_mem hm
    exact HNE.out j (by omega) (by rw [List.getD_eq_getElem?_getD,List.getElem?_eq_getElem hj];exact he)
   have HI:=Box.mk hidx;clear hidx
   go_wp2_with fail
   go_ret
   exact ⟨by rw [HI.out];rfl,rfl⟩
set_option maxRecDepth 20000 in
theorem contains_any (l:List Int) (x:Int) (a:Option Addr) (n cap:Nat) (w:World) (hrd:Rd w a n cap 1 (intVals l)) :
  Calls Tryz.prog 72 #[.slice a n cap,.int .i64 x] w fun e w'=>e=.returned (.bool (decide (x∈l)))∧w'=w:=by
 have HC:=Box.mk (index_any l x a n cap w hrd)
 have hd:decide ((0:Int)≤idx l x)=decide (x∈l):=by
  unfold idx
  by_cases hm:x∈l
  ·rw [if_pos hm];simp [hm]
  ·rw [if_neg hm];simp [hm]
 generalize idx l x=i at *
 generalize decide (x∈l)=d at *
 go_enter Tryz.func72,Tryz.ntmps72
 go_wp2_with fail
 refine HC.out.mono ?_
 rintro e w1 ⟨rfl,rfl⟩
 go_wp2_with fail
 go_ret
 exact ⟨by first | rfl | rw [hd],rfl⟩
def RetI (l:List Int) (w:World) (e:Ending) (w':World):Prop :=
 ∃a cap,e=.returned (.slice a l.length cap)∧w'.ownsRow w.heap.size 3 1 (.slice a l.length cap) l.length (intVals l)∧Below w.heap.size w w'
set_option maxRecDepth 20000 in
set_option maxHeartbeats 1000000 in
theorem clone_any (l:List Int) (a:Option Addr) (n cap:Nat) (w:World) (hrd:Rd w a n cap 1 (intVals l)) (hn:n≤1000000000) :
  Calls Tryz.prog 71 #[.slice a n cap] w (RetI l w):=by
 have hln:=hrd.ilen
 have R:=Box.mk (hrd.alloc (.cells #[] 3))
 have qn:∀ (w:World) (a:Option Addr) (n c n' c':Nat),(binOp .eql 44 (.slice a n c) (.slice none n' c')).run Tryz.prog w=.ok (.bool a.isNone) w:=fun w a n c n' c'=>Lib.run_eql_slice_nil w 44 3 a n c n' c' sl22.ht
 cases a with
 | none =>
  have hnil:=hrd.hnil rfl
  have hl:l=[]:=by cases l with | nil=>rfl | cons x y=>simp [intVals] at hnil
  subst hl
  go_enter Tryz.func71,Tryz.ntmps71
  go_wp2_with fail
  go_ret
  exact ⟨none,0,rfl,World.ownsRow_nil _ _ _ _,Below.refl _ _⟩
 | some ad =>
  have hown0:=own_new (w:=w.alloc (.cells #[] 3)) (g:=w.heap.size) (base:=w.heap.size) (e:=3) (size:=1) (n:=0) (cs:=[]) (Blk.new rfl rfl) (Nat.le_refl _) rfl (by unfold maxLen;omega)
  go_enter Tryz.func71,Tryz.ntmps71
  go_wp2_with (first
   | ((with_reducible show wpList _ _ _ _ _ _);refine wpList_append_src (o:=⟨some 7,_,_,_,_,_⟩) rfl (.tmp 5) (.tmp 6) 44 44 rfl sl22 (.inl sl22.ht) rfl hown0 rfl (Src.ofRd R.out (intVals_one _)) (by omega) (by unfold maxLen;omega) (by simp) ?_;intro a2 c2 w2 hown2 hgr2 _;have B2:=below_grown ((Below.refl w.heap.size w).alloc (Nat.le_refl _) (.cells #[] 3)) hgr2 hown0 (Nat.le_refl _) (by simp);rw [Nat.zero_add,List.nil_append] at hown2;rw [Nat.zero_add];clear hgr2))
  go_ret
  exact ⟨a2,c2,by rw [hln];rfl,by rw [hln];exact hown2,B2⟩
end Go.Proofs.YtlfghapllmaigaaGreatDoor.Gr
namespace Go.Proofs.YtlfghapllmaigaaGreatDoor.Gr
open Go.RowKit
def RetNew (S:GS) (w:World) (e:Ending) (w':World):Prop :=
 ∃g m,e=.returned (.pointer (some ⟨g,0,none⟩))∧Grp w' g m [] none 0 S∧w.heap.size≤g∧w.heap.size≤m∧Below w.heap.size w w'
set_option maxRecDepth 20000 in
set_option maxHeartbeats 2000000 in
theorem new_right (most room delay next:Int) (w:World) (hr:right most room delay next=true):Calls Tryz.prog 6 #[.int .i64 most,.int .i64 room,.int .i64 delay,.int .i64 next] w (RetNew (GS.new most room delay next) w):=by
 have h':=of_decide_eq_true hr
 obtain ⟨h1,h2,h3,h4,h5,h6,h7,h8⟩:=h'
 have HR:=Box.mk hr;clear hr
 have hmm:=@run_makeMap Tryz.prog
 go_enter Tryz.func6,Tryz.ntmps6
 go_wp2_with fail
 go_ret
 refine ⟨w.heap.size+1,w.heap.size,rfl,⟨Blk.new (by simp) rfl,(fun i hi=>absurd hi (Nat.not_lt_zero _)),rfl,?_,Rd.nilSlice _ _,(by simp),(fun ad h=>by cases h),GS.new_ok HR.out⟩,by omega,Nat.le_refl _,((Below.refl _ _).alloc (Nat.le_refl _) _).alloc (by simp) _⟩
 exact (SetM.made w).eq (Below.heap_alloc _ _ _ (by simp))
set_option maxRecDepth 20000 in
theorem next_any {w:World} {g m:Nat} {bs:List Nat} {ta:Option Addr} {tc:Nat} {S:GS} (h:Grp w g m bs ta tc S):Calls Tryz.prog 32 #[.pointer (some ⟨g,0,none⟩)] w fun e w'=>e=.returned (.int .i64 S.stamp)∧w'=w:=by
 have c3:=h.blk.cellOf (i:=3) rfl
 go_enter Tryz.func32,Tryz.ntmps32
 go_wp2_with fail
 go_ret
 exact ⟨rfl,rfl⟩
set_option maxRecDepth 20000 in
set_option maxHeartbeats 1000000 in
theorem waiting_any {w:World} {g m:Nat} {bs:List Nat} {ta:Option Addr} {tc:Nat} {S:GS} (h:Grp w g m bs ta tc S):Calls Tryz.prog 33 #[.pointer (some ⟨g,0,none⟩)] w (RetI (S.q.map Nd.tx) w):=by
 have c4:=h.blk.cellOf (i:=4) rfl
 have hst:=h.ok.stamp
 have hq30:S.q.length≤1073741825:=by omega
 clear hst
 have HG:=Box.mk h;clear h
 go_enter Tryz.func33,Tryz.ntmps33
 go_wp2_with fail
 go_loopw [3,4] (fun v r wr=>∃ (k:Nat) (a:Option Addr) (cap:Nat),k≤S.q.length∧r=ptrOf bs[k]?∧v=.slice a k cap∧wr.ownsRow w.heap.size 3 1 (.slice a k cap) k (intVals ((S.q.take k).map Nd.tx))∧Below w.heap.size w wr)
  (fun v _ _=>match v with | .slice _ k _=>S.q.length - k | _=>0)
 case atStart=>exact ⟨0,none,0,Nat.zero_le _,rfl,rfl,World.ownsRow_nil _ _ _ _,Below.refl _ _⟩
 case round =>
  obtain ⟨k,a,cap,hk,rfl,rfl,hown,B⟩:=hrel
  have hsz:=B.size
  by_cases hl:k<S.q.length
  ·obtain ⟨b,hb1,hb2⟩:=(HG.out.below B).node k hl
   have hT:=Box.mk (show (S.q.take (k+1)).map Nd.tx=(S.q.take k).map Nd.tx++[(S.q.getD k default).tx] from by
    rw [show S.q.getD k default=S.q[k] from by rw [List.getD_eq_getElem?_getD,List.getElem?_eq_getElem hl];rfl,List.take_succ_eq_append_getElem hl,List.map_append];rfl)
   have d0:=hb2.cellOf (i:=0) rfl
   have d3:=hb2.cellOf (i:=3) rfl
   rw [show ptrOf bs[k]?=.pointer (some ⟨b,0,none⟩) from by rw [hb1];rfl]
   generalize (S.q.getD k default)=nd at *
   go_wp2_with (at_builtin;refine wpList_append_src rfl _ _ 44 44 rfl sl22 (.inl sl22.ht) rfl (hown.alloc _) rfl (Src.oneNew _ _ _ rfl) (by omega) (by unfold maxLen;omega) (by simp;omega) ?_;intro a1 cap1 w1 hown1 hgr1 _;have B1:=below_grown (B.alloc (by omega) _) hgr1 (hown.alloc _) (Nat.le_refl _) (by simp;omega);obtain ⟨b',hb1',hb2'⟩:=(HG.out.below B1).node k hl;obtain rfl:b'=b:=Option.some.inj (hb1'.symm.trans hb1);have d3':=hb2'.cellOf (i:=3) rfl)
   have hx1:intVals ((S.q.take k).map Nd.tx)++[Value.int .i64 nd.tx]=intVals ((S.q.take (k+1)).map Nd.tx):=by rw [hT.out];simp only [intVals,List.map_append,List.map_cons,List.map_nil]
   rw [hx1] at hown1
   go_roundw
   case rel=>exact ⟨k+1,a1,cap1,by omega,rfl,rfl,hown1,B1⟩
   case measure=>simp;omega
  ·have hb1:=HG.out.last k (by omega)
   have hkl:k=S.q.length:=by omega
   rw [show ptrOf bs[k]?=.pointer none from by rw [hb1];rfl]
   rw [List.take_of_length_le (by omega)] at hown
   have hln:=Box.mk (show (S.q.map Nd.tx).length=k from by rw [List.length_map];omega)
   generalize S.q.map Nd.tx=xs at *
   go_wp2_with fail
   go_ret
   exact ⟨a,cap,by rw [hln.out];rfl,by rw [hln.out];exact hown,B⟩
end Go.Proofs.YtlfghapllmaigaaGreatDoor.Gr
namespace Go.Proofs.YtlfghapllmaigaaGreatDoor.Gr
open Go.RowKit
def endAt (g:Nat) (bs:List Nat):Nat→Addr
 | 0=>⟨g,4,none⟩
 | k+1=>⟨bs.getD k 0,3,none⟩
theorem Grp.node_ne {w:World} {g m:Nat} {bs:List Nat} {ta:Option Addr} {tc:Nat} {S:GS} (h:Grp w g m bs ta tc S) {i j b c:Nat} (hb:bs[i]?=some b) (hc:bs[j]?=some c) (hij:i≠j):b≠c:=by
 have hn:=(List.nodup_cons.1 (List.nodup_cons.1 h.nodup).2).2
 intro e;subst e
 obtain ⟨h1,h2⟩:=List.getElem?_eq_some_iff.1 hb
 obtain ⟨h3,h4⟩:=List.getElem?_eq_some_iff.1 hc
 exact hij ((List.getElem_inj hn).1 (h2.trans h4.symm))
theorem Grp.node_g {w:World} {g m:Nat} {bs:List Nat} {ta:Option Addr} {tc:Nat} {S:GS} (h:Grp w g m bs ta tc S) {i b:Nat} (hb:bs[i]?=some b):b≠g∧b≠m:=by
 have h1:=List.nodup_cons.1 h.nodup
 have h2:=List.nodup_cons.1 h1.2
 have hm:=List.mem_of_getElem? hb
 exact ⟨fun e=>by subst e;exact h1.1 (List.mem_cons_of_mem _ hm),fun e=>by subst e;exact h2.1 hm⟩
theorem Grp.gm {w:World} {g m:Nat} {bs:List Nat} {ta:Option Addr} {tc:Nat} {S:GS} (h:Grp w g m bs ta tc S):g≠m:=by
 have h1:=List.nodup_cons.1 h.nodup
 intro e;subst e;exact h1.1 (List.mem_cons_self ..)
theorem Grp.endCell {w:World} {g m:Nat} {bs:List Nat} {ta:Option Addr} {tc:Nat} {S:GS} (h:Grp w g m bs ta tc S):∀k,k≤S.q.length→w.cell? (endAt g bs k)=some (ptrOf bs[k]?)∧w.frozen? (endAt g bs k)=false∧(endAt g bs k).block∈fpOf g m bs ta∧(endAt g bs k).block≠m
 | 0,_=>⟨h.blk.cellOf (i:=4) rfl,h.blk.free 4,by simp [endAt,fpOf],h.gm⟩
 | k+1,hk=>by
  obtain ⟨b,h1,h2⟩:=h.node k (by omega)
  have e:bs.getD k 0=b:=by rw [List.getD_eq_getElem?_getD,h1];rfl
  rw [show endAt g bs (k+1)=⟨b,3,none⟩ from by rw [← e];rfl]
  exact ⟨h2.cellOf (i:=3) rfl,h2.free 3,by simp [fpOf,List.mem_of_getElem? h1],(h.node_g h1).2⟩
theorem Grp.push {w wc:World} {g m:Nat} {bs:List Nat} {ta:Option Addr} {tc:Nat} {S:GS} (h:Grp w g m bs ta tc S) (nd:Nd) (hok:({ S with q:=S.q++[nd] }:GS).OK)
  (hmap:SetM Tryz.prog 3 4 wc m (S.q.map Nd.tx++[nd.tx]))
  (ht:((w.alloc (.cells (ndVals nd (.pointer none)).toArray 198)).setCell (endAt g bs S.q.length) (ptrOf (some w.heap.size))).mapTurned wc m) :
  Grp wc g m (bs++[w.heap.size]) ta tc { S with q:=S.q++[nd] }:=by
 have hkeep:∀k,k<w.heap.size→k≠m→k≠(endAt g bs S.q.length).block→wc.heap[k]?=w.heap[k]?:=fun k hk h1 h2=>by
  rw [ht.grown.block k (by show k<((w.alloc _).heap.modify _ _).size;rw [Array.size_modify];simp;omega) (fun e=>h1 (Option.some.inj e)),Below.heap_setCell _ _ _ _ h2,Below.heap_alloc _ _ _ hk]
 have hend:=h.endCell S.q.length (Nat.le_refl _)
 have hml:=h.map.lt
 have hgl:=h.blk.lt
 have hendlt:(endAt g bs S.q.length).block<w.heap.size:=cell_block_lt hend.1
 have hnew:Blk wc w.heap.size 198 (ndVals nd (.pointer none)):=by
  have h1:Blk (w.alloc (.cells (ndVals nd (.pointer none)).toArray 198)) w.heap.size 198 (ndVals nd (.pointer none)):=Blk.new rfl rfl
  have h2:=h1.other (p:=endAt g bs S.q.length) (by omega) (ptrOf (some w.heap.size))
  exact h2.eq (ht.grown.block _ (by show _<((w.alloc _).heap.modify _ _).size;rw [Array.size_modify];simp) (fun e=>by have:=Option.some.inj e;omega))
 have hturn:∀ {b:Nat} {ty:TypeId} {cs:List Value},b≠m→Blk ((w.alloc (.cells (ndVals nd (.pointer none)).toArray 198)).setCell (endAt g bs S.q.length) (ptrOf (some w.heap.size))) b ty cs→Blk wc b ty cs:=fun hb hB =>
  hB.eq (ht.grown.block _ hB.lt (fun e=>hb (Option.some.inj e)))
 have hlast:bs[S.q.length]?=none:=h.last _ (Nat.le_refl _)
 have happ:∀i,i<S.q.length→(bs++[w.heap.size])[i]?=bs[i]?:=fun i hi=>List.getElem?_append_left (by rw [h.blen];exact hi)
 have hn:(bs++[w.heap.size])[S.q.length]?=some w.heap.size:=by rw [List.getElem?_append_right (by rw [h.blen];exact Nat.le_refl _),h.blen,Nat.sub_self];rfl
 have hn1:(bs++[w.heap.size])[S.q.length+1]?=none:=by rw [List.getElem?_eq_none];rw [List.length_append,h.blen];simp
 refine ⟨?_,fun i hi=>?_,by rw [List.length_append,List.length_append,h.blen];rfl,by rw [List.map_append];exact hmap,?_,?_,?_,hok⟩
 ·cases hq:S.q.length with
  | zero =>
   have h1:=(h.blk.alloc (.cells (ndVals nd (.pointer none)).toArray 198)).set 4 (ptrOf (some w.heap.size))
   rw [hq] at hturn hn
   have:=hturn h.gm h1
   unfold grpVals at this ⊢
   rw [hn]
   exact this
  | succ n =>
   obtain ⟨b,hb1,_⟩:=h.node n (by omega)
   have e:(endAt g bs S.q.length).block=b:=by rw [hq];show bs.getD n 0=b;rw [List.getD_eq_getElem?_getD,hb1];rfl
   have h1:=h.blk.eq (hkeep g hgl h.gm (by rw [e];exact (h.node_g hb1).1.symm))
   unfold grpVals at h1 ⊢
   rw [happ 0 (by omega)]
   exact h1
 ·rw [List.length_append] at hi
  simp only [List.length_cons,List.length_nil] at hi
  by_cases hi2:i<S.q.length
  ·obtain ⟨b,hb1,hb2⟩:=h.nodes i hi2
   refine ⟨b,by rw [happ i hi2];exact hb1,?_⟩
   rw [List.getElem_append_left hi2]
   have hg:=h.node_g hb1
   by_cases hi3:i+1=S.q.length
   ·have e:endAt g bs S.q.length=⟨b,3,none⟩:=by rw [← hi3];show (⟨bs.getD i 0,3,none⟩:Addr)=_;rw [List.getD_eq_getElem?_getD,hb1];rfl
    have h1:=(hb2.alloc (.cells (ndVals nd (.pointer none)).toArray 198)).set 3 (ptrOf (some w.heap.size))
    rw [e] at hturn
    have:=hturn hg.2 h1
    rw [hi3,hn]
    exact this
   ·have hne:b≠(endAt g bs S.q.length).block:=by
     obtain ⟨n,hn2⟩:∃n,S.q.length=n+1:=⟨S.q.length - 1,by omega⟩
     obtain ⟨c,hc1,_⟩:=h.node n (by omega)
     have e:(endAt g bs S.q.length).block=c:=by rw [hn2];show bs.getD n 0=c;rw [List.getD_eq_getElem?_getD,hc1];rfl
     rw [e]
     exact h.node_ne hb1 hc1 (by omega)
    have h1:=hb2.eq (hkeep b hb2.lt hg.2 hne)
    rw [happ (i+1) (by omega)]
    exact h1
  ·have hie:i=S.q.length:=by omega
   subst hie
   refine ⟨w.heap.size,hn,?_⟩
   rw [List.getElem_append_right (Nat.le_refl _),hn1]
   simp only [Nat.sub_self,List.getElem_cons_zero]
   exact hnew
 ·refine ⟨h.txs.hlen,h.txs.hcap,h.txs.hmax,h.txs.hnil,fun ad ha j u hu=>?_⟩
  have hc:=h.txs.hcell ad ha j u hu
  have hl:=cell_block_lt hc
  have hs:=(h.tsep ad ha).1
  rw [add_block] at hl
  rw [cell_eq (w:=w) ?_]
  ·exact hc
  ·rw [add_block]
   refine hkeep _ hl (fun e=>hs (by rw [e];simp)) (fun e=>?_)
   cases hq:S.q.length with
   | zero=>rw [hq] at e;exact hs (by rw [e];simp [endAt])
   | succ n =>
    obtain ⟨c,hc1,_⟩:=h.node n (by omega)
    have e2:(endAt g bs S.q.length).block=c:=by rw [hq];show bs.getD n 0=c;rw [List.getD_eq_getElem?_getD,hc1];rfl
    rw [e2] at e
    exact hs (by rw [e];simp [List.mem_of_getElem? hc1])
 ·have hx:w.heap.size∉g::m::bs:=by
   intro hm
   simp only [List.mem_cons] at hm
   rcases hm with hm | hm | hm
   ·omega
   ·omega
   ·obtain ⟨i,hi,he⟩:=List.getElem_of_mem hm
    obtain ⟨b,hb1,hb2⟩:=h.nodes i (by rw [← h.blen];exact hi)
    rw [List.getElem?_eq_getElem hi,Option.some.injEq] at hb1
    have:=hb2.lt;omega
  have e:g::m::(bs++[w.heap.size])=(g::m::bs)++[w.heap.size]:=rfl
  rw [e,List.nodup_append]
  refine ⟨h.nodup,by simp,fun a ha b hb hab=>?_⟩
  simp only [List.mem_singleton] at hb
  subst hb;subst hab;exact hx ha
 ·intro ad ha
  obtain ⟨hs,hlt⟩:=h.tsep ad ha
  have hgs:=ht.grown.size
  refine ⟨fun hm=>?_,Nat.lt_of_lt_of_le hlt (Nat.le_trans (by show _≤((w.alloc _).heap.modify _ _).size;rw [Array.size_modify];simp) hgs)⟩
  have e:g::m::(bs++[w.heap.size])=(g::m::bs)++[w.heap.size]:=rfl
  rw [e,List.mem_append] at hm
  rcases hm with hm | hm
  ·exact hs hm
  ·simp only [List.mem_singleton] at hm
   omega
end Go.Proofs.YtlfghapllmaigaaGreatDoor.Gr
namespace Go.Proofs.YtlfghapllmaigaaGreatDoor.Gr
open Go.RowKit
theorem ty3:Tryz.prog.underlying 3=some (.int .i64):=by kernel_rfl
theorem ty4:Tryz.prog.underlying 4=some .bool:=by kernel_rfl
theorem ty60:Tryz.prog.underlying 69=some (.map 3 4):=by kernel_rfl
theorem zero4 (w:World):(zeroValue 4).run Tryz.prog w=.ok (.bool false) w:=by kernel_rfl
def posOf (bs:List Nat):Value→Nat
 | .pointer (some ad)=>if ad.off=4 then 0 else bs.idxOf ad.block+1
 | _=>0
theorem posOf_end {w:World} {g m:Nat} {bs:List Nat} {ta:Option Addr} {tc:Nat} {S:GS} (h:Grp w g m bs ta tc S):∀k,k≤S.q.length→posOf bs (.pointer (some (endAt g bs k)))=k
 | 0,_=>rfl
 | k+1,hk=>by
  have hn:=(List.nodup_cons.1 (List.nodup_cons.1 h.nodup).2).2
  have hkl:k<bs.length:=by rw [h.blen];omega
  show (if (3:Nat)=4 then 0 else bs.idxOf (bs.getD k 0)+1)=k+1
  rw [if_neg (by decide),List.getD_eq_getElem?_getD,List.getElem?_eq_getElem hkl]
  simp [hn.idxOf_getElem]
def RetG (v:Value) (g m:Nat) (bs:List Nat) (ta:Option Addr) (S':GS) (w:World) (e:Ending) (w':World):Prop :=
 ∃bs' ta' tc',e=.returned v∧Grp w' g m bs' ta' tc' S'∧But (fpOf g m bs ta) w w'∧∀x∈fpOf g m bs' ta',x∈fpOf g m bs ta∨w.heap.size≤x
theorem RetG.same {w:World} {g m:Nat} {bs:List Nat} {ta:Option Addr} {tc:Nat} {S:GS} (h:Grp w g m bs ta tc S) {v:Value} {e:Ending} (he:e=.returned v) (n:Nat):RetG v g m bs ta S w e (w.drewN n) :=
 ⟨bs,ta,tc,he,h.drewN n,(But.refl _ w).drewN n,fun _ h=>.inl h⟩
set_option maxRecDepth 20000 in
set_option maxHeartbeats 2000000 in
theorem ask_any {w:World} {g m:Nat} {bs:List Nat} {ta:Option Addr} {tc:Nat} {S:GS} (h:Grp w g m bs ta tc S) (tx words tick:Int) (hx:In64 tx) :
  Calls Tryz.prog 31 #[.pointer (some ⟨g,0,none⟩),.int .i64 tx,.int .i64 words,.int .i64 tick] w (RetG (.int .i64 (S.ask tx words tick).2) g m bs ta (S.ask tx words tick).1 w):=by
 have HG:=Box.mk h
 have c1:=h.blk.cellOf (i:=1) rfl
 have c3:=h.blk.cellOf (i:=3) rfl
 have c5:=h.blk.cellOf (i:=5) rfl
 have c8:=h.blk.cellOf (i:=8) rfl
 clear h
 by_cases hbad:words<1∨tick<0∨1099511627776<tick
 ·rw [show S.ask tx words tick=(S,1) from by unfold GS.ask;rw [if_pos hbad]]
  have hc:words<1∨(1≤words∧tick<0)∨(1≤words∧0≤tick∧1099511627776<tick):=by omega
  clear hbad
  rcases hc with h | ⟨h1,h⟩ | ⟨h1,h2,h⟩
  all_goals
   go_enter Tryz.func31,Tryz.ntmps31
   go_wp2_with fail
   go_ret
   exact RetG.same HG.out rfl 0
 ·have ha1:1≤words:=by omega
  have ha2:0≤tick:=by omega
  have ha3:tick≤1099511627776:=by omega
  have HB:=Box.mk hbad;clear hbad
  have hlook:=HG.out.map.look ty3 ty4 ty60 zero4 hx
  by_cases htw:tx∈S.q.map Nd.tx
  ·rw [show S.ask tx words tick=(S,6) from by unfold GS.ask;rw [if_neg HB.out,if_pos (Or.inl htw)]]
   rw [decide_eq_true htw] at hlook
   clear htw
   go_enter Tryz.func31,Tryz.ntmps31
   go_wp2_with fail
   go_ret
   exact RetG.same HG.out rfl 0
  ·rw [decide_eq_false htw] at hlook
   have hcon:=Box.mk (contains_any S.txs tx ta S.txs.length tc w HG.out.txs)
   by_cases htb:tx∈S.txs
   ·rw [show S.ask tx words tick=(S,6) from by unfold GS.ask;rw [if_neg HB.out,if_pos (Or.inr htb)]]
    rw [decide_eq_true htb] at hcon
    go_enter Tryz.func31,Tryz.ntmps31
    go_wp2_with fail
    refine hcon.out.mono ?_
    rintro e w1 ⟨rfl,rfl⟩
    go_wp2_with fail
    go_ret
    exact RetG.same HG.out rfl 0
   ·rw [decide_eq_false htb] at hcon
    have hntw:¬ (tx∈S.q.map Nd.tx∨tx∈S.txs):=fun h=>h.elim htw htb
    have HT:=Box.mk hntw
    have hlen:∀n,(Builtin.len_ #[69] 3 #[.map (some m)]).run Tryz.prog (w.drewN n)=.ok (.int .i64 (S.q.length:Int)) (w.drewN n):=fun n=>by
     have:=(HG.out.drewN n).map.len ty60 3
     rw [List.length_map] at this;exact this
    have hst:=HG.out.ok.stamp
    by_cases hr:S.room<words
    ·rw [show S.ask tx words tick=(S,2) from by unfold GS.ask;rw [if_neg HB.out,if_neg HT.out,if_pos (Or.inl hr)]]
     go_enter Tryz.func31,Tryz.ntmps31
     go_wp2_with fail
     refine hcon.out.mono ?_
     rintro e w1 ⟨rfl,rfl⟩
     go_wp2_with fail
     go_quiet (fail)
     go_wp2_with fail
     go_ret
     exact RetG.same HG.out rfl _
    ·by_cases hs:1073741824<S.stamp+S.q.length
     ·rw [show S.ask tx words tick=(S,2) from by unfold GS.ask;rw [if_neg HB.out,if_neg HT.out,if_pos (Or.inr hs)]]
      have hr':decide (S.room<words)=false:=decide_eq_false hr
      go_enter Tryz.func31,Tryz.ntmps31
      go_wp2_with fail
      refine hcon.out.mono ?_
      rintro e w1 ⟨rfl,rfl⟩
      go_wp2_with fail
      go_quiet (fail)
      go_wp2_with fail
      go_ret
      exact RetG.same HG.out rfl _
     ·have hr':decide (S.room<words)=false:=decide_eq_false hr
      rw [show S.ask tx words tick=({ S with q:=S.q++[⟨tx,words,tick⟩] },0) from by unfold GS.ask;rw [if_neg HB.out,if_neg HT.out,if_neg (by omega)]]
      go_enter Tryz.func31,Tryz.ntmps31
      go_wp2_with fail
      refine hcon.out.mono ?_
      rintro e w1 ⟨rfl,rfl⟩
      go_wp2_with fail
      go_quiet (fail)
      have G0:=Box.mk (HG.out.drewN nq)
      have BU:=(But.refl (fpOf g m bs ta) w1).drewN nq
      clear c1 c3 c5 c8 hlook hlen hcon HG
      generalize w1.drewN nq=w0 at *
      go_wp2_with fail
      go_loopw [9] (fun v wr=>∃k:Nat,k≤S.q.length∧v=.pointer (some (endAt g bs k))∧wr=w0) (fun v _=>S.q.length - posOf bs v)
      case atStart=>exact ⟨0,Nat.zero_le _,rfl,rfl⟩
      case round =>
       obtain ⟨k,hk,rfl,rfl⟩:=hrel
       obtain ⟨e1,e2,e3,e4⟩:=G0.out.endCell k hk
       have hpos:=Box.mk (posOf_end G0.out k hk)
       have HE:=Box.mk (show endAt g bs (k+1)=⟨bs.getD k 0,3,none⟩ from rfl)
       by_cases hl:k<S.q.length
       ·obtain ⟨b,hb1,hb2⟩:=G0.out.node k hl
        have hpos2:=Box.mk (posOf_end G0.out (k+1) hl)
        have hbd:=Box.mk (show bs.getD k 0=b from by rw [List.getD_eq_getElem?_getD,hb1];rfl)
        rw [show ptrOf bs[k]?=.pointer (some ⟨b,0,none⟩) from by rw [hb1];rfl] at e1
        generalize endAt g bs k=ad at *
        go_wp2_with fail
        go_roundw
        case rel=>exact ⟨k+1,hl,by rw [HE.out,hbd.out],trivial⟩
        case measure=>rw [hpos.out,← hbd.out,← HE.out,hpos2.out];omega
       ·have hkq:k=S.q.length:=by omega
        subst hkq
        have hnone:=G0.out.last S.q.length (Nat.le_refl _)
        rw [show ptrOf bs[S.q.length]?=.pointer none from by rw [hnone];rfl] at e1
        have hlt:=cell_block_lt e1
        have hml:=G0.out.map.lt
        have ea:∀o,(wr.alloc o).cell? (endAt g bs S.q.length)=some (.pointer none):=fun o=>(cell_eq (Below.heap_alloc _ _ _ hlt)).trans e1
        have ef:∀o,(wr.alloc o).frozen? (endAt g bs S.q.length)=false:=fun o=>(World.frozen?_of_block (Below.heap_alloc _ _ _ hlt)).trans e2
        have c5:((wr.alloc (.cells #[.int .i64 tx,.int .i64 words,.int .i64 tick,.pointer none] 198)).setCell (endAt g bs S.q.length) (.pointer (some ⟨wr.heap.size,0,none⟩))).cell? ⟨g,5,none⟩=some (.map (some m)):=by
         have hb:=G0.out.blk.alloc (.cells #[.int .i64 tx,.int .i64 words,.int .i64 tick,.pointer none] 198)
         cases hq:S.q.length with
         | zero=>exact (hb.set 4 _).cellOf (i:=5) rfl
         | succ n =>
          obtain ⟨b,hb1,_⟩:=G0.out.node n (by omega)
          have e:endAt g bs (n+1)=⟨b,3,none⟩:=by show (⟨bs.getD n 0,3,none⟩:Addr)=_;rw [List.getD_eq_getElem?_getD,hb1];rfl
          rw [e]
          exact (hb.other (p:=⟨b,3,none⟩) (G0.out.node_g hb1).1.symm _).cellOf (i:=5) rfl
        have hm1:SetM Tryz.prog 3 4 ((wr.alloc (.cells #[.int .i64 tx,.int .i64 words,.int .i64 tick,.pointer none] 198)).setCell (endAt g bs S.q.length) (.pointer (some ⟨wr.heap.size,0,none⟩))) m (S.q.map Nd.tx) :=
         G0.out.map.eq ((Below.heap_setCell _ _ _ _ (Ne.symm e4)).trans (Below.heap_alloc _ _ _ hml))
        obtain ⟨wc,hrun,hm2,hturn⟩:=hm1.store ty3 ty4 ty60 hx htw (by rw [List.length_map];unfold maxLen;omega)
        have BU2:But (fpOf g m bs ta) w1 wc:=(((BU.alloc _).setCell (.inl e3) _).turned hturn (.inl (by simp [fpOf])))
        have hok:({ S with q:=S.q++[⟨tx,words,tick⟩] }:GS).OK:=by
         have:=GS.ask_ok (words:=words) (tick:=tick) G0.out.ok hx
         rw [show S.ask tx words tick=({ S with q:=S.q++[⟨tx,words,tick⟩] },0) from by unfold GS.ask;rw [if_neg HB.out,if_neg HT.out,if_neg (by omega)]] at this
         exact this
        have HF:=Box.mk (G0.out.push ⟨tx,words,tick⟩ hok hm2 hturn)
        have HBU:=Box.mk BU2
        have HSZ:=Box.mk (show w1.heap.size≤wr.heap.size from BU.size)
        clear hm1 hm2 hturn BU BU2 hok
        generalize endAt g bs S.q.length=ad at *
        go_wp2_with fail
        go_ret
        exact ⟨bs++[wr.heap.size],ta,tc,rfl,HF.out,HBU.out,fun x hx=>by
         simp only [fpOf,List.mem_cons,List.mem_append] at hx ⊢
         rcases hx with h | h | (h | h) | h
         ·exact .inl (.inl h)
         ·exact .inl (.inr (.inl h))
         ·exact .inl (.inr (.inr (.inl h)))
         ·simp only [List.not_mem_nil,or_false] at h;subst h;exact .inr HSZ.out
         ·exact .inl (.inr (.inr (.inr h)))⟩
end Go.Proofs.YtlfghapllmaigaaGreatDoor.Gr
namespace Go.Proofs.YtlfghapllmaigaaGreatDoor.Gr
open Go.RowKit
theorem sl28:SlT Tryz.prog 126 129 (.agg #[.int .i64 0,.int .i64 0]) 2 16:=⟨by kernel_rfl,by kernel_rfl,rfl⟩
theorem agg32:AggT Tryz.prog 72 2:=⟨by kernel_rfl,by kernel_rfl⟩
def repVals (first:Int) (l:List Int) (k:Nat):List Value:=((List.range k).map fun i=>[Value.int .i64 (l.getD i 0),Value.int .i64 (first+i)]).flatten
theorem repVals_succ (first:Int) (l:List Int) (k:Nat):repVals first l (k+1)=repVals first l k++[.int .i64 (l.getD k 0),.int .i64 (first+k)]:=by
 unfold repVals;rw [List.range_succ,List.map_append,List.flatten_append];simp
theorem rd_two (w:World) (x y:Value) (e:TypeId):Rd (w.alloc (.cells #[x,y] e)) (some ⟨w.heap.size,0,none⟩) 1 1 2 [x,y] :=
 ⟨rfl,Nat.le_refl _,by unfold maxLen;omega,fun h=>(by cases h),fun ad ha j u hu=>by
  simp only [Option.some.injEq] at ha;subst ha
  exact (Blk.new (cs:=[x,y]) rfl rfl).agg j u hu⟩
def RetD (g m:Nat) (bs:List Nat) (ta:Option Addr) (S:GS) (w:World) (e:Ending) (w':World):Prop :=
 ∃a cap,e=.returned (.slice a S.txs.length cap)∧w'.ownsRow w.heap.size 129 2 (.slice a S.txs.length cap) S.txs.length (repVals S.first S.txs S.txs.length)∧Grp w' g m bs none 0 S.done∧But (fpOf g m bs ta) w w'
set_option maxRecDepth 20000 in
set_option maxHeartbeats 2000000 in
theorem done_any {w:World} {g m:Nat} {bs:List Nat} {ta:Option Addr} {tc:Nat} {S:GS} (h:Grp w g m bs ta tc S) :
  Calls Tryz.prog 55 #[.pointer (some ⟨g,0,none⟩)] w (RetD g m bs ta S w):=by
 have HG:=Box.mk h
 have c7:=h.blk.cellOf (i:=7) rfl
 have c8:=h.blk.cellOf (i:=8) rfl
 have hfirst:=h.ok.first
 have htx:=h.ok.txs.1
 clear h
 go_enter Tryz.func55,Tryz.ntmps55
 go_wp2_with fail
 go_loopw [3,12] (fun v i wr=>∃ (k:Nat) (a:Option Addr) (cap:Nat),k≤S.txs.length∧i=.int .i64 k∧v=.slice a k cap∧wr.ownsRow w.heap.size 129 2 (.slice a k cap) k (repVals S.first S.txs k)∧Below w.heap.size w wr)
  (fun _ i _=>S.txs.length - (intOf i).toNat)
 case atStart=>exact ⟨0,none,0,Nat.zero_le _,rfl,rfl,World.ownsRow_nil _ _ _ _,Below.refl _ _⟩
 case round =>
  obtain ⟨k,a,cap,hk,rfl,rfl,hown,B⟩:=hrel
  have hsz:=B.size
  have c7':=((HG.out.below B).blk).cellOf (i:=7) rfl
  by_cases hl:k<S.txs.length
  ·obtain ⟨g2,off,rfl,hc⟩:=(HG.out.below B).txs.intAtD k hl
   have hT:=Box.mk (repVals_succ S.first S.txs k)
   generalize S.txs.getD k 0=x at *
   have RR:=Box.mk (rd_two wr (.int .i64 x) (.int .i64 (S.first+(k:Int))) 129)
   go_wp2_with (at_builtin;refine wpList_append_src rfl _ _ 126 126 rfl sl28 (.inl sl28.ht) rfl (hown.alloc _) rfl (Src.ofRd RR.out (by simp [Value.oneCell'])) (by omega) (by unfold maxLen;omega) (by simp;omega) ?_;intro a1 cap1 w1 hown1 hgr1 _)
   have B1:=below_grown (B.alloc (by omega) _) hgr1 (hown.alloc _) (Nat.le_refl _) (by simp;omega)
   go_roundw
   case rel=>exact ⟨k+1,a1,cap1,by omega,by go_num,rfl,by rw [hT.out];exact hown1,B1⟩
   case measure=>simp [intOf];omega
  ·have hkn:k=S.txs.length:=by omega
   subst hkn
   have G1:=HG.out.below B
   have c6:=G1.blk.cellOf (i:=6) rfl
   have c8':=G1.blk.cellOf (i:=8) rfl
   have f6:=G1.blk.free 6
   have f7:=G1.blk.free 7
   have f8:=G1.blk.free 8
   go_wp2_with fail
   go_ret
   have hgl:=HG.out.blk.lt
   have hkeep:∀k,k≠g→(((wr.setCell ⟨g,6,none⟩ (.bool false)).setCell ⟨g,7,none⟩ (.int .i64 0)).setCell ⟨g,8,none⟩ (.slice none 0 0)).heap[k]?=wr.heap[k]?:=fun k hk =>
    (Below.heap_setCell _ _ _ _ hk).trans ((Below.heap_setCell _ _ _ _ hk).trans (Below.heap_setCell _ _ _ _ hk))
   refine ⟨a,cap,rfl,own_eq hown (fun k hk=>hkeep k (by have:=(hown.lt k hk).1;omega)),⟨((G1.blk.set 6 _).set 7 _).set 8 _,fun i hi=>?_,G1.blen,G1.map.eq (hkeep m G1.gm.symm),Rd.nilSlice _ _,G1.nodup,(fun ad h=>by cases h),GS.done_ok G1.ok⟩,(((But.ofBelow B).setCell (.inl (by simp [fpOf])) _).setCell (.inl (by simp [fpOf])) _).setCell (.inl (by simp [fpOf])) _⟩
   obtain ⟨b,hb1,hb2⟩:=G1.nodes i hi
   exact ⟨b,hb1,hb2.eq (hkeep b (G1.node_g hb1).1)⟩
end Go.Proofs.YtlfghapllmaigaaGreatDoor.Gr
