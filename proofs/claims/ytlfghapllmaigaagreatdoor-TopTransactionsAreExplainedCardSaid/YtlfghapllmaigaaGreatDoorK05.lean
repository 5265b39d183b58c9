/-
  The graph of a history: what it is, and where it lies; Plain mathematics of alumtop: a history without a dangerous structure leaves no transactions that wait for one another; Plain mathematics of alumtop: where some transactions are left, one of them waits for none that is left; dangerous structures by the transactions' own numbers; Maps as objects that lie apart; an object made of others, opened and shut. Conditions: each theorem's own hypotheses.
-/
import Derived.Test.YtlfghapllmaigaaGreatDoorK04
import Derived.Test.YtlfghapllmaigaaGreatDoorK02
import Std
import Derived.Test.YtlfghapllmaigaaGreatDoorK03
namespace Go.Proofs.YtlfghapllmaigaaGreatDoor
section
open Go.RowKit Go.Maps
theorem sl_int:SlT Tryz.prog 44 3 (.int .i64 0) 1 8:=⟨by kernel_rfl,by kernel_rfl,rfl⟩
theorem sl_ints:SlT Tryz.prog 213 44 (.slice none 0 0) 1 24:=⟨by kernel_rfl,by kernel_rfl,rfl⟩
theorem oper_make {P:Program} {w:World} {ops:Array Oper} {o:Oper} {a:Act} {K:Act→World→Prop} {Q:Exit→Act→World→Prop} (hgd:Region.wanted o (yielded ops a.tmps)=true) (t:TypeId) (x y:Operand) (ho:o.op=.makeSlice t x y)
  {e:TypeId} {z:Value} {bytes:Nat} (hT:SlT P t e z 1 bytes) (hzc:z.cells=#[z]) {n:Nat} (hx:a.eval x=.int .i64 (n:Int)) (hy:a.eval y=.int .i64 (n:Int)) (hb:bytes * n≤281474976710656) (h63:n≤9223372036854775807)
  (h:K (a.put o.dst (.slice (some ⟨w.heap.size,0,none⟩) n n)) (w.alloc (.cells (List.replicate n z).toArray e))):if Region.wanted o (yielded ops a.tmps)=true then Oper.wp P o a w K Q else K (a.put o.dst undef) w:=by
 rw [if_pos hgd]
 obtain ⟨i,hi,hz,hs,hby⟩:=info_parts hT.info
 have hbi:(i.bytes:Int) * (n:Int)≤281474976710656:=by
  rw [hby]
  have h2:((bytes * n:Nat):Int)≤281474976710656:=by omega
  rwa [Int.natCast_mul] at h2
 have hr:=run_make (P:=P) w t e i z hT.ht hi hz .i64 .i64 n n (by omega) (Int.le_refl _) hbi (by omega)
 rw [hs,hzc,Int.toNat_natCast,Nat.mul_one,madeCells_one] at hr
 unfold Oper.wp execOp
 simp only [ho,hx,hy,Sem.run_bind,hr,Result.andThen_ok,Sem.run_pure]
 exact h
theorem Blk.tne {w:World} {g g':Nat} {T T':TypeId} {cs cs':List Value} (h:Blk w g T cs) (h':Blk w g' T' cs') (hT:T≠T'):g≠g':=by
 rintro rfl
 unfold Blk at h h'
 rw [h] at h'
 simp only [Option.some.injEq,Obj.cells.injEq] at h'
 exact hT h'.2.1
def plainP (x y:AccP):Bool:=(decide (x.stamp<y.stamp)&&meetI x.writes y.writes)||(decide (x.stamp≤y.snap)&&meetI x.writes y.reads)
def antiP (x y:AccP):Bool:=decide (x.snap<y.stamp)&&meetI x.reads y.writes
def edgeI (hs:List AccP) (i j:Nat):Int :=
 if i=j∨(hs.getD i default).done=false∨(hs.getD j default).done=false then 0
 else (if plainP (hs.getD i default) (hs.getD j default)=true then 1 else 0)+(if antiP (hs.getD i default) (hs.getD j default)=true then 2 else 0)
def rowUp (hs:List AccP) (n i j:Nat):List Int:=(List.range n).map fun m=>if m<j then edgeI hs i m else 0
theorem rowUp_len (hs:List AccP) (n i j:Nat):(rowUp hs n i j).length=n:=by simp [rowUp]
theorem rowUp_zero (hs:List AccP) (n i:Nat):rowUp hs n i 0=List.replicate n 0:=by
 unfold rowUp
 apply List.ext_getElem (by simp)
 intro k h1 h2
 simp
theorem rowUp_at {hs:List AccP} {n i j k:Nat} (hk:k<n):(rowUp hs n i j)[k]?=some (if k<j then edgeI hs i k else 0):=by
 unfold rowUp
 rw [List.getElem?_map,List.getElem?_range hk];rfl
theorem rowUp_set {hs:List AccP} {n i j:Nat} (hj:j<n) {v:Int} (hv:edgeI hs i j=v) (l:List Int) (hl:l=rowUp hs n i j∨∃u,l=(rowUp hs n i j).set j u):l.set j v=rowUp hs n i (j+1):=by
 apply List.ext_getElem?
 intro k
 by_cases hk:k<n
 ·rw [List.getElem?_set,rowUp_at hk]
  have hll:l.length=n:=by rcases hl with rfl | ⟨u,rfl⟩<;>simp [rowUp_len]
  by_cases e:j=k
  ·subst e;rw [if_pos rfl,if_pos (by omega),if_pos (by omega),hv]
  ·rw [if_neg e]
   have:l[k]?=(rowUp hs n i j)[k]?:=by
    rcases hl with rfl | ⟨u,rfl⟩
    ·rfl
    ·rw [List.getElem?_set,if_neg e]
   rw [this,rowUp_at hk]
   by_cases h:k<j
   ·rw [if_pos h,if_pos (by omega)]
   ·rw [if_neg h,if_neg (by omega)]
 ·have hll:l.length=n:=by rcases hl with rfl | ⟨u,rfl⟩<;>simp [rowUp_len]
  rw [List.getElem?_eq_none (by simp;omega),List.getElem?_eq_none (by rw [rowUp_len];omega)]
theorem rowUp_skip {hs:List AccP} {n i j:Nat} (hv:edgeI hs i j=0):rowUp hs n i j=rowUp hs n i (j+1):=by
 apply List.ext_getElem?
 intro k
 by_cases hk:k<n
 ·rw [rowUp_at hk,rowUp_at hk]
  by_cases h:k<j
  ·rw [if_pos h,if_pos (by omega)]
  ·rw [if_neg h]
   by_cases e:k=j
   ·subst e;rw [if_pos (by omega),hv]
   ·rw [if_neg (by omega)]
 ·rw [List.getElem?_eq_none (by rw [rowUp_len];omega),List.getElem?_eq_none (by rw [rowUp_len];omega)]
def rowV (n:Nat) (r:Nat):Value:=.slice (some ⟨r,0,none⟩) n n
structure GrUp (w wr:World) (g ge:Nat) (rs:List Nat) (a:Option Addr) (n c:Nat) (hs:List AccP) (i:Nat):Prop where
 gb:Blk wr g 215 [.slice a n c,.slice (some ⟨ge,0,none⟩) n n]
 eb:Blk wr ge 44 (rs.map (rowV n)++List.replicate (n - i) (.slice none 0 0))
 len:rs.length=i
 rows:∀j,j<i→Blk wr (rs.getD j 0) 3 (intVals (rowUp hs n j n))
 lo:w.heap.size≤g∧w.heap.size≤ge∧∀r∈rs,w.heap.size≤r
 below:Below w.heap.size w wr
theorem GrUp.step {w wr w':World} {g ge:Nat} {rs:List Nat} {a:Option Addr} {n c:Nat} {hs:List AccP} {i:Nat} (h:GrUp w wr g ge rs a n c hs i) (hb:Below wr.heap.size wr w'):GrUp w w' g ge rs a n c hs i :=
 ⟨h.gb.below hb (Nat.le_refl _),h.eb.below hb (Nat.le_refl _),h.len,fun j hj=>(h.rows j hj).below hb (Nat.le_refl _),h.lo,h.below.trans (hb.mono h.below.size)⟩
structure GrIn (w wr:World) (g ge:Nat) (rs:List Nat) (ri:Nat) (a:Option Addr) (n c:Nat) (hs:List AccP) (i:Nat) (l:List Int):Prop where
 gb:Blk wr g 215 [.slice a n c,.slice (some ⟨ge,0,none⟩) n n]
 eb:Blk wr ge 44 ((rs++[ri]).map (rowV n)++List.replicate (n - (i+1)) (.slice none 0 0))
 len:rs.length=i
 rows:∀j,j<i→Blk wr (rs.getD j 0) 3 (intVals (rowUp hs n j n))
 cur:Blk wr ri 3 (intVals l)
 ne:∀j,j<i→rs.getD j 0≠ri
 lo:w.heap.size≤g∧w.heap.size≤ge∧w.heap.size≤ri∧∀r∈rs,w.heap.size≤r
 below:Below w.heap.size w wr
theorem GrIn.step {w wr w':World} {g ge:Nat} {rs:List Nat} {ri:Nat} {a:Option Addr} {n c:Nat} {hs:List AccP} {i:Nat} {l:List Int} (h:GrIn w wr g ge rs ri a n c hs i l) (hb:Below wr.heap.size wr w'):GrIn w w' g ge rs ri a n c hs i l :=
 ⟨h.gb.below hb (Nat.le_refl _),h.eb.below hb (Nat.le_refl _),h.len,fun j hj=>(h.rows j hj).below hb (Nat.le_refl _),h.cur.below hb (Nat.le_refl _),h.ne,h.lo,h.below.trans (hb.mono h.below.size)⟩
theorem GrIn.set {w wr:World} {g ge:Nat} {rs:List Nat} {ri:Nat} {a:Option Addr} {n c:Nat} {hs:List AccP} {i:Nat} {l:List Int} (h:GrIn w wr g ge rs ri a n c hs i l) (j:Nat) (v:Int):GrIn w (wr.setCell ⟨ri,j,none⟩ (.int .i64 v)) g ge rs ri a n c hs i (l.set j v) :=
 ⟨h.gb.other (h.gb.tne h.cur (by decide)) _,h.eb.other (h.eb.tne h.cur (by decide)) _,h.len,fun k hk=>(h.rows k hk).other (h.ne k hk) _,by have:=h.cur.set j (.int .i64 v);unfold intVals;rw [List.map_set];exact this,h.ne,h.lo,
  ((But.ofBelow (F:=[]) h.below).setCell (p:=⟨ri,j,none⟩) (.inr h.lo.2.2.1) _).toBelow (Nat.le_refl _) (by simp)⟩
theorem GrIn.done {w wr:World} {g ge:Nat} {rs:List Nat} {ri:Nat} {a:Option Addr} {n c:Nat} {hs:List AccP} {i:Nat} (h:GrIn w wr g ge rs ri a n c hs i (rowUp hs n i n)):GrUp w wr g ge (rs++[ri]) a n c hs (i+1) :=
 ⟨h.gb,h.eb,by rw [List.length_append,h.len];rfl,fun j hj=>by
  by_cases e:j=i
  ·subst e;rw [List.getD_eq_getElem?_getD,List.getElem?_append_right (by rw [h.len];exact Nat.le_refl _),h.len];simpa using h.cur
  ·have:=h.rows j (by omega)
   rw [List.getD_eq_getElem?_getD] at this ⊢
   rw [List.getElem?_append_left (by rw [h.len];omega)];exact this,⟨h.lo.1,h.lo.2.1,fun r hr=>by
  rcases List.mem_append.1 hr with hr | hr
  ·exact h.lo.2.2.2 r hr
  ·have:r=ri:=by simpa using hr
   subst this;exact h.lo.2.2.1⟩,h.below⟩
theorem GrUp.row {w wd:World} {g ge:Nat} {rs:List Nat} {a:Option Addr} {n c:Nat} {hs:List AccP} {i:Nat} (h:GrUp w wd g ge rs a n c hs i) (hi:i<n) :
  GrIn w ((wd.alloc (.cells (List.replicate n (.int .i64 0)).toArray 3)).setRow ge (splice (rs.map (rowV n)++List.replicate (n - i) (.slice none 0 0)) i [.slice (some ⟨wd.heap.size,0,none⟩) n n]).toArray) g ge rs wd.heap.size a n c hs i (rowUp hs n i 0):=by
 have h1:=h.step ((Below.refl wd.heap.size wd).new (Nat.le_refl _) (.cells (List.replicate n (.int .i64 0)).toArray 3))
 have hcur:Blk (wd.alloc (.cells (List.replicate n (.int .i64 0)).toArray 3)) wd.heap.size 3 (intVals (rowUp hs n i 0)):=Blk.new rfl (by rw [rowUp_zero];simp [intVals])
 have hg:=h.gb.lt
 have he:=h.eb.lt
 have hsz:=h.below.size
 refine ⟨h1.gb.rowOther (h1.gb.tne h1.eb (by decide)) _,?_,h.len,fun j hj=>(h1.rows j hj).rowOther ((h1.rows j hj).tne h1.eb (by decide)) _,hcur.rowOther (hcur.tne h1.eb (by decide)) _,fun j hj=>by have:=(h.rows j hj).lt;omega,⟨h.lo.1,h.lo.2.1,hsz,h.lo.2.2⟩,?_⟩
 ·have h2:=h1.eb.row (splice (rs.map (rowV n)++List.replicate (n - i) (.slice none 0 0)) i [.slice (some ⟨wd.heap.size,0,none⟩) n n])
  have e:splice (rs.map (rowV n)++List.replicate (n - i) (.slice none 0 0)) i [.slice (some ⟨wd.heap.size,0,none⟩) n n]=(rs++[wd.heap.size]).map (rowV n)++List.replicate (n - (i+1)) (.slice none 0 0):=by
   have hl:(rs.map (rowV n)).length=i:=by simp [h.len]
   unfold splice
   rw [List.take_append_of_le_length (by omega),List.take_of_length_le (by omega),List.drop_append,List.drop_of_length_le (by rw [hl];exact Nat.le_add_right _ _),hl]
   simp only [List.length_singleton,List.nil_append,List.map_append,List.map_cons,List.map_nil,List.drop_replicate]
   rw [show n - i - (i+1 - i)=n - (i+1) by omega,List.append_assoc];rfl
  rw [e] at h2
  rw [e]
  exact h2
 ·exact ((But.ofBelow (F:=[]) h1.below).setRow (g:=ge) (.inr h.lo.2.1) _).toBelow (Nat.le_refl _) (by simp)
structure GrRd (w:World) (g:Nat) (a:Option Addr) (n c:Nat) (hs:List AccP):Prop where
 ex:∃ (ge:Nat) (rs:List Nat),Blk w g 215 [.slice a n c,.slice (some ⟨ge,0,none⟩) n n]∧Blk w ge 44 (rs.map (rowV n))∧rs.length=n∧∀j,j<n→Blk w (rs.getD j 0) 3 (intVals (rowUp hs n j n))
theorem GrRd.below {w w':World} {g:Nat} {a:Option Addr} {n c:Nat} {hs:List AccP} (h:GrRd w g a n c hs) (hb:Below w.heap.size w w'):GrRd w' g a n c hs:=by
 obtain ⟨ge,rs,h1,h2,h3,h4⟩:=h.ex
 exact ⟨ge,rs,h1.below hb (Nat.le_refl _),h2.below hb (Nat.le_refl _),h3,fun j hj=>(h4 j hj).below hb (Nat.le_refl _)⟩
theorem GrRd.edge {w:World} {g:Nat} {a:Option Addr} {n c:Nat} {hs:List AccP} (h:GrRd w g a n c hs) {i j:Nat} (hi:i<n) (hj:j<n):∃ge r,w.cell? ⟨g,0,none⟩=some (.slice a n c)∧w.cell? ⟨g,1,none⟩=some (.slice (some ⟨ge,0,none⟩) n n) ∧
  w.cell? ⟨ge,i,none⟩=some (.slice (some ⟨r,0,none⟩) n n)∧w.cell? ⟨r,j,none⟩=some (.int .i64 (edgeI hs i j)):=by
 obtain ⟨ge,rs,h1,h2,h3,h4⟩:=h.ex
 refine ⟨ge,rs.getD i 0,h1.cellOf rfl,h1.cellOf rfl,h2.cellOf ?_,(h4 i hi).cellOf ?_⟩
 ·rw [List.getElem?_map,List.getD_eq_getElem?_getD,List.getElem?_eq_getElem (by omega)];rfl
 ·unfold intVals
  rw [List.getElem?_map,rowUp_at hj,if_pos hj];rfl
theorem SetM.ne {P:Program} {k e:TypeId} {w:World} {b g:Nat} {ks:List Int} {T:TypeId} {cs:List Value} (h:SetM P k e w b ks) (h':Blk w g T cs):b≠g:=by
 rintro rfl
 obtain ⟨_,D,⟨es,clock,hb,_⟩,_⟩:=h
 unfold Blk at h'
 rw [hb] at h'
 cases h'
structure InY (w wx:World) (g ge:Nat) (rs:List Nat) (ri:Nat) (a:Option Addr) (n c:Nat) (hs:List AccP) (i:Nat) (l:List Int) (gx b1 b2:Nat) (x:AccP):Prop where
 G:GrIn w wx g ge rs ri a n c hs i l
 kx:Blk wx gx 102 x.cs
 s1:SetM Tryz.prog 3 4 wx b1 x.reads
 s2:SetM Tryz.prog 3 4 wx b2 x.writes
theorem InY.step {w wx w':World} {g ge:Nat} {rs:List Nat} {ri:Nat} {a:Option Addr} {n c:Nat} {hs:List AccP} {i:Nat} {l:List Int} {gx b1 b2:Nat} {x:AccP} (h:InY w wx g ge rs ri a n c hs i l gx b1 b2 x) (hb:Below wx.heap.size wx w'):InY w w' g ge rs ri a n c hs i l gx b1 b2 x :=
 ⟨h.G.step hb,h.kx.below hb (Nat.le_refl _),h.s1.eq (hb.block _ h.s1.lt),h.s2.eq (hb.block _ h.s2.lt)⟩
theorem InY.set {w wx:World} {g ge:Nat} {rs:List Nat} {ri:Nat} {a:Option Addr} {n c:Nat} {hs:List AccP} {i:Nat} {l:List Int} {gx b1 b2:Nat} {x:AccP} (h:InY w wx g ge rs ri a n c hs i l gx b1 b2 x) (j:Nat) (v:Int):InY w (wx.setCell ⟨ri,j,none⟩ (.int .i64 v)) g ge rs ri a n c hs i (l.set j v) gx b1 b2 x :=
 ⟨h.G.set j v,h.kx.other (h.kx.tne h.G.cur (by decide)) _,h.s1.eq (Below.heap_setCell _ _ _ _ (h.s1.ne h.G.cur)),h.s2.eq (Below.heap_setCell _ _ _ _ (h.s2.ne h.G.cur))⟩
theorem edgeI_no {hs:List AccP} {i j:Nat} (h:i=j∨(hs.getD i default).done=false∨(hs.getD j default).done=false):edgeI hs i j=0:=by unfold edgeI;rw [if_pos h]
theorem edgeI_is {hs:List AccP} {i j:Nat} {x y:AccP} (hx:hs.getD i default=x) (hy:hs.getD j default=y) (hij:i≠j) (h1:x.done=true) (h2:y.done=true) {p q:Bool} (hp:plainP x y=p) (hq:antiP x y=q):edgeI hs i j=(if p=true then 1 else 0)+(if q=true then 2 else 0):=by
 unfold edgeI
 rw [hx,hy,if_neg (by rw [h1,h2];simp [hij]),hp,hq]
theorem GrIn.cells {w wx:World} {g ge:Nat} {rs:List Nat} {ri:Nat} {a:Option Addr} {n c:Nat} {hs:List AccP} {i:Nat} {l:List Int} (h:GrIn w wx g ge rs ri a n c hs i l) {j:Nat} {v:Int} (hv:l[j]?=some v) :
  wx.cell? ⟨g,1,none⟩=some (.slice (some ⟨ge,0,none⟩) n n)∧wx.cell? ⟨ge,i,none⟩=some (.slice (some ⟨ri,0,none⟩) n n)∧wx.cell? ⟨ri,j,none⟩=some (.int .i64 v)∧wx.frozen? ⟨ri,j,none⟩=false:=by
 refine ⟨h.gb.cellOf rfl,h.eb.cellOf ?_,h.cur.cellOf ?_,h.cur.free j⟩
 ·have hl:((rs++[ri]).map (rowV n)).length=i+1:=by simp [h.len]
  rw [List.getElem?_append_left (by omega),List.getElem?_map,List.getElem?_append_right (by rw [h.len];exact Nat.le_refl _),h.len]
  simp [rowV]
 ·unfold intVals;rw [List.getElem?_map,hv];rfl
end
section
structure Acc where
 mode:Nat
 snap:Nat
 done:Bool
 stamp:Nat
 reads:List Nat
 writes:List Nat
 deriving Inhabited,DecidableEq
def meetsL (a b:List Nat):Bool:=b.any fun x=>decide (x∈a)
theorem meetsL_iff {a b:List Nat}:meetsL a b=true↔∃x,x∈a∧x∈b:=by
 unfold meetsL
 rw [List.any_eq_true]
 constructor
 ·rintro ⟨x,h1,h2⟩;exact ⟨x,of_decide_eq_true h2,h1⟩
 ·rintro ⟨x,h1,h2⟩;exact ⟨x,h2,decide_eq_true h1⟩
def Acc.writer (x:Acc):Bool:=x.done&&!x.writes.isEmpty
def plainB (x y:Acc):Bool:=(decide (x.stamp<y.stamp)&&meetsL x.writes y.writes)||(decide (x.stamp≤y.snap)&&meetsL x.writes y.reads)
def antiB (x y:Acc):Bool:=decide (x.snap<y.stamp)&&meetsL x.reads y.writes
structure AccOk (h:List Acc):Prop where
 wr:∀x∈h,x.done=true→x.writes≠[]→x.snap<x.stamp
 rd:∀x∈h,x.done=true→x.writes=[]→x.stamp=0
 ne:∀i j,i<h.length→j<h.length→i≠j→(h.getD i default).done=true→(h.getD j default).done=true→(h.getD i default).writes≠[]→(h.getD j default).writes≠[]→(h.getD i default).stamp≠(h.getD j default).stamp
 cc:∀i j,i<h.length→j<h.length→i≠j→(h.getD i default).done=true→(h.getD j default).done=true→meetsL (h.getD i default).writes (h.getD j default).writes=true→(h.getD i default).snap<(h.getD j default).stamp→¬ (h.getD j default).snap<(h.getD i default).stamp
def edgeB (h:List Acc) (i j:Nat):Bool:=decide (i≠j)&&(h.getD i default).done&&(h.getD j default).done&&(plainB (h.getD i default) (h.getD j default)||antiB (h.getD i default) (h.getD j default))
def antiE (h:List Acc) (i j:Nat):Bool:=decide (i≠j)&&(h.getD i default).done&&(h.getD j default).done&&antiB (h.getD i default) (h.getD j default)
def dangB (h:List Acc) (a b c:Nat):Bool :=
 antiE h a b&&antiE h b c&&decide ((h.getD c default).stamp<(h.getD b default).stamp) &&
  (decide (a=c)||((h.getD a default).writer&&decide ((h.getD c default).stamp<(h.getD a default).stamp))||(!(h.getD a default).writer&&decide ((h.getD c default).stamp≤(h.getD a default).snap)))
theorem meetsL_ne {a b:List Nat} (h:meetsL a b=true):a≠[]∧b≠[]:=by
 obtain ⟨x,h1,h2⟩:=meetsL_iff.1 h
 exact ⟨List.ne_nil_of_mem h1,List.ne_nil_of_mem h2⟩
theorem writer_iff {x:Acc} (hd:x.done=true):x.writer=true↔x.writes≠[]:=by
 unfold Acc.writer
 rw [hd,Bool.true_and]
 cases x.writes<;>simp
theorem exists_least {P:Nat→Prop} (f:Nat→Nat) {i:Nat} (hi:P i):∃c,P c∧∀j,P j→f c≤f j:=by
 have key:∀n i,P i→f i=n→∃c,P c∧∀j,P j→f c≤f j:=by
  intro n
  induction n using Nat.strongRecOn with
  | _ n ih =>
   intro i hi hn
   by_cases h:∃j,P j∧f j<f i
   ·obtain ⟨j,hj,hlt⟩:=h
    exact ih (f j) (by omega) j hj rfl
   ·exact ⟨i,hi,fun j hj=>Nat.le_of_not_lt fun hlt=>h ⟨j,hj,hlt⟩⟩
 exact key _ i hi rfl
theorem ssi {h:List Acc} (ok:AccOk h) (nd:∀a b c,a<h.length→b<h.length→c<h.length→dangB h a b c=false) {R:Nat→Prop} (hR:∀j,R j→j<h.length∧(h.getD j default).done=true∧∃i,R i∧edgeB h i j=true) {j0:Nat} (h0:R j0):False:=by
 have mem:∀ {i},i<h.length→h.getD i default∈h:=fun {i} hi=>by
  rw [List.getD_eq_getElem?_getD,List.getElem?_eq_getElem hi];exact List.getElem_mem hi
 -- what an edge says
 have eg:∀ {i j},edgeB h i j=true→i≠j∧(h.getD i default).done=true∧(h.getD j default).done=true∧(plainB (h.getD i default) (h.getD j default)=true∨antiB (h.getD i default) (h.getD j default)=true):=by
  intro i j he
  unfold edgeB at he
  simp only [Bool.and_eq_true,Bool.or_eq_true,decide_eq_true_eq] at he
  exact ⟨he.1.1.1,he.1.1.2,he.1.2,he.2⟩
 -- a plain edge into j leaves from a writer whose stamp is in the snapshot of j,or less than its stamp
 have pl:∀ {i j},i<h.length→j<h.length→edgeB h i j=true→plainB (h.getD i default) (h.getD j default)=true→(h.getD i default).writes≠[]∧(h.getD i default).stamp≤(h.getD j default).snap:=by
  intro i j hi hj he hp
  obtain ⟨hne,hd1,hd2,_⟩:=eg he
  unfold plainB at hp
  rw [Bool.or_eq_true,Bool.and_eq_true,Bool.and_eq_true,decide_eq_true_eq,decide_eq_true_eq] at hp
  rcases hp with ⟨h1,h2⟩ | ⟨h1,h2⟩
  ·refine ⟨(meetsL_ne h2).1,?_⟩
   have hw:=ok.wr _ (mem hi) hd1 (meetsL_ne h2).1
   have:=ok.cc i j hi hj hne hd1 hd2 h2 (by omega)
   omega
  ·exact ⟨(meetsL_ne h2).1,h1⟩
 -- a writer in R
 obtain ⟨hj0,hdj0,i0,hi0,he0⟩:=hR j0 h0
 obtain ⟨hi0l,hi0d,_⟩:=hR i0 hi0
 obtain ⟨w0,hw0,hw0w⟩:∃w,R w∧(h.getD w default).writes≠[]:=by
  obtain ⟨_,_,_,hpa⟩:=eg he0
  rcases hpa with hp | ha
  ·exact ⟨i0,hi0,(pl hi0l hj0 he0 hp).1⟩
  ·unfold antiB at ha
   rw [Bool.and_eq_true] at ha
   exact ⟨j0,h0,(meetsL_ne ha.2).2⟩
 obtain ⟨c,⟨hcR,hcw⟩,hmin⟩:=exists_least (P:=fun w=>R w∧(h.getD w default).writes≠[]) (fun w=>(h.getD w default).stamp) ⟨hw0,hw0w⟩
 obtain ⟨hcl,hcd,b,hbR,hbc⟩:=hR c hcR
 obtain ⟨hbl,hbd,a,haR,hab⟩:=hR b hbR
 obtain ⟨hal,had,d,hdR,hda⟩:=hR a haR
 obtain ⟨hdl,hdd,_⟩:=hR d hdR
 have hcs:=ok.wr _ (mem hcl) hcd hcw
 obtain ⟨hbcne,_,_,hbce⟩:=eg hbc
 have hbca:antiB (h.getD b default) (h.getD c default)=true:=by
  rcases hbce with hp | ha
  ·obtain ⟨h1,h2⟩:=pl hbl hcl hbc hp
   have:=hmin b ⟨hbR,h1⟩
   omega
  ·exact ha
 have hbs:(h.getD b default).snap<(h.getD c default).stamp:=by
  unfold antiB at hbca
  rw [Bool.and_eq_true,decide_eq_true_eq] at hbca
  exact hbca.1
 obtain ⟨habne,_,_,habe⟩:=eg hab
 have haba:antiB (h.getD a default) (h.getD b default)=true:=by
  rcases habe with hp | ha
  ·obtain ⟨h1,h2⟩:=pl hal hbl hab hp
   have:=hmin a ⟨haR,h1⟩
   omega
  ·exact ha
 have hbw:(h.getD b default).writes≠[]:=by
  unfold antiB at haba
  rw [Bool.and_eq_true] at haba
  exact (meetsL_ne haba.2).2
 have hcb:(h.getD c default).stamp<(h.getD b default).stamp:=by
  have h1:=hmin b ⟨hbR,hbw⟩
  have h2:=ok.ne b c hbl hcl hbcne hbd hcd hbw hcw
  omega
 have:=nd a b c hal hbl hcl
 unfold dangB antiE at this
 rw [haba,hbca,had,hbd,hcd,decide_eq_true habne,decide_eq_true hbcne,decide_eq_true hcb] at this
 simp only [Bool.and_true,Bool.true_and,Bool.or_eq_false_iff,decide_eq_false_iff_not] at this
 obtain ⟨⟨hac,h1⟩,h2⟩:=this
 by_cases haw:(h.getD a default).writes≠[]
 ·rw [(writer_iff had).2 haw,Bool.true_and,decide_eq_false_iff_not] at h1
  have h3:=hmin a ⟨haR,haw⟩
  have h4:=ok.ne a c hal hcl hac had hcd haw hcw
  omega
 ·have hwf:(h.getD a default).writer=false:=by
   cases hx:(h.getD a default).writer with
   | false=>rfl
   | true=>exact absurd ((writer_iff had).1 hx) haw
  rw [hwf,Bool.not_false,Bool.true_and,decide_eq_false_iff_not] at h2
  obtain ⟨_,_,_,hdae⟩:=eg hda
  rcases hdae with hp | ha
  ·obtain ⟨h5,h6⟩:=pl hdl hal hda hp
   have h7:=hmin d ⟨hdR,h5⟩
   omega
  ·unfold antiB at ha
   rw [Bool.and_eq_true] at ha
   exact haw (meetsL_ne ha.2).2
end
section
theorem kahn_step {h:List Acc} (ok:AccOk h) (nd:∀a b c,a<h.length→b<h.length→c<h.length→dangB h a b c=false) {L:List Nat} (hL:∀j∈L,j<h.length∧(h.getD j default).done=true) (hne:L≠[]):∃j∈L,∀i∈L,edgeB h i j=false:=by
 obtain ⟨j0,hj0⟩:=List.exists_mem_of_ne_nil L hne
 apply Classical.byContradiction
 intro hc
 refine ssi ok nd (R:=fun j=>j∈L) (fun j hj=>⟨(hL j hj).1,(hL j hj).2,?_⟩) hj0
 apply Classical.byContradiction
 intro hn
 refine hc ⟨j,hj,fun i hi=>?_⟩
 cases he:edgeB h i j with
 | false=>rfl
 | true=>exact absurd ⟨i,hi,he⟩ hn
abbrev NAcc:=Nat×Acc
def antiN (x y:NAcc):Bool:=decide (x.1≠y.1)&&x.2.done&&y.2.done&&antiB x.2 y.2
def dangN (x y z:NAcc):Bool :=
 antiN x y&&antiN y z&&decide (z.2.stamp<y.2.stamp)&&(decide (x.1=z.1)||(x.2.writer&&decide (z.2.stamp<x.2.stamp))||(!x.2.writer&&decide (z.2.stamp≤x.2.snap)))
def NoDang (l:List NAcc):Prop:=∀x∈l,∀y∈l,∀z∈l,dangN x y z=false
theorem NoDang.sub {l m:List NAcc} (h:NoDang m) (hs:∀x∈l,x∈m):NoDang l:=fun x hx y hy z hz=>h x (hs x hx) y (hs y hy) z (hs z hz)
theorem NoDang.idx {l:List NAcc} (h:NoDang l) (hd:(l.map (·.1)).Nodup):∀a b c,a<(l.map (·.2)).length→b<(l.map (·.2)).length→c<(l.map (·.2)).length→dangB (l.map (·.2)) a b c=false:=by
 intro a b c ha hb hc
 rw [List.length_map] at ha hb hc
 have hne:∀ {i j},(hi:i<l.length)→(hj:j<l.length)→(l[i].1=l[j].1↔i=j):=by
  intro i j hi hj
  constructor
  ·intro e
   have hp:=List.pairwise_iff_getElem.1 hd
   rcases Nat.lt_trichotomy i j with hlt | heq | hgt
   ·exact absurd (by rw [List.getElem_map,List.getElem_map];exact e) (hp i j (by simpa using hi) (by simpa using hj) hlt)
   ·exact heq
   ·exact absurd (by rw [List.getElem_map,List.getElem_map];exact e.symm) (hp j i (by simpa using hj) (by simpa using hi) hgt)
  ·rintro rfl;rfl
 have g:∀ {i},(hi:i<l.length)→(l.map (·.2)).getD i default=l[i].2:=by
  intro i hi
  rw [List.getD_eq_getElem?_getD,List.getElem?_eq_getElem (by simpa using hi)];simp
 have hh:=h l[a] (List.getElem_mem ha) l[b] (List.getElem_mem hb) l[c] (List.getElem_mem hc)
 unfold dangN antiN at hh
 unfold dangB antiE
 rw [g ha,g hb,g hc]
 have e1:decide (l[a].1≠l[b].1)=decide (a≠b):=by rw [decide_eq_decide];exact not_congr (hne ha hb)
 have e2:decide (l[b].1≠l[c].1)=decide (b≠c):=by rw [decide_eq_decide];exact not_congr (hne hb hc)
 have e3:decide (l[a].1=l[c].1)=decide (a=c):=by rw [decide_eq_decide];exact hne ha hc
 rw [e1,e2,e3] at hh
 exact hh
theorem NoDang.commit {l m:List NAcc} {x:NAcc} (h:NoDang l) (hm:∀y∈m,y=x∨y∈l) (hx:∀a∈m,∀b∈m,∀c∈m,(a.1=x.1∨b.1=x.1∨c.1=x.1)→dangN a b c=false):NoDang m:=by
 intro a ha b hb c hc
 by_cases e:a.1=x.1∨b.1=x.1∨c.1=x.1
 ·exact hx a ha b hb c hc e
 ·have hin:∀y∈m,y.1≠x.1→y∈l:=fun y hy hn=>(hm y hy).resolve_left (fun he=>hn (by rw [he]))
  exact h a (hin a ha (fun h=>e (.inl h))) b (hin b hb (fun h=>e (.inr (.inl h)))) c (hin c hc (fun h=>e (.inr (.inr h))))
theorem dangN_open {x y z:NAcc} (h:x.2.done=false∨y.2.done=false∨z.2.done=false):dangN x y z=false:=by
 unfold dangN antiN
 rcases h with h | h | h<;>rw [h]<;>simp
end
section
open Go.RowKit Go.Maps
theorem set_perm {α:Type}:∀ {l:List α} {i:Nat} {P Q:α},l[i]?=some P→(l.set i Q).Perm (Q::l.eraseIdx i)
 | [],i,P,Q,h=>by simp at h
 | R::l,0,P,Q,h=>by simp
 | R::l,i+1,P,Q,h=>by
  have ih:=set_perm (l:=l) (i:=i) (P:=P) (Q:=Q) (by simpa using h)
  simp only [List.set_cons_succ,List.eraseIdx_cons_succ]
  exact (ih.cons R).trans (List.Perm.swap Q R _)
theorem get_perm {α:Type} {l:List α} {i:Nat} {P:α} (h:l[i]?=some P):l.Perm (P::l.eraseIdx i):=by
 have:=set_perm (Q:=P) h
 rwa [show l.set i P=l from by
  apply List.ext_getElem?
  intro k
  rw [List.getElem?_set]
  split
  ·rename_i e;subst e;rw [h];simp;exact (List.getElem?_eq_some_iff.1 h).1
  ·rfl] at this
theorem Own.front {B:Nat} {w:World} {l:List HP} (O:Own B w l) (i:Nat) {P:HP} (hi:l[i]?=some P):Own B w (P::l.eraseIdx i):=O.perm (get_perm hi)
theorem Own.back {B:Nat} {w:World} {l:List HP} {i:Nat} {P Q:HP} (hi:l[i]?=some P) (O:Own B w (Q::l.eraseIdx i)):Own B w (l.set i Q):=O.perm (set_perm hi).symm
theorem Seps.app:∀ {m l:List HP} {w:World} {F:List Nat},Seps (m++l) w F↔∃F1 F2,Seps m w F1∧Seps l w F2∧(∀x∈F1,x∉F2)∧F=F1++F2
 | [],l,w,F=>⟨fun h=>⟨[],F,rfl,h,by simp,rfl⟩,fun ⟨F1,F2,h1,h2,_,hF⟩=>by unfold Seps at h1;subst h1;subst hF;exact h2⟩
 | P::m,l,w,F=>by
  constructor
  ·rintro ⟨G1,G2,h1,h2,h3,rfl⟩
   obtain ⟨F1,F2,k1,k2,k3,rfl⟩:=Seps.app.1 h2
   exact ⟨G1++F1,F2,⟨G1,F1,h1,k1,fun x hx hm=>h3 x hx (List.mem_append.2 (.inl hm)),rfl⟩,k2,fun x hx hm=>by
    rcases List.mem_append.1 hx with hx | hx
    ·exact h3 x hx (List.mem_append.2 (.inr hm))
    ·exact k3 x hx hm,by rw [List.append_assoc]⟩
  ·rintro ⟨F1,F2,⟨G1,G2,h1,h2,h3,rfl⟩,k2,k3,rfl⟩
   exact ⟨G1,G2++F2,h1,Seps.app.2 ⟨G2,F2,h2,k2,fun x hx=>k3 x (List.mem_append.2 (.inr hx)),rfl⟩,fun x hx hm=>by
    rcases List.mem_append.1 hm with hm | hm
    ·exact h3 x hx hm
    ·exact k3 x (List.mem_append.2 (.inl hx)) hm,by rw [List.append_assoc]⟩
theorem Seps.stb {m:List HP} (h:∀P∈m,Stb P):Stb (Seps m):=⟨fun _ _ hF=>Seps.lt h hF,fun _ _ _ hF he=>Seps.eq h hF he⟩
theorem Own.open_ {B:Nat} {w:World} {m l:List HP} (O:Own B w (Seps m::l)) (hm:∀P∈m,Stb P):Own B w (m++l):=by
 obtain ⟨h1,hs,F,⟨F1,F2,k1,k2,k3,rfl⟩,hB⟩:=O
 refine ⟨h1,fun P hP=>?_,F1++F2,Seps.app.2 ⟨F1,F2,k1,k2,k3,rfl⟩,hB⟩
 rcases List.mem_append.1 hP with h | h
 ·exact hm P h
 ·exact hs P (List.mem_cons_of_mem _ h)
theorem Own.shut {B:Nat} {w:World} {m l:List HP} (O:Own B w (m++l)):Own B w (Seps m::l):=by
 obtain ⟨h1,hs,F,hF,hB⟩:=O
 obtain ⟨F1,F2,k1,k2,k3,rfl⟩:=Seps.app.1 hF
 refine ⟨h1,fun P hP=>?_,F1++F2,⟨F1,F2,k1,k2,k3,rfl⟩,hB⟩
 rcases List.mem_cons.1 hP with h | h
 ·rw [h];exact Seps.stb fun P hP=>hs P (List.mem_append.2 (.inl hP))
 ·exact hs P (List.mem_append.2 (.inr h))
section
variable {α β:Type} {P:Program} {k e t:TypeId} {ek:α→Value} {ev:β→Value}
def MapO (P:Program) (k:TypeId) (ek:α→Value) (ev:β→Value) (b:Nat) (m:List (α×β)):HP:=fun w F=>MapT P k ek ev w b m∧F=[b]
theorem MapO.stb (b:Nat) (m:List (α×β)):Stb (MapO P k ek ev b m) :=
 ⟨fun w F ⟨h,hF⟩ x hx=>by subst hF;simp at hx;subst hx;exact h.lt,fun w w' F ⟨h,hF⟩ he=>⟨h.eq (he b (by simp [hF])),hF⟩⟩
def MapRO (P:Program) (k:TypeId) (ek:α→Value) (ev:β→Value) (b r:Nat) (m:List (α×β)) (S:List α):HP:=fun w F=>MapR P k ek ev w b r m S∧F=[b,r]
theorem MapRO.stb (b r:Nat) (m:List (α×β)) (S:List α):Stb (MapRO P k ek ev b r m S) :=
 ⟨fun w F ⟨h,hF⟩ x hx=>by
  subst hF;simp at hx
  rcases hx with rfl | rfl
  ·exact h.map.lt
  ·exact h.lt,fun w w' F ⟨h,hF⟩ he=>⟨h.eq (he b (by simp [hF])) (he r (by simp [hF])),hF⟩⟩
theorem Own.map {B:Nat} {w:World} {l:List HP} (O:Own B w l) (i:Nat) {b:Nat} {m:List (α×β)} (hi:l[i]?=some (MapO P k ek ev b m)):MapT P k ek ev w b m∧B≤b:=by
 obtain ⟨F,⟨h1,rfl⟩,h2⟩:=O.get i hi;exact ⟨h1,h2 b (by simp)⟩
theorem Own.mapR {B:Nat} {w:World} {l:List HP} (O:Own B w l) (i:Nat) {b r:Nat} {m:List (α×β)} {S:List α} (hi:l[i]?=some (MapRO P k ek ev b r m S)):MapR P k ek ev w b r m S:=by
 obtain ⟨F,⟨h1,rfl⟩,h2⟩:=O.get i hi;exact h1
theorem Own.newMap {B:Nat} {w:World} {l:List HP} (O:Own B w l):Own B (w.alloc (.map #[] 0)) (l++[MapO (α:=α) (β:=β) P k ek ev w.heap.size []]) :=
 O.more ((Below.refl _ _).alloc (Nat.le_refl _) _) (MapO.stb _ _) ⟨MapT.made w,rfl⟩ (by simp)
theorem Own.putMap [DecidableEq α] (K:Keyed P k) (hi:∀a a',ek a=ek a'→a=a') (ht:P.underlying t=some (.map k e)) {B:Nat} {w:World} {l:List HP} (O:Own B w l) (i:Nat) {b:Nat} {m:List (α×β)} (hi':l[i]?=some (MapO P k ek ev b m))
  {x:α} {kl:Lit} (hkey:keyOf P k (ek x)=some kl) (v:β) :
  ∃w',(Instr.mapUpdate t (.map (some b)) (ek x) (ev v)).run P w=.ok () w'∧Own B w' (l.set i (MapO P k ek ev b (putA m x v)))∧Below B w w'∧w.mapTurned w' b:=by
 obtain ⟨F,⟨h1,rfl⟩,h2,h3⟩:=O.turn i hi'
 obtain ⟨w',hr,hm,htu⟩:=h1.store K hi ht hkey v
 obtain ⟨h4,h5⟩:=h3 (MapO P k ek ev b (putA m x v)) w' [b] (MapO.stb _ _) ((But.refl [b] w).turned htu (.inl (by simp))) ⟨hm,rfl⟩ (fun x hx=>.inl hx)
 exact ⟨w',hr,h4,h5,htu⟩
theorem Own.delMap [DecidableEq α] (K:Keyed P k) (hi:∀a a',ek a=ek a'→a=a') (ht:P.underlying t=some (.map k e)) {B:Nat} {w:World} {l:List HP} (O:Own B w l) (i:Nat) {b:Nat} {m:List (α×β)} (hi':l[i]?=some (MapO P k ek ev b m))
  {x:α} {kl:Lit} (hkey:keyOf P k (ek x)=some kl) (ty:TypeId) :
  ∃w',(Builtin.delete_ #[t,k] ty #[.map (some b),ek x]).run P w=.ok (.tuple #[]) w'∧Own B w' (l.set i (MapO P k ek ev b (delA m x)))∧Below B w w'∧w.mapTurned w' b:=by
 obtain ⟨F,⟨h1,rfl⟩,h2,h3⟩:=O.turn i hi'
 obtain ⟨w',hr,hm,htu⟩:=h1.drop K hi ht hkey ty
 obtain ⟨h4,h5⟩:=h3 (MapO P k ek ev b (delA m x)) w' [b] (MapO.stb _ _) ((But.refl [b] w).turned htu (.inl (by simp))) ⟨hm,rfl⟩ (fun x hx=>.inl hx)
 exact ⟨w',hr,h4,h5,htu⟩
theorem Own.rangeM (ht:P.underlying t=some (.map k e)) {B:Nat} {w:World} {l:List HP} (O:Own B w l) (i:Nat) {b:Nat} {m:List (α×β)} (hi':l[i]?=some (MapO P k ek ev b m)) :
  ∃o,(Instr.range t (.map (some b))).run P w=.ok (.pointer (some ⟨w.heap.size,0,none⟩)) (w.alloc o)∧Own B (w.alloc o) (l.set i (MapRO P k ek ev b w.heap.size m []))∧Below B w (w.alloc o):=by
 obtain ⟨F,⟨h1,rfl⟩,h2,h3⟩:=O.turn i hi'
 obtain ⟨o,hr,hm⟩:=h1.range ht
 obtain ⟨h4,h5⟩:=h3 (MapRO P k ek ev b w.heap.size m []) (w.alloc o) [b,w.heap.size] (MapRO.stb _ _ _ _) ((But.refl [b] w).alloc o) ⟨hm,rfl⟩ (fun x hx=>by simp at hx;rcases hx with rfl | rfl<;>simp)
 exact ⟨o,hr,h4,h5⟩
theorem Own.unrange {B:Nat} {w:World} {l:List HP} (O:Own B w l) (i:Nat) {b r:Nat} {m:List (α×β)} {S:List α} (hi':l[i]?=some (MapRO P k ek ev b r m S)):Own B w (l.set i (MapO P k ek ev b m)):=by
 obtain ⟨F,⟨h1,rfl⟩,h2,h3⟩:=O.turn i hi'
 exact (h3 (MapO P k ek ev b m) w [b] (MapO.stb _ _) (But.refl _ w) ⟨h1.map,rfl⟩ (fun x hx=>.inl (by simp at hx;simp [hx]))).1
theorem Own.nextM (hi:∀a a',ek a=ek a'→a=a') {B:Nat} {w:World} {l:List HP} (O:Own B w l) (i:Nat) {b r:Nat} {m:List (α×β)} {S:List α} (hi':l[i]?=some (MapRO P k ek ev b r m S)) (ty:TypeId) :
  ((∀p∈m,p.1∈S)∧(Instr.next (.pointer (some ⟨r,0,none⟩)) false ty).run P w=.ok (.tuple #[.bool false]) w) ∨
  ∃x v w',(x,v)∈m∧x∉S∧(Instr.next (.pointer (some ⟨r,0,none⟩)) false ty).run P w=.ok (.tuple #[.bool true,ek x,ev v]) w'∧Own B w' (l.set i (MapRO P k ek ev b r m (x::S)))∧Below B w w'∧But [r] w w' ∧
   (Instr.entry (.pointer (some ⟨r,0,none⟩))).run P w'=.ok (.tuple #[ek x,ev v]) w':=by
 obtain ⟨F,⟨h1,rfl⟩,h2,h3⟩:=O.turn i hi'
 rcases h1.next hi ty with h | ⟨x,v,w',k1,k2,k3,k4,k5,k6,k7⟩
 ·exact .inl h
 ·obtain ⟨h4,h5⟩:=h3 (MapRO P k ek ev b r m (x::S)) w' [b,r] (MapRO.stb _ _ _ _) (k5.mono (fun x hx=>.inl (by simp at hx;simp [hx]))) ⟨k4,rfl⟩ (fun x hx=>.inl hx)
  exact .inr ⟨x,v,w',k1,k2,k3,h4,h5,k5,k7⟩
theorem Own.putR [DecidableEq α] (K:Keyed P k) (hi:∀a a',ek a=ek a'→a=a') (ht:P.underlying t=some (.map k e)) {B:Nat} {w:World} {l:List HP} (O:Own B w l) (i:Nat) {b r:Nat} {m:List (α×β)} {S:List α} (hi':l[i]?=some (MapRO P k ek ev b r m S))
  {x:α} (hx:x∈keysA m) {kl:Lit} (hkey:keyOf P k (ek x)=some kl) (v:β) :
  ∃w',(Instr.mapUpdate t (.map (some b)) (ek x) (ev v)).run P w=.ok () w'∧Own B w' (l.set i (MapRO P k ek ev b r (putA m x v) S))∧Below B w w':=by
 obtain ⟨F,⟨h1,rfl⟩,h2,h3⟩:=O.turn i hi'
 obtain ⟨w',hr,hm,htu⟩:=h1.store K hi ht hx hkey v
 obtain ⟨h4,h5⟩:=h3 (MapRO P k ek ev b r (putA m x v) S) w' [b,r] (MapRO.stb _ _ _ _) ((But.refl [b,r] w).turned htu (.inl (by simp))) ⟨hm,rfl⟩ (fun x hx=>.inl hx)
 exact ⟨w',hr,h4,h5⟩
end
theorem wpList_append_O {P:Program} {w:World} {ops:Array Oper} {rest:List Oper} {o:Oper} {a:Act} {Q:Exit→Act→World→Prop} (hgd:Region.wanted o (yielded ops a.tmps)=true) (s x:Operand) (t tx:TypeId)
  (ho:o.op=.call { callee:=.builtin .append,args:=#[s,x],argTypes:=#[t,tx] })
  {e:TypeId} {z:Value} {size bytes:Nat} (hT:SlT P t e z size bytes) (htx:P.underlying tx=some (.slice e)∨P.underlying tx=some .string)
  {B:Nat} {l:List HP} (O:Own B w l) (i:Nat) {a0:Option Addr} {n cap:Nat} {xs:List Value} (hi:l[i]?=some (RowP e size a0 n cap xs)) (hs:a.eval s=.slice a0 n cap)
  {xv:Value} {m:Nat} {news:List Value} (hx:a.eval x=xv) (hsrc:Src P w xv m size news)
  (hbytes:(n+m) * bytes≤140737488355328) (h63:n+m≤maxLen)
  (h:∀a' cap' w',Own B w' (l.set i (RowP e size a' (n+m) cap' (xs++news)))→Below B w w'→wpList P ops Q rest (a.put o.dst (.slice a' (n+m) cap')) w'):wpList P ops Q (o::rest) a w :=
 wpList_append_src hgd s x t tx ho hT htx hs (O.row i hi) hx hsrc hbytes h63 (Nat.zero_le _) fun a' cap' w' h1 h2 h3=>by
  obtain ⟨h4,h5⟩:=O.grown i hi h1 h2 h3
  exact h a' cap' w' h4 h5
theorem oper_append_O {P:Program} {w:World} {ops:Array Oper} {o:Oper} {a:Act} {K:Act→World→Prop} {Q:Exit→Act→World→Prop} (hgd:Region.wanted o (yielded ops a.tmps)=true) (s x:Operand) (t tx:TypeId)
  (ho:o.op=.call { callee:=.builtin .append,args:=#[s,x],argTypes:=#[t,tx] })
  {e:TypeId} {z:Value} {size bytes:Nat} (hT:SlT P t e z size bytes) (htx:P.underlying tx=some (.slice e)∨P.underlying tx=some .string)
  {B:Nat} {l:List HP} (O:Own B w l) (i:Nat) {a0:Option Addr} {n cap:Nat} {xs:List Value} (hi:l[i]?=some (RowP e size a0 n cap xs)) (hs:a.eval s=.slice a0 n cap)
  {xv:Value} {m:Nat} {news:List Value} (hx:a.eval x=xv) (hsrc:Src P w xv m size news)
  (hbytes:(n+m) * bytes≤140737488355328) (h63:n+m≤maxLen)
  (h:∀a' cap' w',Own B w' (l.set i (RowP e size a' (n+m) cap' (xs++news)))→Below B w w'→K (a.put o.dst (.slice a' (n+m) cap')) w') :
  if Region.wanted o (yielded ops a.tmps)=true then Oper.wp P o a w K Q else K (a.put o.dst undef) w :=
 oper_append2 hgd s x t tx ho hT htx hs (O.row i hi) hx hsrc hbytes h63 (Nat.zero_le _) fun a' cap' w' h1 h2 h3=>by
  obtain ⟨h4,h5⟩:=O.grown i hi h1 h2 h3
  exact h a' cap' w' h4 h5
end
end Go.Proofs.YtlfghapllmaigaaGreatDoor
