/-
  Cutting an own row, clearing its tail; the walks of IndexFunc at []*txn, DeleteFunc at []*txn and []int; The transactions as an object that may be changed; the walks of get, Snap, Shown, add at rows, Index; forget's closure. Conditions: each theorem's own hypotheses.
-/
import Derived.Lib.SliceRun
import Derived.Test.YtlfghapllmaigaaGreatDoorK14
import Derived.Test.YtlfghapllmaigaaGreatDoorK15
set_option linter.unusedVariables false
set_option linter.unusedSimpArgs false
namespace Go.Proofs.YtlfghapllmaigaaGreatDoor
section
open Go.RowKit Go.Maps
theorem ptAt {w:World} {a:Option Addr} {n cap:Nat} {zs:List TnP} (h:Rd w a n cap 1 (zs.map ptrT)) (k:Nat) (hk:k<n):∃b off,a=some ⟨b,off,none⟩∧w.cell? ⟨b,off+k,none⟩=some (ptrT (zs.getD k default)):=by
 have hl:zs.length=n:=by have:=h.hlen;simpa using this
 obtain ⟨b,off,ha,hc⟩:=h.at k hk
 refine ⟨b,off,ha,?_⟩
 have hkz:k<zs.length:=by omega
 rw [hc k (by simpa using hkz),List.getElem_map,List.getD_eq_getElem?_getD,List.getElem?_eq_getElem hkz];rfl
theorem inAt {w:World} {a:Option Addr} {n cap:Nat} {zs:List Int} (h:Rd w a n cap 1 (zs.map intV)) (k:Nat) (hk:k<n):∃b off,a=some ⟨b,off,none⟩∧w.cell? ⟨b,off+k,none⟩=some (intV (zs.getD k default)):=by
 have hl:zs.length=n:=by have:=h.hlen;simpa using this
 obtain ⟨b,off,ha,hc⟩:=h.at k hk
 refine ⟨b,off,ha,?_⟩
 have hkz:k<zs.length:=by omega
 rw [hc k (by simpa using hkz),List.getElem_map,List.getD_eq_getElem?_getD,List.getElem?_eq_getElem hkz];rfl
theorem run_clear_blk {P:Program} {t e ty:TypeId} {z:Value} (ht:P.underlying t=some (.slice e)) (hv:∀w,(zeroValue e).run P w=.ok z w) (hz:z.cells=#[z]) (h1:z.oneCell'=true) {w:World} {g o n c:Nat} {T:TypeId} {cur:List Value} (hb:Blk w g T cur) (hn:0<n) (hle:o+n≤cur.length) :
  (Builtin.clear_ #[t] ty #[.slice (some ⟨g,o,none⟩) n c]).run P w=.ok (.tuple #[]) (w.setRow g (splice cur o (List.replicate n z)).toArray):=by
 have hzc:(Builtin.zeroCells z.cells n).toList=List.replicate n z:=by
  rw [hz]
  simp [Builtin.zeroCells]
  apply List.ext_getElem
  ·simp
  ·intro i h1 h2
   simp [Nat.mod_one]
 have hst:=run_storeCells_at P g o T (List.replicate n z) 0 cur.toArray w hb (by simp;omega) (by intro v hv';rw [List.eq_of_mem_replicate hv'];exact h1)
 simp only [Nat.add_zero,List.append_assoc] at hst
 obtain ⟨m,rfl⟩:∃m,n=m+1:=⟨n - 1,by omega⟩
 simp [Builtin.clear_,run_underlying ht,hv,hzc,hst,splice]
theorem own_cut {w:World} {base e size n i:Nat} {a:Option Addr} {cap:Nat} {xs:List Value} (h:w.ownsRow base e size (.slice a n cap) n xs) (hi:i≤n):w.ownsRow base e size (.slice a i cap) i (xs.take (i * size)):=by
 have hl:=h.1
 have hm:i * size≤n * size:=Nat.mul_le_mul_right _ hi
 refine ⟨by rw [List.length_take,hl];omega,?_⟩
 rcases h.2 with ⟨h',h0⟩ | ⟨g',cap',cur,h',hb,hg,hnc,hcm,hcs,htake⟩
 ·simp only [Value.slice.injEq] at h'
  obtain ⟨rfl,_,rfl⟩:=h'
  exact .inl ⟨by rw [show i=0 by omega],by omega⟩
 ·simp only [Value.slice.injEq] at h'
  obtain ⟨rfl,_,rfl⟩:=h'
  exact .inr ⟨g',cap,cur,rfl,hb,hg,by omega,hcm,hcs,by rw [← htake,List.take_take,show min (i * size) (n * size)=i * size by omega]⟩
theorem Own.cut {B:Nat} {w:World} {l:List HP} (O:Own B w l) (k:Nat) {e:TypeId} {size:Nat} {a:Option Addr} {n cap:Nat} {xs:List Value} (hi:l[k]?=some (RowP e size a n cap xs)) {i:Nat} (hn:i≤n):Own B w (l.set k (RowP e size a i cap (xs.take (i * size)))):=by
 obtain ⟨F,⟨h1,hF⟩,h2,h3⟩:=O.turn k hi
 exact (h3 (RowP e size a i cap (xs.take (i * size))) w F (RowP.stb _ _ _ _ _ _) (But.refl _ _) ⟨own_cut h1 hn,by rw [hF];cases a<;>rfl⟩ (fun x hx=>.inl hx)).1
theorem Own.storeN {B:Nat} {w:World} {l:List HP} (O:Own B w l) (k:Nat) {e:TypeId} {size:Nat} {g:Nat} {n cap:Nat} {xs:List Value} (hi:l[k]?=some (RowP e size (some ⟨g,0,none⟩) n cap xs)) (off:Nat) (cs:List Value) (hoff:off+cs.length≤xs.length) :
  ∃cur,Blk w g e cur∧off+cs.length≤cur.length∧Own B (w.setRow g (splice cur off cs).toArray) (l.set k (RowP e size (some ⟨g,0,none⟩) n cap (splice xs off cs)))∧Below B w (w.setRow g (splice cur off cs).toArray):=by
 obtain ⟨F,⟨h1,hF⟩,h2,h3⟩:=O.turn k hi
 obtain ⟨cur,hb,hl,ho,hg⟩:=own_storeN h1 off cs hoff
 obtain ⟨h4,h5⟩:=h3 (RowP e size (some ⟨g,0,none⟩) n cap (splice xs off cs)) (w.setRow g (splice cur off cs).toArray) F (RowP.stb _ _ _ _ _ _) ((But.refl F w).setRow (.inl (by rw [hF];simp [Value.ownBlock])) _) ⟨ho,hF⟩ (fun x hx=>.inl hx)
 exact ⟨cur,hb,hl,h4,h5⟩
section
variable {α:Type} [Inhabited α] {p:α→Bool}
structure DelI (p:α→Bool) (ts ys:List α) (i j:Nat):Prop where
 len:ys.length=ts.length
 fr:ys.take i=(ts.take j).filter fun x=>!p x
 bk:ys.drop j=ts.drop j
 lt:i<j
theorem DelI.at {ts ys:List α} {i j:Nat} (h:DelI p ts ys i j) (_:j<ts.length):ys.getD j default=ts.getD j default:=by
 have h1:(ys.drop j)[0]?=(ts.drop j)[0]?:=by rw [h.bk]
 rw [List.getElem?_drop,List.getElem?_drop] at h1
 rw [List.getD_eq_getElem?_getD,List.getD_eq_getElem?_getD]
 simpa using congrArg (fun o=>o.getD default) h1
omit [Inhabited α] in
theorem drop_one {l m:List α} {j:Nat} (h:l.drop j=m.drop j):l.drop (j+1)=m.drop (j+1):=by
 rw [← List.drop_drop,← List.drop_drop,h]
theorem take_snoc {ts:List α} {j:Nat} (hj:j<ts.length):ts.take (j+1)=ts.take j++[ts.getD j default]:=by
 rw [List.take_add_one,List.getElem?_eq_getElem hj,List.getD_eq_getElem?_getD,List.getElem?_eq_getElem hj];rfl
theorem DelI.skip {ts ys:List α} {i j:Nat} (h:DelI p ts ys i j) (hj:j<ts.length) (hp:p (ts.getD j default)=true):DelI p ts ys i (j+1) :=
 ⟨h.len,by rw [take_snoc hj,List.filter_append,h.fr,List.filter_cons,hp];simp,drop_one h.bk,by have:=h.lt;omega⟩
theorem DelI.keep {ts ys:List α} {i j:Nat} (h:DelI p ts ys i j) (hj:j<ts.length) (hp:p (ts.getD j default)=false):DelI p ts (ys.set i (ts.getD j default)) (i+1) (j+1):=by
 have h1:=h.lt
 have h2:=h.len
 refine ⟨by simpa using h.len,?_,?_,by omega⟩
 ·rw [take_snoc hj,List.filter_append,List.take_set,take_snoc (ts:=ys) (by omega),h.fr.symm,List.set_append,List.length_take,if_neg (by omega),show i - min i ys.length=0 by omega,List.filter_cons,hp]
  simp
 ·rw [← drop_one h.bk,List.drop_set,if_pos (by omega)]
theorem DelI.start {ts:List α} {k:Nat} (hk:k<ts.length) (hp:p (ts.getD k default)=true) (ha:∀j,j<k→p (ts.getD j default)=false):DelI p ts ts k (k+1):=by
 refine ⟨rfl,?_,rfl,by omega⟩
 rw [take_snoc hk,List.filter_append]
 simp only [hp,List.filter_cons,Bool.not_true,List.filter_nil,List.append_nil]
 rw [if_neg (by simp)]
 simp only [List.append_nil]
 symm
 rw [List.filter_eq_self]
 intro x hx
 obtain ⟨j,hj,rfl⟩:=List.mem_iff_getElem.1 hx
 have hjk:j<k:=by rw [List.length_take] at hj;omega
 have:=ha j hjk
 rw [List.getD_eq_getElem?_getD,List.getElem?_eq_getElem (by omega)] at this
 simp only [Option.getD_some] at this
 simp [List.getElem_take,this]
omit [Inhabited α] in
theorem DelI.stop {ts ys:List α} {i j:Nat} (h:DelI p ts ys i j) (hj:j=ts.length):ys.take i=ts.filter fun x=>!p x:=by rw [h.fr,hj,List.take_length]
omit [Inhabited α] in
theorem DelI.ilen {ts ys:List α} {i j:Nat} (h:DelI p ts ys i j) (hj:j≤ts.length):i=((ts.take j).filter fun x=>!p x).length:=by
 have h1:=h.lt
 have h2:=h.len
 rw [← h.fr,List.length_take];omega
theorem idxP_cases (p:α→Bool) (ts:List α):(idxP p ts=-1∧ts.filter (fun x=>!p x)=ts)∨∃k:Nat,k<ts.length∧idxP p ts=k∧p (ts.getD k default)=true∧∀j,j<k→p (ts.getD j default)=false:=by
 unfold idxP
 by_cases h:ts.any p=true
 ·rw [if_pos h]
  have hl:ts.findIdx p<ts.length:=List.findIdx_lt_length.2 (by simpa using h)
  refine .inr ⟨_,hl,rfl,?_,fun j hj=>?_⟩
  ·rw [getD_eq hl];exact List.findIdx_getElem
  ·rw [getD_eq (by omega)]
   have:=List.not_of_lt_findIdx hj
   simpa using this
 ·rw [if_neg h]
  refine .inl ⟨rfl,?_⟩
  rw [List.filter_eq_self]
  intro x hx
  simp only [List.any_eq_true,not_exists,not_and,Bool.not_eq_true] at h
  simp [h x hx]
end
set_option maxRecDepth 20000 in
set_option maxHeartbeats 2000000 in
theorem pxIdxM (p:TnP→Bool) (g:Nat) (lb:Array Value) (eg:∀args w,(callFunc g args).run Tryz.prog w=.ok (.enter g args) w) (zs:List TnP) (a:Option Addr) (n cap:Nat) (w:World)
  (hr:Rd w a n cap 1 (zs.map ptrT)) (hp:PredM g lb ptrT p zs w) :
  Calls Tryz.prog 167 #[.slice a n cap,.func (.func g) #[] lb] w (RetV (.int .i64 (idxP p zs)) w):=by
 have hln:=by have:=hr.hlen;simpa using this
 have hmax:=hr.lenMax
 have R:=Box.mk hr;clear hr
 have HP:=Box.mk hp;clear hp
 go_enter Tryz.func167,Tryz.ntmps167
 go_wp2_with fail
 go_loopg [5,8] n (fun gg _ s8 wr=>∃k:Nat,k≤n∧n - k≤gg∧s8=.int .i64 k∧Box (Below w.heap.size w wr)∧Box (∀j,j<k→p (zs.getD j default)=false))
 case atStart=>exact ⟨0,Nat.zero_le _,by omega,rfl,⟨Below.refl _ w⟩,⟨fun j hj=>by omega⟩⟩
 case round =>
  obtain ⟨k,hk,hg,rfl,BW,A⟩:=hrel
  by_cases hlt:k<n
  ·obtain ⟨b,off,rfl,hc⟩:=ptAt (R.out.below BW.out (Nat.le_refl _)) k hlt
   have hcall:=HP.out wr (zs.getD k default) (getD_mem (by omega)) BW.out
   cases hq:p (zs.getD k default) with
   | true =>
    have HI:=Box.mk (idxP_hit (p:=p) (l:=zs) (k:=k) A.out (by omega) hq)
    rw [hq] at hcall
    generalize zs.getD k default=y at *
    clear hq
    simp only [ptrT,pV] at hcall hc
    go_wp2_with fail
    refine hcall.mono ?_
    rintro e w' ⟨rfl,hb'⟩
    clear hcall
    go_wp2_with fail
    go_ret
    exact ⟨by rw [HI.out];rfl,BW.out.trans (hb'.mono BW.out.size)⟩
   | false =>
    have HI:=Box.mk (show ∀j,j<k+1→p (zs.getD j default)=false from fun j hj=>by
     by_cases e:j=k
     ·subst e;exact hq
     ·exact A.out j (by omega))
    rw [hq] at hcall
    generalize zs.getD k default=y at *
    clear hq
    simp only [ptrT,pV] at hcall hc
    go_wp2_with fail
    refine hcall.mono ?_
    rintro e w' ⟨rfl,hb'⟩
    clear hcall
    go_wp2_with fail
    go_roundg (n - (k+1))
    case measure=>omega
    case rel=>exact ⟨k+1,by omega,by omega,by go_num,⟨BW.out.trans (hb'.mono BW.out.size)⟩,HI⟩
  ·have hkn:k=n:=by omega
   have HI:=Box.mk (idxP_miss (p:=p) (l:=zs) (fun j hj=>A.out j (by omega)))
   go_wp2_with fail
   go_ret
   exact ⟨by rw [HI.out];rfl,BW.out⟩
set_option maxRecDepth 20000 in
set_option maxHeartbeats 800000 in
theorem pxDel {g:Nat} {lb:Array Value} (eg:∀args w,(callFunc g args).run Tryz.prog w=.ok (.enter g args) w) {B:Nat} {w:World} {l:List HP} {ts:List TnP} {p:TnP→Bool} {a:Option Addr} {c:Nat}
  (O:Own B w (RowP 95 1 a ts.length c (ts.map ptrT)::l)) (hn:ts.length≤100000)
  (hp:∀ (W:World) (a':Option Addr) (n' c':Nat) (xs':List Value),Own B W (RowP 95 1 a' n' c' xs'::l)→Below B w W→∀x∈ts,Calls Tryz.prog g (#[ptrT x]++lb) W (RetV (.bool (p x)) W)) :
  Calls Tryz.prog 142 #[.slice a ts.length c,.func (.func g) #[] lb] w fun en w'=>∃a' c',en=.returned (.slice a' (ts.filter fun x=>!p x).length c')∧Own B w' (RowP 95 1 a' (ts.filter fun x=>!p x).length c' ((ts.filter fun x=>!p x).map ptrT)::l)∧Below B w w':=by
 have HC:=Box.mk (pxIdxM p g lb eg ts a ts.length c w (Rd.ofOwn (O.row 0 rfl)) (fun W x hx hW=>hp W _ _ _ _ (O.below hW) (hW.mono O.1) x hx))
 have HP:=Box.mk hp
 have O0:=Box.mk O
 have hcap:ts.length≤c:=(Rd.ofOwn (O.row 0 rfl)).hcap
 have hmx:c≤maxLen:=(Rd.ofOwn (O.row 0 rfl)).hmax
 clear hp O
 rcases idxP_cases p ts with ⟨h1,h2⟩ | ⟨k0,hk0,h1,h2,h3⟩
 ·rw [h1] at HC
  have HF:=Box.mk h2
  clear h1 h2
  obtain ⟨n,hn2⟩:∃n,ts.length=n:=⟨_,rfl⟩
  have HN:=Box.mk hn2
  rw [hn2] at HC hcap hn O0 ⊢
  go_enter Tryz.func142,Tryz.ntmps142
  go_wp2_with fail
  refine HC.out.mono ?_
  rintro e w1 ⟨rfl,hb⟩
  have O1:=Box.mk (O0.out.below hb)
  have B1:=Box.mk (hb.mono O0.out.1)
  clear hb HC
  go_wp2_with fail
  go_ret
  rw [HF.out,HN.out]
  exact ⟨a,c,rfl,O1.out,B1.out⟩
 ·rw [h1] at HC
  have HD:=Box.mk (DelI.start hk0 h2 h3)
  obtain ⟨gb,rfl,_⟩:=own_some (O0.out.row 0 rfl) (by omega)
  clear h1 h2 h3
  obtain ⟨n,hn2⟩:∃n,ts.length=n:=⟨_,rfl⟩
  have HN:=Box.mk hn2
  rw [hn2] at HC hcap hn O0 hk0 ⊢
  clear hn2
  go_enter Tryz.func142,Tryz.ntmps142
  go_wp2_with fail
  refine HC.out.mono ?_
  rintro e w1 ⟨rfl,hb⟩
  have O1:=Box.mk (O0.out.below hb)
  have B1:=Box.mk (hb.mono O0.out.1)
  clear hb HC O0
  go_wp2_with fail
  go_loopg [5,6,7] n (fun gg s5 s6 _ wr=>∃ (i j:Nat),j≤n∧n - j≤gg∧i<j∧s5=.int .i64 i∧s6=.int .i64 j ∧
   Box (∃ys:List TnP,Own B wr (RowP 95 1 (some ⟨gb,0,none⟩) n c (ys.map ptrT)::l)∧Below B w wr∧DelI p ts ys i j))
  case atStart=>exact ⟨k0,k0+1,by omega,by omega,by omega,rfl,by go_num,⟨ts,O1.out,B1.out,HD.out⟩⟩
  clear O1 B1 HD
  case round =>
   obtain ⟨i,j,hj,hg,hij,rfl,rfl,HI⟩:=hrel
   obtain ⟨ys,hO,hB,hD⟩:=HI.out
   have O:=Box.mk hO
   have B1:=Box.mk hB
   have D:=Box.mk hD
   clear HI hO hB hD
   by_cases hlt:j<n
   ·have hjl:j<ts.length:=by rw [HN.out];exact hlt
    obtain ⟨b2,off2,hab,hc⟩:=ptAt (Rd.ofOwn (O.out.row 0 rfl)) j hlt
    simp only [Option.some.injEq,Addr.mk.injEq,and_true] at hab
    obtain ⟨rfl,rfl⟩:=hab
    rw [D.out.at hjl] at hc
    have hcall:=HP.out wr _ _ _ _ O.out B1.out (ts.getD j default) (getD_mem hjl)
    cases hq:p (ts.getD j default) with
    | true =>
     have D2:=Box.mk (D.out.skip hjl hq)
     rw [hq] at hcall
     generalize ts.getD j default=y at *
     clear hq
     simp only [ptrT,pV,Nat.zero_add] at hcall hc
     go_wp2_with fail
     refine hcall.mono ?_
     rintro e w' ⟨rfl,hb'⟩
     have O2:=Box.mk (O.out.below hb')
     have B2:=Box.mk (B1.out.trans (hb'.mono O.out.1))
     clear hcall hb' O B1 hc
     go_wp2_with fail
     go_roundg (n - (j+1))
     case measure=>omega
     case rel=>exact ⟨i,j+1,by omega,by omega,by omega,rfl,by go_num,⟨ys,O2.out,B2.out,D2.out⟩⟩
    | false =>
     have D2:=Box.mk (D.out.keep hjl hq)
     rw [hq] at hcall
     generalize ts.getD j default=y at *
     clear hq
     simp only [ptrT,pV,Nat.zero_add] at hcall hc
     go_wp2_with fail
     refine hcall.mono ?_
     rintro e w' ⟨rfl,hb'⟩
     have O2:=Box.mk (O.out.below hb')
     have B2:=Box.mk (B1.out.trans (hb'.mono O.out.1))
     have hyl:=D.out.len
     rw [HN.out] at hyl
     obtain ⟨cur,hbk,hcl,hO3,hB3⟩:=O2.out.storeN 0 rfl i [ptrT y] (by simp only [List.length_map,List.length_singleton];omega)
     have hsp:splice (ys.map ptrT) i [ptrT y]=(ys.set i y).map ptrT:=by
      unfold splice
      rw [List.set_eq_take_append_cons_drop,if_pos (by omega),List.map_append,List.map_take,List.map_cons,List.map_drop];simp
     rw [hsp] at hO3
     have O3:=Box.mk hO3
     have B3:=Box.mk (B2.out.trans hB3)
     have HBK:=Box.mk hbk
     simp only [List.length_singleton] at hcl
     clear hcall hb' O B1 hc hO3 hB3 hsp hbk O2 B2 hyl
     simp only [ptrT,pV] at O3 B3
     go_wp2_with ((with_reducible show wpList _ _ _ _ _ _);refine wpList_store_part rfl 95 (.tmp 33) (.tmp 32) rfl rfl (size:=1) (off:=i) (by kernel_rfl) HBK.out hcl rfl (cs:=[.pointer (some ⟨y.p,0,none⟩)]) rfl rfl (by simp [Value.oneCell']) ?_)
     go_roundg (n - (j+1))
     case measure=>omega
     case rel=>exact ⟨i+1,j+1,by omega,by omega,by omega,by go_num,by go_num,⟨_,O3.out,B3.out,D2.out⟩⟩
   ·have hjn:j=n:=by omega
    have hyl:=D.out.len
    rw [HN.out] at hyl
    obtain ⟨cur,hbk,hcl,hO3,hB3⟩:=O.out.storeN 0 rfl i (List.replicate (n - i) (.pointer none)) (by simp only [List.length_map,List.length_replicate];omega)
    rw [List.length_replicate] at hcl
    have hclr:=fun ty=>run_clear_blk (ty:=ty) (c:=c - i) sl_ptx.ht z_ptx rfl rfl hbk (by omega) hcl
    have hO4:=hO3.cut 0 rfl (i:=i) (by omega)
    have hfl:(splice (ys.map ptrT) i (List.replicate (n - i) (.pointer none))).take (i * 1)=(ts.filter fun x=>!p x).map ptrT:=by
     unfold splice
     rw [Nat.mul_one,List.take_append,List.length_take,List.length_map,show i - min i ys.length=0 by omega,List.take_zero,List.append_nil,List.take_take,Nat.min_self,← List.map_take,D.out.stop (by rw [HN.out];exact hjn)]
    have hil:(ts.filter fun x=>!p x).length=i:=by
     have:=D.out.ilen (by rw [HN.out];omega)
     rw [hjn,← HN.out,List.take_length] at this
     exact this.symm
    rw [hfl] at hO4
    have O4:=Box.mk (show Own B _ (RowP 95 1 (some ⟨gb,0,none⟩) i c ((ts.filter fun x=>!p x).map ptrT)::l) from hO4)
    have B4:=Box.mk (B1.out.trans hB3)
    have HIL:=Box.mk hil
    clear hO3 hO4 hB3 hfl hil hbk O B1
    generalize (wr.setRow gb (splice cur i (List.replicate (n - i) (.pointer none))).toArray)=w4 at *
    go_wp2_with fail
    go_ret
    rw [HIL.out]
    exact ⟨_,_,rfl,O4.out,B4.out⟩
set_option maxRecDepth 20000 in
set_option maxHeartbeats 800000 in
theorem nDel {g:Nat} {lb:Array Value} (eg:∀args w,(callFunc g args).run Tryz.prog w=.ok (.enter g args) w) {B:Nat} {w:World} {l:List HP} {ts:List Int} {p:Int→Bool} {a:Option Addr} {c:Nat}
  (O:Own B w (RowP 3 1 a ts.length c (ts.map intV)::l)) (hn:ts.length≤100000)
  (hp:∀ (W:World) (a':Option Addr) (n' c':Nat) (xs':List Value),Own B W (RowP 3 1 a' n' c' xs'::l)→Below B w W→∀x∈ts,Calls Tryz.prog g (#[intV x]++lb) W (RetV (.bool (p x)) W)) :
  Calls Tryz.prog 129 #[.slice a ts.length c,.func (.func g) #[] lb] w fun en w'=>∃a' c',en=.returned (.slice a' (ts.filter fun x=>!p x).length c')∧Own B w' (RowP 3 1 a' (ts.filter fun x=>!p x).length c' ((ts.filter fun x=>!p x).map intV)::l)∧Below B w w':=by
 have HC:=Box.mk (nIdxM p g lb eg ts a ts.length c w (Rd.ofOwn (O.row 0 rfl)) (fun W x hx hW=>hp W _ _ _ _ (O.below hW) (hW.mono O.1) x hx))
 have HP:=Box.mk hp
 have O0:=Box.mk O
 have hcap:ts.length≤c:=(Rd.ofOwn (O.row 0 rfl)).hcap
 have hmx:c≤maxLen:=(Rd.ofOwn (O.row 0 rfl)).hmax
 clear hp O
 rcases idxP_cases p ts with ⟨h1,h2⟩ | ⟨k0,hk0,h1,h2,h3⟩
 ·rw [h1] at HC
  have HF:=Box.mk h2
  clear h1 h2
  obtain ⟨n,hn2⟩:∃n,ts.length=n:=⟨_,rfl⟩
  have HN:=Box.mk hn2
  rw [hn2] at HC hcap hn O0 ⊢
  go_enter Tryz.func129,Tryz.ntmps129
  go_wp2_with fail
  refine HC.out.mono ?_
  rintro e w1 ⟨rfl,hb⟩
  have O1:=Box.mk (O0.out.below hb)
  have B1:=Box.mk (hb.mono O0.out.1)
  clear hb HC
  go_wp2_with fail
  go_ret
  rw [HF.out,HN.out]
  exact ⟨a,c,rfl,O1.out,B1.out⟩
 ·rw [h1] at HC
  have HD:=Box.mk (DelI.start hk0 h2 h3)
  obtain ⟨gb,rfl,_⟩:=own_some (O0.out.row 0 rfl) (by omega)
  clear h1 h2 h3
  obtain ⟨n,hn2⟩:∃n,ts.length=n:=⟨_,rfl⟩
  have HN:=Box.mk hn2
  rw [hn2] at HC hcap hn O0 hk0 ⊢
  clear hn2
  go_enter Tryz.func129,Tryz.ntmps129
  go_wp2_with fail
  refine HC.out.mono ?_
  rintro e w1 ⟨rfl,hb⟩
  have O1:=Box.mk (O0.out.below hb)
  have B1:=Box.mk (hb.mono O0.out.1)
  clear hb HC O0
  go_wp2_with fail
  go_loopg [5,6,7] n (fun gg s5 s6 _ wr=>∃ (i j:Nat),j≤n∧n - j≤gg∧i<j∧s5=.int .i64 i∧s6=.int .i64 j ∧
   Box (∃ys:List Int,Own B wr (RowP 3 1 (some ⟨gb,0,none⟩) n c (ys.map intV)::l)∧Below B w wr∧DelI p ts ys i j))
  case atStart=>exact ⟨k0,k0+1,by omega,by omega,by omega,rfl,by go_num,⟨ts,O1.out,B1.out,HD.out⟩⟩
  clear O1 B1 HD
  case round =>
   obtain ⟨i,j,hj,hg,hij,rfl,rfl,HI⟩:=hrel
   obtain ⟨ys,hO,hB,hD⟩:=HI.out
   have O:=Box.mk hO
   have B1:=Box.mk hB
   have D:=Box.mk hD
   clear HI hO hB hD
   by_cases hlt:j<n
   ·have hjl:j<ts.length:=by rw [HN.out];exact hlt
    obtain ⟨b2,off2,hab,hc⟩:=inAt (Rd.ofOwn (O.out.row 0 rfl)) j hlt
    simp only [Option.some.injEq,Addr.mk.injEq,and_true] at hab
    obtain ⟨rfl,rfl⟩:=hab
    rw [D.out.at hjl] at hc
    have hcall:=HP.out wr _ _ _ _ O.out B1.out (ts.getD j default) (getD_mem hjl)
    cases hq:p (ts.getD j default) with
    | true =>
     have D2:=Box.mk (D.out.skip hjl hq)
     rw [hq] at hcall
     generalize ts.getD j default=y at *
     clear hq
     simp only [intV,Nat.zero_add] at hcall hc
     go_wp2_with fail
     refine hcall.mono ?_
     rintro e w' ⟨rfl,hb'⟩
     have O2:=Box.mk (O.out.below hb')
     have B2:=Box.mk (B1.out.trans (hb'.mono O.out.1))
     clear hcall hb' O B1 hc
     go_wp2_with fail
     go_roundg (n - (j+1))
     case measure=>omega
     case rel=>exact ⟨i,j+1,by omega,by omega,by omega,rfl,by go_num,⟨ys,O2.out,B2.out,D2.out⟩⟩
    | false =>
     have D2:=Box.mk (D.out.keep hjl hq)
     rw [hq] at hcall
     generalize ts.getD j default=y at *
     clear hq
     simp only [intV,Nat.zero_add] at hcall hc
     go_wp2_with fail
     refine hcall.mono ?_
     rintro e w' ⟨rfl,hb'⟩
     have O2:=Box.mk (O.out.below hb')
     have B2:=Box.mk (B1.out.trans (hb'.mono O.out.1))
     have hyl:=D.out.len
     rw [HN.out] at hyl
     obtain ⟨cur,hbk,hcl,hO3,hB3⟩:=O2.out.storeN 0 rfl i [intV y] (by simp only [List.length_map,List.length_singleton];omega)
     have hsp:splice (ys.map intV) i [intV y]=(ys.set i y).map intV:=by
      unfold splice
      rw [List.set_eq_take_append_cons_drop,if_pos (by omega),List.map_append,List.map_take,List.map_cons,List.map_drop];simp
     rw [hsp] at hO3
     have O3:=Box.mk hO3
     have B3:=Box.mk (B2.out.trans hB3)
     have HBK:=Box.mk hbk
     simp only [List.length_singleton] at hcl
     clear hcall hb' O B1 hc hO3 hB3 hsp hbk O2 B2 hyl
     simp only [intV] at O3 B3
     go_wp2_with ((with_reducible show wpList _ _ _ _ _ _);refine wpList_store_part rfl 3 (.tmp 33) (.tmp 32) rfl rfl (size:=1) (off:=i) (by kernel_rfl) HBK.out hcl rfl (cs:=[.int .i64 y]) rfl rfl (by simp [Value.oneCell']) ?_)
     go_roundg (n - (j+1))
     case measure=>omega
     case rel=>exact ⟨i+1,j+1,by omega,by omega,by omega,by go_num,by go_num,⟨_,O3.out,B3.out,D2.out⟩⟩
   ·have hjn:j=n:=by omega
    have hyl:=D.out.len
    rw [HN.out] at hyl
    obtain ⟨cur,hbk,hcl,hO3,hB3⟩:=O.out.storeN 0 rfl i (List.replicate (n - i) (.int .i64 0)) (by simp only [List.length_map,List.length_replicate];omega)
    rw [List.length_replicate] at hcl
    have hclr:=fun ty=>run_clear_blk (ty:=ty) (c:=c - i) sl_int.ht z_int rfl rfl hbk (by omega) hcl
    have hO4:=hO3.cut 0 rfl (i:=i) (by omega)
    have hfl:(splice (ys.map intV) i (List.replicate (n - i) (.int .i64 0))).take (i * 1)=(ts.filter fun x=>!p x).map intV:=by
     unfold splice
     rw [Nat.mul_one,List.take_append,List.length_take,List.length_map,show i - min i ys.length=0 by omega,List.take_zero,List.append_nil,List.take_take,Nat.min_self,← List.map_take,D.out.stop (by rw [HN.out];exact hjn)]
    have hil:(ts.filter fun x=>!p x).length=i:=by
     have:=D.out.ilen (by rw [HN.out];omega)
     rw [hjn,← HN.out,List.take_length] at this
     exact this.symm
    rw [hfl] at hO4
    have O4:=Box.mk (show Own B _ (RowP 3 1 (some ⟨gb,0,none⟩) i c ((ts.filter fun x=>!p x).map intV)::l) from hO4)
    have B4:=Box.mk (B1.out.trans hB3)
    have HIL:=Box.mk hil
    clear hO3 hO4 hB3 hfl hil hbk O B1
    generalize (wr.setRow gb (splice cur i (List.replicate (n - i) (.int .i64 0))).toArray)=w4 at *
    go_wp2_with fail
    go_ret
    rw [HIL.out]
    exact ⟨_,_,rfl,O4.out,B4.out⟩
end
section
open Go.RowKit Go.Maps
def TnL (t:TnP):List HP:=[BlkP t.p 100 t.cs,RowP 90 4 t.la t.log.length t.lc (recC WrP.enc t.log),MapO Tryz.prog 104 ekR Value.bool t.br t.rows,MapO Tryz.prog 3 kI Value.bool t.bw ([]:List (Int×Bool))]
def TnO (t:TnP):HP:=Seps (TnL t)
theorem TnL.stb (t:TnP):∀P∈TnL t,Stb P:=by
 intro P hP
 unfold TnL at hP
 simp only [List.mem_cons,List.not_mem_nil,or_false] at hP
 rcases hP with rfl | rfl | rfl | rfl
 ·exact BlkP.stb _ _ _
 ·exact RowP.stb _ _ _ _ _ _
 ·exact MapO.stb _ _
 ·exact MapO.stb _ _
theorem TnO.stb (t:TnP):Stb (TnO t):=Seps.stb (TnL.stb t)
def TxsL (g:Nat) (X:TxP):List HP:=BlkP g 68 X.cs::RowP 95 1 X.ka X.kept.length X.kc (X.kept.map ptrT)::MapO Tryz.prog 3 kI pV X.ba X.am::X.all.map TnO
def TxsO (g:Nat) (X:TxP):HP:=Seps (TxsL g X)
theorem TxsL.stb (g:Nat) (X:TxP):∀P∈TxsL g X,Stb P:=by
 intro P hP
 unfold TxsL at hP
 simp only [List.mem_cons,List.mem_map] at hP
 rcases hP with rfl | rfl | rfl | ⟨t,_,rfl⟩
 ·exact BlkP.stb _ _ _
 ·exact RowP.stb _ _ _ _ _ _
 ·exact MapO.stb _ _
 ·exact TnO.stb t
theorem Seps.mem:∀ {m:List HP} {w:World} {F:List Nat},Seps m w F→∀ {P:HP},P∈m→∃F',P w F'
 | Q::m,w,F,⟨F1,F2,h1,h2,_,_⟩,P,hP=>by
  rcases List.mem_cons.1 hP with rfl | hP
  ·exact ⟨F1,h1⟩
  ·exact Seps.mem h2 hP
theorem TnO.rd {w:World} {F:List Nat} {t:TnP} (h:TnO t w F):TnRd w t:=by
 have hm:=fun {P:HP} (hP:P∈TnL t)=>Seps.mem (P:=P) h hP
 obtain ⟨_,h1,_⟩:=hm (P:=BlkP t.p 100 t.cs) (by simp [TnL])
 obtain ⟨_,h2,_⟩:=hm (P:=RowP 90 4 t.la t.log.length t.lc (recC WrP.enc t.log)) (by simp [TnL])
 obtain ⟨_,h3,_⟩:=hm (P:=MapO Tryz.prog 104 ekR Value.bool t.br t.rows) (by simp [TnL])
 obtain ⟨_,h4,_⟩:=hm (P:=MapO Tryz.prog 3 kI Value.bool t.bw ([]:List (Int×Bool))) (by simp [TnL])
 exact ⟨h1,Rd.ofOwn h2,h3,h4⟩
theorem Own.mem {B:Nat} {w:World} {l:List HP} (O:Own B w l) {P:HP} (hP:P∈l):∃F,P w F:=by
 obtain ⟨i,hi,rfl⟩:=List.mem_iff_getElem.1 hP
 obtain ⟨F,h,_⟩:=O.get i (List.getElem?_eq_getElem hi)
 exact ⟨F,h⟩
theorem Own.tn {B:Nat} {w:World} {l:List HP} (O:Own B w l) {t:TnP} (h:TnO t∈l):TnRd w t:=by
 obtain ⟨F,h⟩:=O.mem h
 exact h.rd
theorem TxsO.rd {w:World} {F:List Nat} {g:Nat} {X:TxP} (h:TxsO g X w F):TxsRd w g X:=by
 have hm:=fun {P:HP} (hP:P∈TxsL g X)=>Seps.mem (P:=P) h hP
 obtain ⟨_,h1,_⟩:=hm (P:=BlkP g 68 X.cs) (by simp [TxsL])
 obtain ⟨_,h2,_⟩:=hm (P:=RowP 95 1 X.ka X.kept.length X.kc (X.kept.map ptrT)) (by simp [TxsL])
 obtain ⟨_,h3,_⟩:=hm (P:=MapO Tryz.prog 3 kI pV X.ba X.am) (by simp [TxsL])
 refine ⟨h1,Rd.ofOwn h2,h3,fun t ht=>?_⟩
 obtain ⟨_,h4⟩:=hm (P:=TnO t) (by simp only [TxsL,List.mem_cons,List.mem_map];exact .inr (.inr (.inr ⟨t,ht,rfl⟩)))
 exact h4.rd
theorem Own.txs {B:Nat} {w:World} {l:List HP} {g:Nat} {X:TxP} (O:Own B w (TxsO g X::l)):TxsRd w g X:=by
 obtain ⟨F,h⟩:=O.mem (P:=TxsO g X) (by simp)
 exact h.rd
theorem Own.newF {B:Nat} {w:World} {l:List HP} (O:Own B w l) (cs:List Value) (ty:TypeId):Own B (w.alloc (.cells cs.toArray ty)) (BlkP w.heap.size ty cs::l):=(O.new cs ty).perm (List.perm_append_comm (l₁:=l) (l₂:=[_]))
def TxP.find (X:TxP) (n:Int):Option TnP:=(X.act.find? fun q=>decide (q.1=n)).map (·.2)
theorem getA_act:∀ (l:List (Int×TnP)) (n:Int),getA (l.map fun q=>(q.1,q.2.p)) n=((l.find? fun q=>decide (q.1=n)).map (·.2)).map TnP.p
 | [],n=>rfl
 | (k,t)::l,n=>by
  simp only [List.map_cons,getA,List.find?_cons]
  by_cases h:k=n
  ·simp [h]
  ·simp [h,getA_act l n]
theorem TxP.getA_find (X:TxP) (n:Int):getA X.am n=(X.find n).map TnP.p:=getA_act X.act n
theorem TxP.find_mem {X:TxP} {n:Int} {t:TnP} (h:X.find n=some t):(n,t)∈X.act∧t∈X.all:=by
 unfold TxP.find at h
 obtain ⟨q,hq,rfl⟩:=Option.map_eq_some_iff.1 h
 have h1:=List.mem_of_find?_eq_some hq
 have h2:=List.find?_some hq
 simp only [decide_eq_true_eq] at h2
 subst h2
 exact ⟨h1,List.mem_append.2 (.inr (List.mem_map.2 ⟨q,h1,rfl⟩))⟩
def optV (o:Option TnP):Value:=match o with | some t=>pV t.p | none=>.pointer none
def errE (o:Option TnP):Int:=match o with | some _=>0 | none=>273
set_option maxRecDepth 20000 in
set_option maxHeartbeats 1000000 in
theorem get_any {g:Nat} {X:TxP} {w:World} (h:TxsRd w g X) {n:Int} (hn:In64 n):Calls Tryz.prog 93 #[.pointer (some ⟨g,0,none⟩),.int .i64 n] w (RetV (.tuple #[optV (X.find n),.int .i64 (errE (X.find n))]) w):=by
 obtain ⟨x0,x1,x2,x3,x4⟩:=TxP.cells h.blk
 have hlook:=h.mp.look (t:=65) (e:=95) K_int kI_inj und_act z_ptx (keyI hn)
 rw [X.getA_find] at hlook
 clear h
 cases hf:X.find n with
 | none =>
  rw [hf] at hlook
  simp only [kI,Option.map_none,Option.getD_none] at hlook
  clear hf
  go_enter Tryz.func93,Tryz.ntmps93
  go_wp2_with fail
  go_ret2
  exact ⟨rfl,Below.refl _ _⟩
 | some t =>
  rw [hf] at hlook
  simp only [kI,pV,Option.map_some,Option.getD_some] at hlook
  clear hf
  go_enter Tryz.func93,Tryz.ntmps93
  go_wp2_with fail
  go_ret2
  exact ⟨rfl,Below.refl _ _⟩
set_option maxRecDepth 20000 in
set_option maxHeartbeats 1000000 in
theorem shown_any {g:Nat} {X:TxP} {w:World} (h:TxsRd w g X):Calls Tryz.prog 20 #[.pointer (some ⟨g,0,none⟩)] w (RetV (.int .i64 X.shown) w):=by
 obtain ⟨x0,x1,x2,x3,x4⟩:=TxP.cells h.blk
 clear h
 go_enter Tryz.func20,Tryz.ntmps20
 go_wp2_with fail
 go_ret
 exact ⟨rfl,Below.refl _ _⟩
set_option maxRecDepth 20000 in
set_option maxHeartbeats 1000000 in
theorem snap_any {g:Nat} {X:TxP} {w:World} (h:TxsRd w g X) {n:Int} (hn:In64 n):Calls Tryz.prog 28 #[.pointer (some ⟨g,0,none⟩),.int .i64 n] w
  (RetV (.tuple #[.int .i64 (match X.find n with | some t=>t.snap | none=>0),.int .i64 (errE (X.find n))]) w):=by
 have HG:=Box.mk (get_any h hn)
 have HH:=Box.mk h
 clear h
 cases hf:X.find n with
 | none =>
  rw [hf] at HG
  simp only [optV,errE] at HG ⊢
  clear hf
  go_enter Tryz.func28,Tryz.ntmps28
  go_wp2_with fail
  refine HG.out.mono ?_
  rintro e w1 ⟨rfl,hb⟩
  go_wp2_with fail
  go_ret2
  exact ⟨rfl,hb⟩
 | some t =>
  rw [hf] at HG
  have HT:=Box.mk (HH.out.tn t (TxP.find_mem hf).2)
  simp only [optV,errE,pV] at HG ⊢
  clear hf
  go_enter Tryz.func28,Tryz.ntmps28
  go_wp2_with fail
  refine HG.out.mono ?_
  rintro e w1 ⟨rfl,hb⟩
  obtain ⟨x0,x1,x2,x3,x4,x5,x6⟩:=TnP.cells (HT.out.below hb (Nat.le_refl _)).blk
  clear x4 x5 x6
  go_wp2_with fail
  go_ret2
  exact ⟨rfl,hb⟩
theorem Own.rput {B:Nat} {w:World} {l:List HP} (O:Own B w l) (i:Nat) {b:Nat} {m:List ((Int×Int)×Bool)} (hi:l[i]?=some (MapO Tryz.prog 104 ekR Value.bool b m)) {x:Int×Int} (hx:In64 x.1∧In64 x.2) :
  ∃w',(Instr.mapUpdate 97 (.map (some b)) (ekR x) (.bool true)).run Tryz.prog w=.ok () w'∧Own B w' (l.set i (MapO Tryz.prog 104 ekR Value.bool b (putA m x true)))∧Below B w w':=by
 obtain ⟨kl,hkl⟩:=keyR (q:=x) hx.1 hx.2
 obtain ⟨w',h1,h2,h3,_⟩:=O.putMap K_row ekR_inj und_rset i hi hkl true
 exact ⟨w',h1,h2,h3⟩
set_option maxRecDepth 20000 in
set_option maxHeartbeats 1000000 in
theorem addr_one {B:Nat} {w:World} {l:List HP} (O:Own B w l) (i:Nat) {b:Nat} {m:List ((Int×Int)×Bool)} (hi:l[i]?=some (MapO Tryz.prog 104 ekR Value.bool b m)) {x:Int×Int} (hx:In64 x.1∧In64 x.2) {g:Nat} (hg:Blk w g 104 [.int .i64 x.1,.int .i64 x.2]) :
  Calls Tryz.prog 98 #[.map (some b),.slice (some ⟨g,0,none⟩) 1 1] w (RetW (.tuple #[]) B (l.set i (MapO Tryz.prog 104 ekR Value.bool b (putA m x true))) w):=by
 obtain ⟨xa,xb⟩:=x
 obtain ⟨w',hrun,O2,hb2⟩:=(O.alloc (.cells #[.int .i64 xa,.int .i64 xb] 104)).rput i hi hx
 have H2:=Box.mk (And.intro O2 (((Below.refl B w).alloc O.1 _).trans hb2))
 have k0:=hg.cellOf (i:=0) rfl
 have k1:=hg.cellOf (i:=1) rfl
 simp only [ekR] at hrun k0 k1
 clear O2 hb2 O hi hg
 go_enter Tryz.func98,Tryz.ntmps98
 go_wp2_with fail
 refine wp_loop_rounds 2 ?_
 rw [rounds_succ]
 go_wp2_with fail
 rw [rounds_succ]
 go_wp2_with fail
 go_end0
 exact ⟨rfl,H2.out.1,H2.out.2⟩
def gone (k:Int) (t:TnP):Bool:=decide (t.stamp≤k)&&(decide (0<t.stamp)||decide (t.snap≤k))
theorem forgetF_enters (args:Array Value) (w:World):(callFunc 143 args).run Tryz.prog w=.ok (.enter 143 args) w:=enters_fn Tryz.func143 (by kernel_rfl) (by kernel_rfl) args w
set_option maxRecDepth 20000 in
set_option maxHeartbeats 4000000 in
theorem forgetF_any {w:World} {t:TnP} {gk:Nat} {k:Int} (h:TnRd w t) (hg:w.cell? ⟨gk,0,none⟩=some (.int .i64 k)) :
  Calls Tryz.prog 143 #[ptrT t,.pointer (some ⟨gk,0,none⟩)] w (RetV (.bool (gone k t)) w):=by
 obtain ⟨x0,x1,x2,x3,x4,x5,x6⟩:=TnP.cells h.blk
 clear h x4 x5 x6 x0 x2
 unfold ptrT pV gone
 have HB:=Box.mk (fun q=>below_drewN (Below.refl w.heap.size w) q)
 by_cases h1:t.stamp≤k
 ·by_cases h2:0<t.stamp
  ·go_enter Tryz.func143,Tryz.ntmps143
   go_upto_region 1 with fail
   go_quiet (fail)
   go_wp2_with fail
   go_ret
   exact ⟨by simp [h1,h2],HB.out _⟩
  ·by_cases h3:t.snap≤k
   ·go_enter Tryz.func143,Tryz.ntmps143
    go_upto_region 1 with fail
    go_quiet (fail)
    go_wp2_with fail
    go_ret
    exact ⟨by simp [h1,h3],HB.out _⟩
   ·go_enter Tryz.func143,Tryz.ntmps143
    go_upto_region 1 with fail
    go_quiet (fail)
    go_wp2_with fail
    go_ret
    exact ⟨by simp [h2,h3],HB.out _⟩
 ·go_enter Tryz.func143,Tryz.ntmps143
  go_upto_region 1 with fail
  go_quiet (fail)
  go_wp2_with fail
  go_ret
  exact ⟨by simp;omega,HB.out _⟩
end
end Go.Proofs.YtlfghapllmaigaaGreatDoor
