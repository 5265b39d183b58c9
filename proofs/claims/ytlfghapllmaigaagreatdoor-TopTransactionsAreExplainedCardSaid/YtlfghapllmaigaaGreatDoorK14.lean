/-
  A transaction in memory; the walk of its writes; The transactions in memory; the walks of Active, all, get, Snap, Shown, Item; Readable slices that may share memory, as one object; one block whatever it holds; The walk of History's closure; the history of transactions, plainly. Conditions: each theorem's own hypotheses.
-/
import Derived.Test.YtlfghapllmaigaaGreatDoorK13
import Derived.Test.YtlfghapllmaigaaGreatDoorK12
import Derived.Test.YtlfghapllmaigaaGreatDoorK10
namespace Go.Proofs.YtlfghapllmaigaaGreatDoor
section
open Go.RowKit Go.Maps
structure TnP where
 p:Nat
 mode:Int
 snap:Int
 done:Bool
 stamp:Int
 la:Option Addr
 lc:Nat
 log:List WrP
 br:Nat
 rows:List ((Int×Int)×Bool)
 bw:Nat
 deriving Inhabited
def TnP.cs (t:TnP):List Value:=[.int .i64 t.mode,.int .i64 t.snap,.bool t.done,.int .i64 t.stamp,.slice t.la t.log.length t.lc,.map (some t.br),.map (some t.bw)]
structure TnRd (w:World) (t:TnP):Prop where
 blk:Blk w t.p 100 t.cs
 log:Rd w t.la t.log.length t.lc 4 (recC WrP.enc t.log)
 rows:MapT Tryz.prog 104 ekR Value.bool w t.br t.rows
 whole:MapT Tryz.prog 3 kI Value.bool w t.bw ([]:List (Int×Bool))
theorem TnRd.below {w w':World} {B:Nat} {t:TnP} (h:TnRd w t) (hb:Below B w w') (hB:w.heap.size≤B):TnRd w' t:=⟨h.blk.below hb hB,h.log.below hb hB,h.rows.below hb hB,h.whole.below hb hB⟩
structure TnOk (t:TnP):Prop where
 log:∀x∈t.log,x.key∈spots
 rows:∀p∈t.rows,p.1∈spots∧p.2=true
 len:t.log.length≤100000
 rlen:t.rows.length≤100000
theorem TnP.cells {w:World} {g:Nat} {T:TypeId} {t:TnP} (h:Blk w g T t.cs):w.cell? ⟨g,0,none⟩=some (.int .i64 t.mode)∧w.cell? ⟨g,1,none⟩=some (.int .i64 t.snap)∧w.cell? ⟨g,2,none⟩=some (.bool t.done)∧w.cell? ⟨g,3,none⟩=some (.int .i64 t.stamp) ∧
  w.cell? ⟨g,4,none⟩=some (.slice t.la t.log.length t.lc)∧w.cell? ⟨g,5,none⟩=some (.map (some t.br))∧w.cell? ⟨g,6,none⟩=some (.map (some t.bw)) :=
 ⟨h.cellOf rfl,h.cellOf rfl,h.cellOf rfl,h.cellOf rfl,h.cellOf rfl,h.cellOf rfl,h.cellOf rfl⟩
theorem spot_i64 {s:Int×Int} (h:s∈spots):In64 s.1∧In64 s.2:=by
 have:=spots_iff.1 h
 unfold In64;omega
theorem putA_len {α β:Type} [DecidableEq α] (l:List (α×β)) (x:α) (v:β):(putA l x v).length≤l.length+1:=by
 by_cases h:x∈keysA l
 ·have:=congrArg List.length (keysA_putA_mem h v)
  simp only [keysA,List.length_map] at this;omega
 ·rw [putA_new h];simp
theorem mem_putA {α β:Type} [DecidableEq α] {l:List (α×β)} {x:α} {v:β} {p:α×β} (h:p∈putA l x v):p=(x,v)∨p∈l:=by
 induction l with
 | nil=>simp [putA] at h;exact .inl h
 | cons q r ih =>
  obtain ⟨a,b⟩:=q
  unfold putA at h
  split at h
  ·rcases List.mem_cons.1 h with h | h
   ·exact .inl h
   ·exact .inr (List.mem_cons_of_mem _ h)
  ·rcases List.mem_cons.1 h with h | h
   ·exact .inr (by rw [h];simp)
   ·rcases ih h with h | h
    ·exact .inl h
    ·exact .inr (List.mem_cons_of_mem _ h)
structure LastM (l:List ((Int×Int)×WrP)) (log:List WrP) (k:Nat):Prop where
 get:∀s,getA l s=lastW (log.take k) s
 key:∀p∈l,p.2.key=p.1
 spot:∀s∈keysA l,s∈spots
 len:l.length≤k
theorem LastM.start (log:List WrP):LastM [] log 0:=⟨fun s=>rfl,by simp,by simp [keysA],Nat.le_refl _⟩
theorem LastM.step {l:List ((Int×Int)×WrP)} {log:List WrP} {k:Nat} (h:LastM l log k) (hk:k<log.length) {x:WrP} (hx:log.getD k default=x) (hs:x.key∈spots):LastM (putA l x.key x) log (k+1):=by
 have htk:log.take (k+1)=log.take k++[x]:=by
  rw [List.take_add_one,List.getElem?_eq_getElem hk]
  rw [List.getD_eq_getElem?_getD,List.getElem?_eq_getElem hk] at hx
  simp at hx;rw [hx];rfl
 refine ⟨fun s=>?_,fun p hp=>?_,fun s hs2=>?_,by have:=putA_len l x.key x;have:=h.len;omega⟩
 ·rw [getA_putA,htk,lastW_snoc,h.get]
 ·rcases mem_putA hp with rfl | hp
  ·rfl
  ·exact h.key p hp
 ·by_cases hm:x.key∈keysA l
  ·rw [keysA_putA_mem hm] at hs2;exact h.spot s hs2
  ·rw [putA_new hm] at hs2
   simp only [keysA,List.map_append,List.mem_append,List.map_cons,List.map_nil,List.mem_singleton] at hs2
   rcases hs2 with hs2 | rfl
   ·exact h.spot s hs2
   ·exact hs
set_option maxRecDepth 20000 in
set_option maxHeartbeats 4000000 in
theorem writes_t {t:TnP} {w:World} (h:TnRd w t) (ok:TnOk t):Calls Tryz.prog 40 #[.pointer (some ⟨t.p,0,none⟩)] w (RetOwn 90 4 (wsOf t.log).length (recC WrP.enc (wsOf t.log)) w):=by
 have HT:=Box.mk h
 have OK:=Box.mk ok
 have hln:=ok.len
 have hmx:=h.log.lenMax
 clear h ok
 have hmm:=@run_makeMap Tryz.prog
 have O0:=Box.mk (Own.newMap (P:=Tryz.prog) (k:=104) (ek:=ekR) (ev:=WrP.v) (Own.start w))
 have B0:=Box.mk ((Below.refl w.heap.size w).alloc (Nat.le_refl _) (.map #[] 0))
 obtain ⟨n,hn⟩:∃n,t.log.length=n:=⟨_,rfl⟩
 have HN:=Box.mk hn
 obtain ⟨la,hla⟩:∃a,t.la=a:=⟨_,rfl⟩
 have HLA:=Box.mk hla
 go_enter Tryz.func40,Tryz.ntmps40
 go_upto_region 2 with fail
 generalize (w.alloc (.map #[] 0))=w1 at *
 obtain ⟨x0,x1,x2,x3,x4,x5,x6⟩:=TnP.cells (HT.out.below B0.out (Nat.le_refl _)).blk
 rw [hn] at x4 hln hmx
 rw [hla] at x4
 clear hn hla
 go_wp2_with fail
 clear x0 x1 x2 x3 x4 x5 x6
 go_loopg [5,12] n (fun gg _ s12 wr=>∃k:Nat,k≤n∧n - k≤gg∧s12=.int .i64 k∧Box (∃l,Own w.heap.size wr [MapO Tryz.prog 104 ekR WrP.v w.heap.size l]∧Below w.heap.size w wr∧LastM l t.log k))
 case atStart=>exact ⟨0,Nat.zero_le _,by omega,rfl,⟨[],O0.out,B0.out,LastM.start _⟩⟩
 clear O0 B0
 case round =>
  obtain ⟨k,hk,hg,rfl,HL⟩:=hrel
  obtain ⟨l,hO,hB,hL⟩:=HL.out
  have HI:=Box.mk (And.intro hO (And.intro hB hL))
  clear HL hO hB hL
  by_cases hlt:k<n
  ·have hrd:=HT.out.log.below HI.out.2.1 (Nat.le_refl _)
   rw [HN.out,HLA.out] at hrd
   obtain ⟨b,off,rfl,hb,hc⟩:=hrd.recAt WrP.enc_len (by omega) k hlt
   obtain ⟨x,hx⟩:∃x,t.log.getD k default=x:=⟨_,rfl⟩
   rw [hx] at hc
   have hxm:x∈t.log:=by rw [← hx];exact getD_mem (by rw [HN.out];exact hlt)
   have hsp:=OK.out.log x hxm
   have HST:=Box.mk (HI.out.2.2.step (by rw [HN.out];exact hlt) hx hsp)
   obtain ⟨xt,xr,xd,xa,xc,xl⟩:=x
   have c0:=hc 0 _ rfl
   have c1:=hc 1 _ rfl
   have c2:=hc 2 _ rfl
   have c3:=hc 3 _ rfl
   simp only [Nat.add_zero] at c0 c1 c2 c3
   have O1:=Box.mk (HI.out.1.alloc (.cells #[.int .i64 xt,.int .i64 xr,.bool xd,.slice xa xl.length xc] 90))
   have B1:=Box.mk (HI.out.2.1.new (Nat.le_refl _) (.cells #[.int .i64 xt,.int .i64 xr,.bool xd,.slice xa xl.length xc] 90))
   have K1:=Blk.new (w:=wr) (k:=wr.heap.size) (ty:=90) (arr:=#[.int .i64 xt,.int .i64 xr,.bool xd,.slice xa xl.length xc]) (cs:=[.int .i64 xt,.int .i64 xr,.bool xd,.slice xa xl.length xc]) rfl rfl
   clear hc hx hxm HI
   go_upto_region 5 with fail
   clear c0 c1 c2 c3
   generalize (wr.alloc (.cells #[.int .i64 xt,.int .i64 xr,.bool xd,.slice xa xl.length xc] 90))=w2 at *
   have y0:=K1.cellOf (i:=0) rfl
   have y1:=K1.cellOf (i:=1) rfl
   have y2:=K1.cellOf (i:=2) rfl
   have y3:=K1.cellOf (i:=3) rfl
   obtain ⟨kl,hkl⟩:=keyR (q:=(xt,xr)) (spot_i64 hsp).1 (spot_i64 hsp).2
   obtain ⟨w3,hrun,O3,hb3,_⟩:=O1.out.putMap K_row ekR_inj und_row 0 rfl hkl (⟨xt,xr,xd,xa,xc,xl⟩:WrP)
   have hrun':(Instr.mapUpdate 205 (.map (some w.heap.size)) (.agg #[.int .i64 xt,.int .i64 xr]) (.agg #[.int .i64 xt,.int .i64 xr,.bool xd,.slice xa xl.length xc])).run Tryz.prog w2=.ok () w3:=hrun
   have O4:=Box.mk (show Own w.heap.size w3 [MapO Tryz.prog 104 ekR WrP.v w.heap.size (putA l (xt,xr) ⟨xt,xr,xd,xa,xc,xl⟩)] from O3)
   have B4:=Box.mk (B1.out.trans hb3)
   clear hrun O3 hb3 hkl hsp K1 O1 B1
   go_wp2_with fail
   go_roundg (n - (k+1))
   case measure=>omega
   case rel=>exact ⟨k+1,by omega,by omega,by go_num,⟨_,O4.out,B4.out,HST.out⟩⟩
  ·obtain rfl:k=n:=by omega
   have HC:=Box.mk (fun (ys xs:List WrP) (hp:ys.Perm xs) (hx:xs.Perm (l.map (·.2))) (ho:ys.Pairwise (Le2 WrP.table WrP.row))=>show ys=wsOf t.log from by
    have h1:=canon WrP.key (HI.out.1.map 0 rfl).1.nodup HI.out.2.2.spot HI.out.2.2.key hp hx ho
    have h2:getA l=lastW t.log:=funext fun s=>by rw [HI.out.2.2.get s,List.take_of_length_le (by rw [HN.out];exact Nat.le_refl _)]
    rw [h1,h2];rfl)
   have hll:=HI.out.2.2.len
   have HM:=Box.mk (And.intro (HI.out.1.map 0 rfl).1 HI.out.2.1)
   clear HI
   go_wp2_with fail
   refine (mk_wr w.heap.size wr).mono ?_
   rintro e w2 ⟨rfl,rfl⟩
   have hIt:=it_wr (w:=wr.alloc (.cells #[.map (some w.heap.size)] 205)) (g:=wr.heap.size) ekR_inj und_row (HM.out.1.below ((Below.refl wr.heap.size wr).alloc (Nat.le_refl _) _) (Nat.le_refl _)) ((Blk.new (w:=wr) (k:=wr.heap.size) (ty:=205) (arr:=#[.map (some w.heap.size)]) (cs:=[.map (some w.heap.size)]) rfl rfl).cellOf (i:=0) rfl)
   have HS:=Box.mk (srtd_wr en_wr hIt (by omega) (fun xs hxs=>by have:=hxs.length_eq;rw [List.length_map] at this;omega))
   have HB:=Box.mk (HM.out.2.new (Nat.le_refl _) (.cells #[.map (some w.heap.size)] 205))
   clear hIt HM
   go_wp2_with fail
   refine HS.out.mono ?_
   rintro e w3 ⟨hb3,ys,a,c,⟨hso,xs,hx,hp⟩,rfl,hrow⟩
   obtain rfl:=HC.out ys xs hp hx hso
   have HR:=Box.mk (And.intro (HB.out.trans (hb3.mono HB.out.size)) (own_base hrow HB.out.size))
   clear hb3 hrow hp hx hso
   go_wp2_with fail
   go_ret
   exact ⟨HR.out.1,a,c,rfl,HR.out.2⟩
end
section
open Go.RowKit Go.Maps
theorem own_lift {w:World} {e:TypeId} {size n cap B:Nat} {a:Option Addr} {xs:List Value} (h:w.ownsRow 0 e size (.slice a n cap) n xs) (hB:∀k,(Value.slice a n cap).ownBlock=some k→B≤k):w.ownsRow B e size (.slice a n cap) n xs:=by
 obtain ⟨hl,hd⟩:=h
 refine ⟨hl,?_⟩
 rcases hd with hn | ⟨g,c,cur,hv,_,r⟩
 ·exact .inl hn
 ·exact .inr ⟨g,c,cur,hv,hB g (by rw [hv];rfl),r⟩
theorem Own.rowB {B:Nat} {w:World} {l:List HP} (O:Own B w l) (i:Nat) {e:TypeId} {size:Nat} {a:Option Addr} {n cap:Nat} {xs:List Value} (hi:l[i]?=some (RowP e size a n cap xs)):w.ownsRow B e size (.slice a n cap) n xs:=by
 obtain ⟨F,⟨h1,hF⟩,hB⟩:=O.get i hi
 exact own_lift h1 (fun k hk=>hB k (by rw [hF];simpa using hk))
structure TxP where
 last:Int
 shown:Int
 begun:Int
 ka:Option Addr
 kc:Nat
 kept:List TnP
 ba:Nat
 act:List (Int×TnP)
 deriving Inhabited
def TxP.cs (X:TxP):List Value:=[.int .i64 X.last,.int .i64 X.shown,.int .i64 X.begun,.slice X.ka X.kept.length X.kc,.map (some X.ba)]
def pV (p:Nat):Value:=.pointer (some ⟨p,0,none⟩)
def ptrT (t:TnP):Value:=pV t.p
def TxP.all (X:TxP):List TnP:=X.kept++X.act.map (·.2)
def TxP.am (X:TxP):List (Int×Nat):=X.act.map fun q=>(q.1,q.2.p)
structure TxsRd (w:World) (g:Nat) (X:TxP):Prop where
 blk:Blk w g 68 X.cs
 kp:Rd w X.ka X.kept.length X.kc 1 (X.kept.map ptrT)
 mp:MapT Tryz.prog 3 kI pV w X.ba X.am
 tn:∀t∈X.all,TnRd w t
theorem TxsRd.below {w w':World} {B g:Nat} {X:TxP} (h:TxsRd w g X) (hb:Below B w w') (hB:w.heap.size≤B):TxsRd w' g X:=⟨h.blk.below hb hB,h.kp.below hb hB,h.mp.below hb hB,fun t ht=>(h.tn t ht).below hb hB⟩
structure TxOk (X:TxP):Prop where
 asc:(X.act.map (·.1)).Pairwise (·<·)
 i64:∀q∈X.act,In64 q.1
 tn:∀t∈X.all,TnOk t
 nd:(X.all.map TnP.p).Nodup
 len:X.all.length≤100
theorem TxP.cells {w:World} {g:Nat} {T:TypeId} {X:TxP} (h:Blk w g T X.cs):w.cell? ⟨g,0,none⟩=some (.int .i64 X.last)∧w.cell? ⟨g,1,none⟩=some (.int .i64 X.shown)∧w.cell? ⟨g,2,none⟩=some (.int .i64 X.begun) ∧
  w.cell? ⟨g,3,none⟩=some (.slice X.ka X.kept.length X.kc)∧w.cell? ⟨g,4,none⟩=some (.map (some X.ba)):=⟨h.cellOf rfl,h.cellOf rfl,h.cellOf rfl,h.cellOf rfl,h.cellOf rfl⟩
theorem keysA_am (X:TxP):keysA X.am=X.act.map (·.1):=by unfold keysA TxP.am;rw [List.map_map];rfl
theorem keyI {x:Int} (h:In64 x):keyOf Tryz.prog 3 (kI x)=some (.int .i64 x):=key_int h
set_option maxRecDepth 20000 in
theorem z_ptx:∀w,(zeroValue 95).run Tryz.prog w=.ok (.pointer none) w:=fun w=>by rfl
set_option maxRecDepth 20000 in
set_option maxHeartbeats 2000000 in
theorem active_any {g:Nat} {X:TxP} {w:World} (h:TxsRd w g X) (ok:TxOk X):Calls Tryz.prog 25 #[.pointer (some ⟨g,0,none⟩)] w (RetOwn 3 1 (X.act.map (·.1)).length (intVals (X.act.map (·.1))) w):=by
 obtain ⟨x0,x1,x2,x3,x4⟩:=TxP.cells h.blk
 have hal:X.am.length≤100:=by
  have:=ok.len
  unfold TxP.all at this
  unfold TxP.am
  simp only [List.length_append,List.length_map] at this ⊢
  omega
 have HH:=Box.mk h
 have HC:=Box.mk (fun (ys xs:List Int) (hp:ys.Perm xs) (hx:xs.Perm (X.am.map (·.1))) (ho:ys.Pairwise (·≤·))=>show ys=X.act.map (·.1) from by
  have h1:X.am.map (·.1)=X.act.map (·.1):=keysA_am X
  rw [h1] at hx
  exact perm_sorted_eq (hp.trans hx) ho (ok.asc.imp fun {a b} h=>Int.le_of_lt h) (fun a _ b _ h1 h2=>Int.le_antisymm h1 h2))
 clear h ok
 go_enter Tryz.func25,Tryz.ntmps25
 go_wp2_with fail
 refine (mk_ptx X.ba w).mono ?_
 rintro e w2 ⟨rfl,rfl⟩
 have hIt:=it_ptx (w:=w.alloc (.cells #[.map (some X.ba)] 65)) (g:=w.heap.size) und_act (HH.out.mp.below ((Below.refl w.heap.size w).alloc (Nat.le_refl _) _) (Nat.le_refl _)) ((Blk.new (w:=w) (k:=w.heap.size) (ty:=65) (arr:=#[.map (some X.ba)]) (cs:=[.map (some X.ba)]) rfl rfl).cellOf (i:=0) rfl)
 have HS:=Box.mk (srtd_int en_ptx hIt (by omega) (fun xs hxs=>by have:=hxs.length_eq;rw [List.length_map] at this;omega))
 have HB:=Box.mk ((Below.refl w.heap.size w).alloc (Nat.le_refl _) (.cells #[.map (some X.ba)] 65))
 clear hIt
 go_wp2_with fail
 refine HS.out.mono ?_
 rintro e w3 ⟨hb3,ys,a,c,⟨hso,xs,hx,hp⟩,rfl,hrow⟩
 obtain rfl:=HC.out ys xs hp hx hso
 have HR:=Box.mk (And.intro (HB.out.trans (hb3.mono HB.out.size)) (own_base hrow HB.out.size))
 clear hb3 hrow hp hx hso
 go_wp2_with fail
 go_ret
 exact ⟨HR.out.1,a,c,by rw [List.length_map];rfl,by rw [← recC_encI];exact HR.out.2⟩
theorem mp_get {X:TxP} (ok:TxOk X) {j:Nat} (hj:j<X.act.length):getA X.am (X.act.getD j default).1=some (X.act.getD j default).2.p:=by
 have hn:(keysA X.am).Nodup:=by rw [keysA_am];exact ok.asc.imp fun {a b} h e=>by omega
 refine getA_of_mem hn ?_
 have hm:=getD_mem (l:=X.act) (i:=j) hj
 exact List.mem_map.2 ⟨_,hm,rfl⟩
set_option maxRecDepth 20000 in
set_option maxHeartbeats 4000000 in
theorem all_any {g:Nat} {X:TxP} {w:World} (h:TxsRd w g X) (ok:TxOk X):Calls Tryz.prog 37 #[.pointer (some ⟨g,0,none⟩)] w (RetOwn 95 1 X.all.length (X.all.map ptrT) w):=by
 obtain ⟨x0,x1,x2,x3,x4⟩:=TxP.cells h.blk
 have HH:=Box.mk h
 have OK:=Box.mk ok
 have hal:=ok.len
 have hal2:X.all.length=X.kept.length+X.act.length:=by unfold TxP.all;simp
 have HCL:=Box.mk (clone_ptx h.kp (by intro u hu;obtain ⟨t,_,rfl⟩:=List.mem_map.1 hu;rfl) (by omega))
 clear h ok
 go_enter Tryz.func37,Tryz.ntmps37
 go_wp2_with fail
 refine HCL.out.mono ?_
 rintro e w1 ⟨hb1,a1,c1,rfl,hrow⟩
 have O1:=Box.mk ((Own.start w).newRow hb1 hrow (Nat.le_refl _))
 have B1:=Box.mk hb1
 clear x0 x1 x2 x3 x4 hb1 hrow HCL
 go_wp2_with fail
 refine (active_any (HH.out.below B1.out (Nat.le_refl _)) OK.out).mono ?_
 rintro e w2 ⟨hb2,a2,c2,rfl,hrow⟩
 have O2:=Box.mk ((O1.out.newRow hb2 hrow (Nat.le_refl _)).toRd 1 rfl)
 have O2:=Box.mk (show Own w.heap.size w2 [RowP 95 1 a1 X.kept.length c1 (X.kept.map ptrT),RdP 1 a2 (X.act.map (·.1)).length c2 (intVals (X.act.map (·.1)))] from O2.out)
 have B2:=Box.mk (B1.out.trans (hb2.mono B1.out.size))
 clear hb2 hrow B1 O1
 obtain ⟨n,hn⟩:∃n,X.act.length=n:=⟨_,rfl⟩
 obtain ⟨m,hm⟩:∃m,X.kept.length=m:=⟨_,rfl⟩
 rw [List.length_map,hn]
 rw [List.length_map,hn,hm] at O2
 rw [hm]
 rw [hn,hm] at hal2
 have HNM:=Box.mk (And.intro hn hm)
 clear hn hm
 go_wp2_with fail
 go_loopg [3,5,14] n (fun gg s3 _ s14 wr=>∃ (k:Nat) (a3:Option Addr) (c3:Nat),k≤n∧n - k≤gg∧s14=.int .i64 k∧s3=.slice a3 (m+k) c3 ∧
  Box (Own w.heap.size wr [RowP 95 1 a3 (m+k) c3 (X.kept.map ptrT++(X.act.take k).map fun q=>ptrT q.2),RdP 1 a2 n c2 (intVals (X.act.map (·.1)))]∧Below w.heap.size w wr))
 case atStart=>exact ⟨0,a1,c1,Nat.zero_le _,by omega,rfl,rfl,⟨by simpa using O2.out,B2.out⟩⟩
 clear O2 B2
 case round =>
  obtain ⟨k,a3,c3,hk,hg,rfl,rfl,HI⟩:=hrel
  by_cases hlt:k<n
  ·obtain ⟨b,off,rfl,hc⟩:=(HI.out.1.rd 1 rfl).intAtD k hlt
   have hkl:k<X.act.length:=by rw [HNM.out.1];exact hlt
   have hq:(X.act.map (·.1)).getD k 0=(X.act.getD k default).1:=by
    rw [List.getD_eq_getElem?_getD,List.getElem?_map,List.getD_eq_getElem?_getD,List.getElem?_eq_getElem hkl];rfl
   rw [hq] at hc
   have hi:=OK.out.i64 _ (getD_mem (l:=X.act) (i:=k) hkl)
   have hlook:=((HH.out.below HI.out.2 (Nat.le_refl _)).mp).look (t:=65) (e:=95) K_int kI_inj und_act z_ptx (keyI hi)
   rw [mp_get OK.out hkl] at hlook
   have htk:X.act.take (k+1)=X.act.take k++[X.act.getD k default]:=by rw [List.take_add_one,List.getElem?_eq_getElem hkl,List.getD_eq_getElem?_getD,List.getElem?_eq_getElem hkl];rfl
   have HTK:=Box.mk htk
   obtain ⟨x0,x1,x2,x3,x4⟩:=TxP.cells (HH.out.below HI.out.2 (Nat.le_refl _)).blk
   generalize X.act.getD k default=q at *
   obtain ⟨qn,qt⟩:=q
   simp only [kI,pV,Option.map_some,Option.getD_some] at hlook hc
   clear hq hi htk
   go_wp2_with (at_builtin;refine wpList_append_O rfl _ _ 66 66 rfl sl_ptx (.inl sl_ptx.ht) (HI.out.1.alloc _) 0 rfl rfl rfl (Src.oneNew _ _ _ rfl) (by omega) (by unfold maxLen;omega) ?_;intro a9 c9 w9 O9 hb9)
   go_roundg (n - (k+1))
   case measure=>omega
   case rel=>exact ⟨k+1,a9,c9,by omega,by omega,by go_num,rfl,⟨by rw [HTK.out,List.map_append,← List.append_assoc];exact O9,(HI.out.2.alloc HI.out.2.size _).trans hb9⟩⟩
  ·obtain rfl:k=n:=by omega
   go_wp2_with fail
   go_ret
   refine ⟨HI.out.2,a3,c3,by rw [hal2];rfl,?_⟩
   have h1:=HI.out.1.rowB 0 rfl
   have h2:X.kept.map ptrT++(X.act.take k).map (fun q=>ptrT q.2)=X.all.map ptrT:=by
    rw [List.take_of_length_le (by rw [HNM.out.1];exact Nat.le_refl _)]
    unfold TxP.all
    rw [List.map_append,List.map_map];rfl
   rw [h2] at h1
   rw [hal2]
   exact h1
end
section
open Go.RowKit Go.Maps
structure RdD where
 a:Option Addr
 n:Nat
 cap:Nat
 size:Nat
 xs:List Value
def RdD.at (r:RdD) (w:World):Prop:=Rd w r.a r.n r.cap r.size r.xs
def ImmO (G:List RdD):HP:=fun w F=>(∀r∈G,r.at w∧∀ad,r.a=some ad→r.xs≠[]→ad.block∈F)∧∀x∈F,x<w.heap.size
theorem ImmO.stb (G:List RdD):Stb (ImmO G):=by
 refine ⟨fun w F ⟨_,h⟩=>h,fun w w' F ⟨h1,h2⟩ he=>⟨fun r hr=>⟨?_,(h1 r hr).2⟩,fun x hx=>?_⟩⟩
 ·obtain ⟨h,h3⟩:=h1 r hr
  unfold RdD.at at h ⊢
  cases hx:r.xs with
  | nil=>rw [hx] at h;exact ⟨h.hlen,h.hcap,h.hmax,h.hnil,fun ad _ j u hu=>by simp at hu⟩
  | cons y ys=>rw [← hx];exact h.eq (fun ad ha=>he _ (h3 ad ha (by rw [hx];simp)))
 ·have h4:=h2 x hx
  have h5:=he x hx
  rw [Array.getElem?_eq_getElem h4] at h5
  exact (Array.getElem?_eq_some_iff.1 h5).1
theorem Own.imm {B:Nat} {w:World} {l:List HP} (O:Own B w l) (i:Nat) {G:List RdD} (hi:l[i]?=some (ImmO G)) {r:RdD} (hr:r∈G):Rd w r.a r.n r.cap r.size r.xs:=by
 obtain ⟨F,⟨h1,_⟩,_⟩:=O.get i hi
 exact (h1 r hr).1
theorem Own.immStart {B:Nat} {w:World} {l:List HP} (O:Own B w l):Own B w (l++[ImmO []]) :=
 O.more (Below.refl _ _) (ImmO.stb _) (F:=[]) ⟨by simp,by simp⟩ (by simp)
theorem Own.immNew {B:Nat} {w w':World} {l:List HP} (O:Own B w l) (i:Nat) {G:List RdD} (hi:l[i]?=some (ImmO G)) (hb:Below w.heap.size w w') {a:Option Addr} {n cap size:Nat} {xs:List Value} (h:Rd w' a n cap size xs) (h0:∀ad,a=some ad→w.heap.size≤ad.block) :
  Own B w' (l.set i (ImmO (⟨a,n,cap,size,xs⟩::G))):=by
 obtain ⟨F,⟨h1,h2⟩,h3,h4⟩:=O.turn i hi
 have hG:∀r∈G,r.at w'∧∀ad,r.a=some ad→r.xs≠[]→ad.block∈F:=fun r hr=>by
  obtain ⟨h,h5⟩:=h1 r hr
  exact ⟨h.below hb (Nat.le_refl _),h5⟩
 cases hx:xs with
 | nil =>
  refine (h4 _ w' F (ImmO.stb _) (But.ofBelow hb) ⟨fun r hr=>?_,fun x hx=>Nat.lt_of_lt_of_le (h2 x hx) hb.size⟩ (fun x hx=>.inl hx)).1
  rcases List.mem_cons.1 hr with rfl | hr
  ·exact ⟨by rw [hx] at h;exact h,fun _ _ h=>absurd rfl h⟩
  ·exact hG r hr
 | cons y ys =>
  cases a with
  | none=>have:=h.hnil rfl;rw [hx] at this;cases this
  | some ad =>
   have hc:=h.hcell ad rfl 0 y (by rw [hx];rfl)
   have hl:=cell_block_lt hc
   rw [add_block] at hl
   refine (h4 _ w' (ad.block::F) (ImmO.stb _) (But.ofBelow hb) ⟨fun r hr=>?_,fun x hx=>?_⟩ (fun x hx=>?_)).1
   ·rcases List.mem_cons.1 hr with rfl | hr
    ·exact ⟨by rw [hx] at h;exact h,fun ad' h _=>by cases h;simp⟩
    ·exact ⟨(hG r hr).1,fun ad h1 h2=>List.mem_cons_of_mem _ ((hG r hr).2 ad h1 h2)⟩
   ·rcases List.mem_cons.1 hx with rfl | hx
    ·exact hl
    ·exact Nat.lt_of_lt_of_le (h2 x hx) hb.size
   ·rcases List.mem_cons.1 hx with rfl | hx
    ·exact .inr (h0 ad rfl)
    ·exact .inl hx
theorem Own.immTake {B:Nat} {w:World} {l:List HP} {e:TypeId} {size:Nat} {a:Option Addr} {n cap:Nat} {xs:List Value} {G:List RdD} (O:Own B w (ImmO G::RowP e size a n cap xs::l)):Own B w (ImmO (⟨a,n,cap,size,xs⟩::G)::l):=by
 obtain ⟨h1,hs,F,⟨F1,F2,⟨k1,k2⟩,⟨F3,F4,⟨r1,rF⟩,r2,r3,rfl⟩,k4,rfl⟩,hB⟩:=O
 refine ⟨h1,fun P hP=>?_,(F1++F3)++F4,⟨F1++F3,F4,⟨fun r hr=>?_,fun x hx=>?_⟩,r2,fun x hx hm=>?_,rfl⟩,fun x hx=>hB x (by simp only [List.mem_append] at hx ⊢;rcases hx with (hx | hx) | hx<;>simp [hx])⟩
 ·rcases List.mem_cons.1 hP with rfl | hP
  ·exact ImmO.stb _
  ·exact hs P (by simp [hP])
 ·rcases List.mem_cons.1 hr with rfl | hr
  ·refine ⟨Rd.ofOwn r1,fun ad had hne=>List.mem_append.2 (.inr ?_)⟩
   rw [rF,show a=some ad from had];simp [Value.ownBlock]
  ·exact ⟨(k1 r hr).1,fun ad h2 h3=>List.mem_append.2 (.inl ((k1 r hr).2 ad h2 h3))⟩
 ·rcases List.mem_append.1 hx with hx | hx
  ·exact k2 x hx
  ·rw [rF] at hx;exact (r1.lt x (by simpa using hx)).2
 ·rcases List.mem_append.1 hx with hx | hx
  ·exact k4 x hx (List.mem_append.2 (.inr hm))
  ·exact r3 x hx hm
def ObjO (b:Nat) (o:Obj):HP:=fun w F=>w.heap[b]?=some o∧F=[b]
theorem ObjO.stb (b:Nat) (o:Obj):Stb (ObjO b o) :=
 ⟨fun w F ⟨h,hF⟩ x hx=>by subst hF;simp at hx;subst hx;exact (Array.getElem?_eq_some_iff.1 h).1,fun w w' F ⟨h,hF⟩ he=>⟨(he b (by simp [hF])).trans h,hF⟩⟩
theorem Own.obj {B:Nat} {w:World} {l:List HP} (O:Own B w l) (i:Nat) {b:Nat} {o:Obj} (hi:l[i]?=some (ObjO b o)):w.heap[b]?=some o∧B≤b:=by
 obtain ⟨F,⟨h1,rfl⟩,h2⟩:=O.get i hi;exact ⟨h1,h2 b (by simp)⟩
theorem Own.newObj {B:Nat} {w:World} {l:List HP} (O:Own B w l) (o:Obj):Own B (w.alloc o) (l++[ObjO w.heap.size o]) :=
 O.more ((Below.refl _ _).alloc (Nat.le_refl _) _) (ObjO.stb _ _) ⟨heap_alloc_new w o,rfl⟩ (by simp)
theorem Own.turnObj {B:Nat} {w w':World} {l:List HP} (O:Own B w l) (i:Nat) {b:Nat} {o o':Obj} (hi:l[i]?=some (ObjO b o)) (hb:But [b] w w') (h:w'.heap[b]?=some o'):Own B w' (l.set i (ObjO b o'))∧Below B w w':=by
 obtain ⟨F,⟨h1,rfl⟩,h2,h3⟩:=O.turn i hi
 exact h3 _ w' [b] (ObjO.stb _ _) hb ⟨h,rfl⟩ (fun x hx=>.inl hx)
theorem MapR.move {α β:Type} {P:Program} {k:TypeId} {ek:α→Value} {ev:β→Value} {w w':World} {b r:Nat} {l:List (α×β)} {S:List α} (h:MapR P k ek ev w b r l S) (hb:w'.heap[b]?=w.heap[b]?) (hr:w'.heap[r]?=w.heap[r]?):MapR P k ek ev w' b r l S:=h.eq hb hr
theorem MapR.obj {α β:Type} {P:Program} {k:TypeId} {ek:α→Value} {ev:β→Value} {w:World} {b r:Nat} {l:List (α×β)} {S:List α} (h:MapR P k ek ev w b r l S):∃o,w.heap[r]?=some o:=by
 obtain ⟨es,clock,since,seen,c0,hb,h2,h3,h4,hr,h5⟩:=h
 exact ⟨_,hr⟩
def itemI (s:Int×Int):Int:=s.1 * 2147483648+s.2
theorem itemI_lt {a b:Int×Int} (ha:a∈spots) (hb:b∈spots):itemI a<itemI b↔(a.1<b.1∨a.1=b.1∧a.2<b.2):=by
 have h1:=spots_iff.1 ha
 have h2:=spots_iff.1 hb
 unfold itemI;omega
theorem itemI_i64 {a:Int×Int} (ha:a∈spots):In64 (itemI a):=by
 have h1:=spots_iff.1 ha
 unfold itemI In64;omega
set_option maxRecDepth 20000 in
set_option maxHeartbeats 1000000 in
theorem item_any {s:Int×Int} (hs:s∈spots) (w:World):Calls Tryz.prog 39 #[.int .i64 s.1,.int .i64 s.2] w fun e w'=>e=.returned (.int .i64 (itemI s))∧w'=w:=by
 have h1:=spots_iff.1 hs
 obtain ⟨a,b⟩:=s
 simp only at h1 ⊢
 unfold itemI
 simp only
 obtain ⟨h1,h2,h3,h4⟩:=h1
 have ha:a=0∨a=1:=by omega
 rcases ha with rfl | rfl
 ·go_enter Tryz.func39,Tryz.ntmps39
  go_wp2_with fail
  go_ret
  exact ⟨by simp,rfl⟩
 ·go_enter Tryz.func39,Tryz.ntmps39
  go_wp2_with fail
  go_ret
  exact ⟨by simp,rfl⟩
abbrev StO (b:Nat) (m:List (Int×Bool)):HP:=MapO Tryz.prog 3 kI Value.bool b m
theorem Own.stput {B:Nat} {w:World} {l:List HP} (O:Own B w l) (i:Nat) {b:Nat} {m:List (Int×Bool)} (hi:l[i]?=some (StO b m)) {x:Int} (hx:In64 x) :
  ∃w',(Instr.mapUpdate 98 (.map (some b)) (.int .i64 x) (.bool true)).run Tryz.prog w=.ok () w'∧Own B w' (l.set i (StO b (putA m x true)))∧Below B w w':=by
 obtain ⟨w',h1,h2,h3,_⟩:=O.putMap K_int kI_inj und_tset i hi (keyI hx) true
 exact ⟨w',h1,h2,h3⟩
set_option maxRecDepth 20000 in
set_option maxHeartbeats 1000000 in
theorem add_one {B:Nat} {w:World} {l:List HP} (O:Own B w l) (i:Nat) {b:Nat} {m:List (Int×Bool)} (hi:l[i]?=some (StO b m)) {x:Int} (hx:In64 x) {g:Nat} (hg:w.cell? ⟨g,0,none⟩=some (.int .i64 x)) :
  Calls Tryz.prog 38 #[.map (some b),.slice (some ⟨g,0,none⟩) 1 1] w (RetW (.tuple #[]) B (l.set i (StO b (putA m x true))) w):=by
 obtain ⟨w',hrun,O2,hb2⟩:=O.stput i hi hx
 have H2:=Box.mk (And.intro O2 hb2)
 clear O2 hb2 O hi
 go_enter Tryz.func38,Tryz.ntmps38
 go_wp2_with fail
 refine wp_loop_rounds 2 ?_
 rw [rounds_succ]
 go_wp2_with fail
 rw [rounds_succ]
 go_wp2_with fail
 go_end0
 exact ⟨rfl,H2.out.1,H2.out.2⟩
end
section
open Go.RowKit Go.Maps
set_option maxRecDepth 20000 in
theorem z_bool:∀w,(zeroValue 4).run Tryz.prog w=.ok (.bool false) w:=fun w=>by rfl
theorem histF_enters (args:Array Value) (w:World):(callFunc 42 args).run Tryz.prog w=.ok (.enter 42 args) w:=enters_fn Tryz.func42 (by kernel_rfl) (by kernel_rfl) args w
set_option maxRecDepth 20000 in
set_option maxHeartbeats 2000000 in
theorem histF_any {w:World} {t:TnP} {g:Nat} (h:TnRd w t) (hg:w.cell? ⟨g,0,none⟩=some (.pointer (some ⟨t.p,0,none⟩))) (x:WrP) (hx:In64 x.table) :
  Calls Tryz.prog 42 #[x.v,.pointer (some ⟨g,0,none⟩)] w (RetV (.bool false) w):=by
 obtain ⟨xt,xr,xd,xa,xc,xl⟩:=x
 have H1:=Box.mk ((Below.refl w.heap.size w).alloc (Nat.le_refl _) (.cells #[.int .i64 xt,.int .i64 xr,.bool xd,.slice xa xl.length xc] 90))
 have hK:=(Blk.new (w:=w) (k:=w.heap.size) (ty:=90) (arr:=#[.int .i64 xt,.int .i64 xr,.bool xd,.slice xa xl.length xc]) (cs:=[.int .i64 xt,.int .i64 xr,.bool xd,.slice xa xl.length xc]) rfl rfl)
 have hg1:=(H1.out.cell (p:=⟨g,0,none⟩) (cell_block_lt hg)).trans hg
 obtain ⟨x0,x1,x2,x3,x4,x5,x6⟩:=TnP.cells (h.blk.below H1.out (Nat.le_refl _))
 have hl:=fun q=>((h.whole.below H1.out (Nat.le_refl _)).eq (w':=World.drewN (w.alloc (.cells #[.int .i64 xt,.int .i64 xr,.bool xd,.slice xa xl.length xc] 90)) q) rfl).look (t:=98) (e:=4) K_int kI_inj und_tset z_bool (keyI hx)
 clear h hg x0 x1 x2 x3 x4 x5
 unfold WrP.v
 simp only [kI] at hl ⊢
 go_enter Tryz.func42,Tryz.ntmps42
 go_upto_region 1 with fail
 generalize (w.alloc (.cells #[.int .i64 xt,.int .i64 xr,.bool xd,.slice xa xl.length xc] 90))=w1 at *
 have k0:=hK.cellOf (i:=0) rfl
 clear hK
 go_quiet (fail)
 go_wp2_with fail
 go_ret
 exact ⟨rfl,below_drewN H1.out _⟩
end
end Go.Proofs.YtlfghapllmaigaaGreatDoor
