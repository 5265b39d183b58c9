/-
  The walk of history's Explain. Conditions: each theorem's own hypotheses.
-/
import Derived.Test.YtlfghapllmaigaaGreatDoorK30
import Derived.Test.YtlfghapllmaigaaGreatDoorK12
set_option linter.unusedVariables false
set_option linter.unusedSimpArgs false
namespace Go.Proofs.YtlfghapllmaigaaGreatDoor
section
open Go.RowKit Go.Maps
attribute [local go_sem] Oper.semAt_some
theorem oper_look {P:Program} {w:World} {ops:Array Oper} {o:Oper} {a:Act} {K:Act→World→Prop} {Q:Exit→Act→World→Prop} (hgd:Region.wanted o (yielded ops a.tmps)=true) (t:TypeId) (m k:Operand) (ok:Bool) (ho:o.op=.lookup t m k ok) {b kv v:Value} (hm:a.eval m=b) (hk:a.eval k=kv)
  (hrun:(Instr.lookup t b kv ok).run P w=.ok v w) (h:K (a.put o.dst v) w):if Region.wanted o (yielded ops a.tmps)=true then Oper.wp P o a w K Q else K (a.put o.dst undef) w:=by
 refine oper_val hgd (v:=v) ?_ h
 unfold execOp
 simp only [ho,hm,hk,Sem.run_bind,hrun,Result.andThen_ok,Sem.run_pure]
theorem sl_hp:SlT Tryz.prog 34 84 (.agg #[.int .i64 0,.int .i64 0,.int .i64 0,.slice none 0 0,.slice none 0 0]) 5 72:=⟨by kernel_rfl,by kernel_rfl,rfl⟩
def rowsOf (l:List (Int×SlP)):List HP:=l.map fun p=>p.2.row
theorem perm_eraseIdx {α:Type}:∀ (l:List α) (i:Nat) (h:i<l.length),(l[i]::l.eraseIdx i).Perm l
 | [],_,h=>by cases h
 | x::r,0,h=>List.Perm.refl _
 | x::r,i+1,h=>by
  simp only [List.getElem_cons_succ,List.eraseIdx_cons_succ]
  exact (List.Perm.swap _ _ _).trans ((perm_eraseIdx r i (by simpa using h)).cons _)
theorem perm_setIdx {α:Type} (a:α):∀ (l:List α) (i:Nat) (_:i<l.length),(l.set i a).Perm (a::l.eraseIdx i)
 | [],_,h=>by cases h
 | x::r,0,h=>List.Perm.refl _
 | x::r,i+1,h=>by
  simp only [List.set_cons_succ,List.eraseIdx_cons_succ]
  exact ((perm_setIdx a r i (by simpa using h)).cons _).trans (List.Perm.swap _ _ _)
theorem perm_del {α β:Type} [DecidableEq α] {l:List (α×β)} (hn:(keysA l).Nodup) {x:α} {s:β} (h:getA l x=some s):l.Perm ((x,s)::delA l x):=by
 obtain ⟨j,hj,he⟩:=List.getElem_of_mem (getA_mem h)
 have h2:l[j]?=some (x,s):=by rw [List.getElem?_eq_getElem hj,he]
 rw [delA_erase hn h2,← he]
 exact (perm_eraseIdx l j hj).symm
theorem perm_put {α β:Type} [DecidableEq α] {l:List (α×β)} (hn:(keysA l).Nodup) (x:α) (s:β):(putA l x s).Perm ((x,s)::delA l x):=by
 cases h:getA l x with
 | none =>
  have hx:=getA_none.1 h
  rw [putA_new hx,delA_none hx]
  exact List.perm_append_comm
 | some s0 =>
  obtain ⟨j,hj,he⟩:=List.getElem_of_mem (getA_mem h)
  have h2:l[j]?=some (x,s0):=by rw [List.getElem?_eq_getElem hj,he]
  rw [putA_set hn h2,delA_erase hn h2]
  exact perm_setIdx _ l j hj
theorem Own.seenOpen {B bs:Nat} {w:World} {F:List HP} {l:List (Int×SlP)} (hn:(keysA l).Nodup) (x:Int) (O:Own B w (F++SlsO bs l::rowsOf l)):∃s:SlP,(getA l x=some s∨getA l x=none∧s=⟨none,0,[]⟩)∧Own B w (s.row::SlsO bs l::(F++rowsOf (delA l x))):=by
 cases h:getA l x with
 | none =>
  refine ⟨⟨none,0,[]⟩,.inr ⟨rfl,rfl⟩,?_⟩
  rw [delA_none (getA_none.1 h)]
  have O1:=O.nilRow 84 5
  refine O1.perm ?_
  refine List.perm_append_comm.trans ?_
  show (_::_).Perm _
  exact (List.perm_middle).cons _
 | some s =>
  refine ⟨s,.inl rfl,?_⟩
  have hp:(rowsOf l).Perm (s.row::rowsOf (delA l x)):=(perm_del hn h).map _
  refine O.perm ?_
  refine ((hp.cons _).append_left F).trans ?_
  refine (List.perm_middle).trans ?_
  refine (List.Perm.cons _ List.perm_middle).trans ?_
  exact List.Perm.swap _ _ _
theorem Own.seenShut {B bs:Nat} {w:World} {F:List HP} {l:List (Int×SlP)} (hn:(keysA l).Nodup) {x:Int} {s:SlP} (O:Own B w (s.row::SlsO bs (putA l x s)::(F++rowsOf (delA l x)))):Own B w (F++SlsO bs (putA l x s)::rowsOf (putA l x s)):=by
 have hp:(rowsOf (putA l x s)).Perm (s.row::rowsOf (delA l x)):=(perm_put hn x s).map _
 refine O.perm ?_
 refine (List.Perm.swap _ _ _).trans ?_
 refine (List.Perm.cons _ List.perm_middle.symm).trans ?_
 refine List.perm_middle.symm.trans ?_
 exact ((hp.symm.cons _).append_left F)
def SeenI (h:List HpP) (f:Nat→Sg) (n k:Nat) (l:List (Int×SlP)):Prop:=∀p∈l,p.2.xs.length≤k∧∀e∈p.2.xs,e∈h∧∀j:Nat,p.1=j→e.rows=rowsH (f n).cw j
theorem SeenI.more {h:List HpP} {f:Nat→Sg} {n k:Nat} {l:List (Int×SlP)} (hs:SeenI h f n k l):SeenI h f n (k+1) l:=fun p hp=>⟨by have:=(hs p hp).1;omega,(hs p hp).2⟩
theorem mem_putA2 {α β:Type} [DecidableEq α] {l:List (α×β)} (hn:(keysA l).Nodup) {x:α} {v:β} {p:α×β} (h:p∈putA l x v):p=(x,v)∨p∈l:=by
 have h1:=(perm_put hn x v).mem_iff.1 h
 rcases List.mem_cons.1 h1 with h1 | h1
 ·exact .inl h1
 ·exact .inr ((mem_delA hn).1 h1).1
theorem SeenI.put {h:List HpP} {f:Nat→Sg} {n k:Nat} {l:List (Int×SlP)} (hs:SeenI h f n k l) (hn:(keysA l).Nodup) {x:Int} {s:SlP} (hg:getA l x=some s∨getA l x=none∧s=⟨none,0,[]⟩) {e:HpP} (he:e∈h) (hr:∀j:Nat,x=j→e.rows=rowsH (f n).cw j) (a:Option Addr) (c:Nat):SeenI h f n (k+1) (putA l x ⟨a,c,s.xs++[e]⟩):=by
 have hx:s.xs.length≤k∧∀e∈s.xs,e∈h∧∀j:Nat,x=j→e.rows=rowsH (f n).cw j:=by
  rcases hg with hg | ⟨_,rfl⟩
  ·exact hs (x,s) (getA_mem hg)
  ·exact ⟨Nat.zero_le _,by simp⟩
 intro p hp
 rcases mem_putA2 hn hp with rfl | hp
 ·refine ⟨by simp;omega,fun e2 he2=>?_⟩
  rcases List.mem_append.1 he2 with h2 | h2
  ·exact hx.2 e2 h2
  ·rw [List.mem_singleton.1 h2];exact ⟨he,hr⟩
 ·exact hs.more p hp
theorem SeenI.len {h:List HpP} {f:Nat→Sg} {n k:Nat} {l:List (Int×SlP)} (hs:SeenI h f n k l) {x:Int} {s:SlP} (hg:getA l x=some s∨getA l x=none∧s=⟨none,0,[]⟩):s.xs.length≤k:=by
 rcases hg with hg | ⟨_,rfl⟩
 ·exact (hs (x,s) (getA_mem hg)).1
 ·exact Nat.zero_le _
theorem look_seen {w:World} {bs:Nat} {l:List (Int×SlP)} (hm:MapT Tryz.prog 3 kI SlP.v w bs l) {x:Int} (h64:In64 x) {s:SlP} (hg:getA l x=some s∨getA l x=none∧s=⟨none,0,[]⟩) :
  (Instr.lookup 147 (.map (some bs)) (.int .i64 x) false).run Tryz.prog w=.ok (.slice s.a s.xs.length s.c) w:=by
 have hlook:=hm.look (t:=147) (e:=34) K_int kI_inj und_mih z_hps (keyI h64)
 rcases hg with hg | ⟨hg,rfl⟩<;>rw [hg] at hlook<;>exact hlook
def RetEx (ids:List Int) (w:World) (e:Ending) (w':World):Prop:=Below w.heap.size w w'∧∃ (a:Option Addr) (c:Nat),e=.returned (.tuple #[.slice a ids.length c,.bool true,.int .i64 0])∧Rd w' a ids.length c 1 (intVals ids)
set_option maxRecDepth 100000 in
set_option maxHeartbeats 16000000 in
theorem explain_any {h:List HpP} {f:Nat→Sg} (r:Run h f) {a:Option Addr} {n c:Nat} {w:World} (hr:HsRd w a n c h) (hn:n≤400) :
  Calls Tryz.prog 15 #[.slice a n c] w (RetEx (f n).ids w):=by
 have HR:=Box.mk hr
 have HL:=Box.mk hr.len
 have RU:=Box.mk r
 have hmm:=@run_makeMap Tryz.prog
 obtain ⟨L,hL⟩:∃L,(f n).com.length=L:=⟨_,rfl⟩
 have HCL:=Box.mk hL
 have HIL:=Box.mk (show (f n).ids.length=L from by unfold Sg.ids;rw [List.length_map];exact hL)
 have hL400:L≤400:=by
  have:=(r.len n (by rw [hr.len];exact Nat.le_refl _)).2
  omega
 have hmx:=hr.rd.lenMax
 have O1:=Box.mk (show Own w.heap.size (w.alloc (.cells #[.slice a n c] 34)) [BlkP w.heap.size 34 [.slice a n c]] from (Own.start w).new [.slice a n c] 34)
 have B1:=Box.mk ((Below.refl w.heap.size w).alloc (Nat.le_refl _) (.cells #[.slice a n c] 34))
 clear hr r hL
 go_enter Tryz.func15,Tryz.ntmps15
 go_upto_region 1 with fail
 obtain ⟨g1,hg1⟩:∃g1,w.heap.size=g1:=⟨_,rfl⟩
 have HG1:=Box.mk hg1
 have O1:=Box.mk (show Own w.heap.size (w.alloc (.cells #[.slice a n c] 34)) [BlkP g1 34 [.slice a n c]] from by rw [← HG1.out];exact O1.out)
 simp only [hg1]
 generalize (w.alloc (.cells #[.slice a n c] 34))=w1 at *
 clear hg1
 have HRI:=Box.mk (right_any RU.out (HR.out.below B1.out (Nat.le_refl _)) hn)
 have y1:=(O1.out.blk 0 rfl).1.cellOf (i:=0) rfl
 go_wp2_with fail
 refine HRI.out.mono ?_
 rintro e w2 ⟨rfl,hb2⟩
 have O2:=Box.mk (O1.out.below hb2)
 have B2:=Box.mk (B1.out.trans (hb2.mono O1.out.1))
 have HSP:=Box.mk (spans_any RU.out (HR.out.below B2.out (Nat.le_refl _)) hn)
 rw [HCL.out] at HSP
 clear hb2 O1 B1 HRI y1
 have y1:=(O2.out.blk 0 rfl).1.cellOf (i:=0) rfl
 go_wp2_with fail
 refine HSP.out.mono ?_
 rintro e w3 ⟨hb3,bw,bk,lw,rfl,hlw,hO3⟩
 have O3:=Own.join O2.out hb3 hO3
 have O3:=Box.mk (show Own w.heap.size w3 [BlkP g1 34 [.slice a n c],SpnO bw lw,IntO bk (knownL (f n).ids L)] from O3)
 have B3:=Box.mk (B2.out.trans (hb3.mono O2.out.1))
 clear hb3 hO3 O2 B2 HSP y1
 have O4:=Box.mk ((O3.out.new [.map (some bw)] 140).new [.map (some bk)] 30)
 have B4:=Box.mk ((B3.out.alloc B3.out.size (.cells #[.map (some bw)] 140)).alloc (by have:=B3.out.size;simp;omega) (.cells #[.map (some bk)] 30))
 simp only [World.size_alloc,List.nil_append,List.cons_append] at O4
 go_upto_region 4 with fail
 generalize w3.heap.size=g5 at *
 generalize ((w3.alloc (.cells #[.map (some bw)] 140)).alloc (.cells #[.map (some bk)] 30))=w4 at *
 have HLE:=Box.mk (length_any RU.out (HR.out.below B4.out (Nat.le_refl _)))
 rw [HCL.out] at HLE
 have y1:=(O4.out.blk 0 rfl).1.cellOf (i:=0) rfl
 clear O3 B3
 go_wp2_with fail
 refine HLE.out.mono ?_
 rintro e w5 ⟨rfl,hb5⟩
 have O6:=(O4.out.below hb5).new [.int .i64 (L:Int)] 3
 simp only [List.nil_append,List.cons_append] at O6
 have O6:=Box.mk O6
 have B6:=Box.mk ((B4.out.trans (hb5.mono O4.out.1)).alloc (Nat.le_trans O4.out.1 hb5.size) (.cells #[.int .i64 (L:Int)] 3))
 clear hb5 O4 B4 HLE y1
 go_upto_region 5 with fail
 generalize w5.heap.size=g7 at *
 generalize (w5.alloc (.cells #[.int .i64 (L:Int)] 3))=w6 at *
 have hml:=(O6.out.map 2 rfl).1.len und_mii 3
 rw [knownL_len] at hml
 have y7:=(O6.out.blk 5 rfl).1.cellOf (i:=0) rfl
 have y6:=(O6.out.blk 4 rfl).1.cellOf (i:=0) rfl
 have y5:=(O6.out.blk 3 rfl).1.cellOf (i:=0) rfl
 have hwrap:IntKind.i64.wrap ((L:Int) - (L:Int))=0:=by rw [Int.sub_self];rfl
 go_wp2_with fail
 refine (mk_span bw w6).mono ?_
 rintro e w7 ⟨rfl,rfl⟩
 have hIt:=it_span (w:=w6.alloc (.cells #[.map (some bw)] 140)) (g:=w6.heap.size) und_mis ((O6.out.map 1 rfl).1.below ((Below.refl w6.heap.size w6).alloc (Nat.le_refl _) _) (Nat.le_refl _)) ((Blk.new (w:=w6) (k:=w6.heap.size) (ty:=140) (arr:=#[.map (some bw)]) (cs:=[.map (some bw)]) rfl rfl).cellOf (i:=0) rfl)
 have HS:=Box.mk (srtd_int en_span hIt (by omega) (fun xs hxs=>by have:=hxs.length_eq;rw [List.length_map] at this;omega))
 have O7:=Box.mk (O6.out.alloc (.cells #[.map (some bw)] 140))
 have B7:=Box.mk (B6.out.alloc B6.out.size (.cells #[.map (some bw)] 140))
 clear hIt hml y5 y6 y7 hwrap O6 B6
 go_wp2_with fail
 refine HS.out.mono ?_
 rintro e w8 ⟨hb8,ys,a8,c8,_,rfl,hrow⟩
 have O8:=Box.mk (O7.out.below hb8)
 have B8:=Box.mk (B7.out.trans (hb8.mono O7.out.1))
 generalize ys.length=yn
 clear hb8 hrow O7 B7 HS
 have B9:=Box.mk (B8.out.alloc B8.out.size (.cells #[.slice a8 yn c8] 44))
 have O9:=Box.mk (O8.out.new [.slice a8 yn c8] 44)
 simp only [List.nil_append,List.cons_append] at O9
 go_upto_region 8 with fail
 clear O8 B8
 generalize w8.heap.size=g8 at *
 generalize (w8.alloc (.cells #[.slice a8 yn c8] 44))=w9 at *
 have O10:=(Own.newMap (P:=Tryz.prog) (k:=3) (ek:=kI) (ev:=SlP.v) O9.out).new [.map (some w9.heap.size)] 147
 have B10:=Box.mk ((B9.out.alloc B9.out.size (.map #[] 0)).alloc (by have:=B9.out.size;simp;omega) (.cells #[.map (some w9.heap.size)] 147))
 simp only [World.size_alloc,List.nil_append,List.cons_append] at O10
 have O10:=Box.mk O10
 go_upto_region 9 with fail
 clear O9 B9
 generalize w9.heap.size=bs at *
 generalize ((w9.alloc (.map #[] 0)).alloc (.cells #[.map (some bs)] 147))=w10 at *
 have O10:=Box.mk (show Own w.heap.size w10 ([BlkP g1 34 [.slice a n c],SpnO bw lw,IntO bk (knownL (f n).ids L),BlkP g5 140 [.map (some bw)],BlkP (g5+1) 30 [.map (some bk)],BlkP g7 3 [.int .i64 (L:Int)],BlkP g8 44 [.slice a8 yn c8],BlkP (bs+1) 147 [.map (some bs)]]++SlsO bs []::rowsOf []) from O10.out.perm ((List.Perm.refl _).trans (by
  refine (List.Perm.cons _ ?_)
  refine (List.Perm.cons _ ?_)
  refine (List.Perm.cons _ ?_)
  refine (List.Perm.cons _ ?_)
  refine (List.Perm.cons _ ?_)
  refine (List.Perm.cons _ ?_)
  refine (List.Perm.cons _ ?_)
  exact List.Perm.swap _ _ _)))
 have y1:=(O10.out.blk 0 rfl).1.cellOf (i:=0) rfl
 go_wp2_with fail
 clear y1
 go_loopg [36] n (fun gg s36 wr=>∃k:Nat,k≤n∧n - k≤gg∧s36=.int .i64 k∧Box (∃l,Own w.heap.size wr ([BlkP g1 34 [.slice a n c],SpnO bw lw,IntO bk (knownL (f n).ids L),BlkP g5 140 [.map (some bw)],BlkP (g5+1) 30 [.map (some bk)],BlkP g7 3 [.int .i64 (L:Int)],BlkP g8 44 [.slice a8 yn c8],BlkP (bs+1) 147 [.map (some bs)]]++SlsO bs l::rowsOf l)∧Below w.heap.size w wr∧SeenI h f n k l))
 case atStart=>exact ⟨0,Nat.zero_le _,by omega,rfl,⟨[],O10.out,B10.out,by intro p hp;cases hp⟩⟩
 clear O10 B10
 case round =>
  obtain ⟨k,hk,hg,rfl,HI⟩:=hrel
  obtain ⟨l,hO,hB,hsn⟩:=HI.out
  have HI:=Box.mk (And.intro hO (And.intro hB hsn))
  clear hO hB hsn
  by_cases hlt:k<n
  ·obtain ⟨b,off,x,rfl,hx,hxm,hxr,c0,c1,c2',c3',c4'⟩:=(HR.out.below HI.out.2.1 (Nat.le_refl _)).at k hlt
   have hst:=RU.out.step k (by rw [HL.out];exact hlt)
   have hlen:=RU.out.len k (by rw [HL.out];exact hk)
   rw [hx] at hst
   have HXM:=Box.mk hxm
   obtain ⟨xk,xt,xs,wa,wc,ws,ra,rc,rs⟩:=x
   simp only at c0 c1 c2' c3' c4'
   obtain ⟨wn,hwn⟩:∃wn,ws.length=wn:=⟨_,rfl⟩
   obtain ⟨rn,hrn⟩:∃rn,rs.length=rn:=⟨_,rfl⟩
   rw [hwn] at c3'
   rw [hrn] at c4'
   have HWN:=Box.mk (And.intro hwn hrn)
   have O4:=Box.mk (HI.out.1.newF [.int .i64 xk,.int .i64 xt,.int .i64 xs,.slice wa wn wc,.slice ra rn rc] 84)
   have B4:=Box.mk (HI.out.2.1.alloc HI.out.2.1.size (.cells #[.int .i64 xk,.int .i64 xt,.int .i64 xs,.slice wa wn wc,.slice ra rn rc] 84))
   have HSN:=Box.mk HI.out.2.2
   have HST:=Box.mk (And.intro hst.kinds hlen)
   clear hx hxm hxr hst hlen HI hwn hrn
   go_upto_region 12 with fail
   clear c0 c1 c2' c3' c4'
   generalize wr.heap.size=gx at *
   generalize (wr.alloc (.cells #[.int .i64 xk,.int .i64 xt,.int .i64 xs,.slice wa wn wc,.slice ra rn rc] 84))=w11 at *
   have y0:=(O4.out.blk 0 rfl).1.cellOf (i:=0) rfl
   by_cases h5:xk=5
   ·subst h5
    rcases HST.out with ⟨⟨h0,_⟩ | ⟨h0,_⟩ | ⟨h0,_⟩ | ⟨_,h2,h3,h4,h5,h6⟩,hlen⟩
    ·omega
    ·omega
    ·omega
    have h64:In64 xs:=by unfold In64;omega
    have hrows:∀j:Nat,xs=j→rs=rowsH (f n).cw j:=fun j hj=>by
     have hj2:(f k).com.length=j:=by omega
     obtain ⟨m,hm⟩:=(RU.out.ext (k:=k) (j:=n) hk (by rw [HL.out];exact Nat.le_refl _)).cw
     rw [hm,h5,← hj2]
     exact (rowsH_more (by unfold Sg.cw;rw [List.length_map];exact Nat.le_refl _) m).symm
    have hnd:=(O4.out.map 9 rfl).1.nodup
    obtain ⟨s,hs,O5⟩:=Own.seenOpen (F:=BlkP gx 84 [.int .i64 5,.int .i64 xt,.int .i64 xs,.slice wa wn wc,.slice ra rn rc]::[BlkP g1 34 [.slice (some ⟨b,off,none⟩) n c],SpnO bw lw,IntO bk (knownL (f n).ids L),BlkP g5 140 [.map (some bw)],BlkP (g5+1) 30 [.map (some bk)],BlkP g7 3 [.int .i64 (L:Int)],BlkP g8 44 [.slice a8 yn c8],BlkP (bs+1) 147 [.map (some bs)]]) hnd xs O4.out
    have HPUT:=Box.mk (fun (a9:Option Addr) (c9:Nat)=>HSN.out.put hnd hs HXM.out hrows a9 c9)
    have hsl:=HSN.out.len hs
    have HLOOK:=Box.mk (fun (W':World) (hm:MapT Tryz.prog 3 kI SlP.v W' bs l)=>look_seen hm h64 hs)
    obtain ⟨sa,sc,sx⟩:=s
    simp only at hsl
    unfold SlP.row at O5
    simp only at O5 HLOOK HPUT
    obtain ⟨m,hm⟩:∃m,sx.length=m:=⟨_,rfl⟩
    have HM:=Box.mk hm
    rw [hm] at O5 HLOOK hsl
    have HND:=Box.mk hnd
    have O5:=Box.mk (show Own w.heap.size w11 (RowP 84 5 sa m sc (recC HpP.enc sx)::SlsO bs l::BlkP gx 84 [.int .i64 5,.int .i64 xt,.int .i64 xs,.slice wa wn wc,.slice ra rn rc]::([BlkP g1 34 [.slice (some ⟨b,off,none⟩) n c],SpnO bw lw,IntO bk (knownL (f n).ids L),BlkP g5 140 [.map (some bw)],BlkP (g5+1) 30 [.map (some bk)],BlkP g7 3 [.int .i64 (L:Int)],BlkP g8 44 [.slice a8 yn c8],BlkP (bs+1) 147 [.map (some bs)]]++rowsOf (delA l xs))) from O5)
    have HKEY:=Box.mk (keyI h64)
    have HSHUT:=Box.mk (fun (W':World) (a9:Option Addr) (c9:Nat) (hO:Own w.heap.size W' (RowP 84 5 a9 (m+1) c9 (recC HpP.enc sx++[.int .i64 5,.int .i64 xt,.int .i64 xs,.slice wa wn wc,.slice ra rn rc])::SlsO bs (putA l xs ⟨a9,c9,sx++[⟨5,xt,xs,wa,wc,ws,ra,rc,rs⟩]⟩)::BlkP gx 84 [.int .i64 5,.int .i64 xt,.int .i64 xs,.slice wa wn wc,.slice ra rn rc]::([BlkP g1 34 [.slice (some ⟨b,off,none⟩) n c],SpnO bw lw,IntO bk (knownL (f n).ids L),BlkP g5 140 [.map (some bw)],BlkP (g5+1) 30 [.map (some bk)],BlkP g7 3 [.int .i64 (L:Int)],BlkP g8 44 [.slice a8 yn c8],BlkP (bs+1) 147 [.map (some bs)]]++rowsOf (delA l xs))))=>show Own w.heap.size W' ([BlkP g1 34 [.slice (some ⟨b,off,none⟩) n c],SpnO bw lw,IntO bk (knownL (f n).ids L),BlkP g5 140 [.map (some bw)],BlkP (g5+1) 30 [.map (some bk)],BlkP g7 3 [.int .i64 (L:Int)],BlkP g8 44 [.slice a8 yn c8],BlkP (bs+1) 147 [.map (some bs)]]++SlsO bs (putA l xs ⟨a9,c9,sx++[⟨5,xt,xs,wa,wc,ws,ra,rc,rs⟩]⟩)::rowsOf (putA l xs ⟨a9,c9,sx++[⟨5,xt,xs,wa,wc,ws,ra,rc,rs⟩]⟩)) from by
     have h1:=Own.seenShut (F:=BlkP gx 84 [.int .i64 5,.int .i64 xt,.int .i64 xs,.slice wa wn wc,.slice ra rn rc]::[BlkP g1 34 [.slice (some ⟨b,off,none⟩) n c],SpnO bw lw,IntO bk (knownL (f n).ids L),BlkP g5 140 [.map (some bw)],BlkP (g5+1) 30 [.map (some bk)],BlkP g7 3 [.int .i64 (L:Int)],BlkP g8 44 [.slice a8 yn c8],BlkP (bs+1) 147 [.map (some bs)]]) (s:=⟨a9,c9,sx++[⟨5,xt,xs,wa,wc,ws,ra,rc,rs⟩]⟩) HND.out (x:=xs) (l:=l) (bs:=bs) (B:=w.heap.size) (w:=W') (by
      unfold SlP.row
      simp only
      rw [recC_append,List.length_append,HM.out]
      simp only [recC,HpP.enc,HWN.out.1,HWN.out.2,List.map_cons,List.map_nil,List.flatten_cons,List.flatten_nil,List.append_nil]
      exact hO)
     exact h1.drop 0)
    clear hs O4 h2 h3 h4 h5 h6 HST hrows hnd hm HSN
    have y2:=(O5.out.blk 2 rfl).1.cellOf (i:=2) rfl
    go_wp2_with fail
    have HF0:=Box.mk (And.intro (show Own w.heap.size w11.drew (RowP 84 5 sa m sc (recC HpP.enc sx)::SlsO bs l::BlkP gx 84 [.int .i64 5,.int .i64 xt,.int .i64 xs,.slice wa wn wc,.slice ra rn rc]::([BlkP g1 34 [.slice (some ⟨b,off,none⟩) n c],SpnO bw lw,IntO bk (knownL (f n).ids L),BlkP g5 140 [.map (some bw)],BlkP (g5+1) 30 [.map (some bk)],BlkP g7 3 [.int .i64 (L:Int)],BlkP g8 44 [.slice a8 yn c8],BlkP (bs+1) 147 [.map (some bs)]]++rowsOf (delA l xs))) from O5.out.drew) B4.out.drew)
    have HS0:Own w.heap.size w11.drew (BlkP gx 84 [.int .i64 5,.int .i64 xt,.int .i64 xs,.slice wa wn wc,.slice ra rn rc]::([BlkP g1 34 [.slice (some ⟨b,off,none⟩) n c],SpnO bw lw,IntO bk (knownL (f n).ids L),BlkP g5 140 [.map (some bw)],BlkP (g5+1) 30 [.map (some bk)],BlkP g7 3 [.int .i64 (L:Int)],BlkP g8 44 [.slice a8 yn c8],BlkP (bs+1) 147 [.map (some bs)]]++rowsOf (delA l xs)))∧Below w.heap.size w w11.drew:=⟨(HF0.out.1.drop 0).drop 0,HF0.out.2⟩
    clear O5 B4 y0 y2
    refine wp_region_held_drew (S:=fun w'=>(Own w.heap.size w' (BlkP gx 84 [.int .i64 5,.int .i64 xt,.int .i64 xs,.slice wa wn wc,.slice ra rn rc]::([BlkP g1 34 [.slice (some ⟨b,off,none⟩) n c],SpnO bw lw,IntO bk (knownL (f n).ids L),BlkP g5 140 [.map (some bw)],BlkP (g5+1) 30 [.map (some bk)],BlkP g7 3 [.int .i64 (L:Int)],BlkP g8 44 [.slice a8 yn c8],BlkP (bs+1) 147 [.map (some bs)]]++rowsOf (delA l xs)))∧Below w.heap.size w w')) (by kernel_rfl) HS0 (fun _=>?_)
    generalize w11.drew=wd at *
    refine tv 0 rfl (fun w' hS=>by have e:=(hS.1.blk 8 rfl).1.cellOf (i:=0) rfl;go_simp;all_goals with_reducible rfl) HS0 ?_
    conv=>arg 8;simp [go_sem]
    refine tw 1 rfl HS0 ?_
    conv=>arg 8;simp [go_sem]
    refine tv 2 rfl (fun w' hS=>by have e:=(hS.1.blk 0 rfl).1.cellOf (i:=2) rfl;go_simp;all_goals with_reducible rfl) HS0 ?_
    conv=>arg 8;simp [go_sem]
    refine tv 3 rfl (fun w' hS=>by have e:=(hS.1.blk 8 rfl).1.cellOf (i:=0) rfl;go_simp;all_goals with_reducible rfl) HS0 ?_
    conv=>arg 8;simp [go_sem]
    refine tw 4 rfl HS0 ?_
    conv=>arg 8;simp [go_sem]
    refine tv 5 rfl (fun w' hS=>by have e:=(hS.1.blk 0 rfl).1.cellOf (i:=2) rfl;go_simp;all_goals with_reducible rfl) HS0 ?_
    conv=>arg 8;simp [go_sem]
    refine tk 7 (v:=.agg #[.int .i64 5,.int .i64 xt,.int .i64 xs,.slice wa wn wc,.slice ra rn rc]) rfl (yieldsIf_load_agg (by rfl) 84 (.tmp 11) rfl aggHp rfl (cs:=[.int .i64 5,.int .i64 xt,.int .i64 xs,.slice wa wn wc,.slice ra rn rc]) rfl (fun w' hS j u h=>by rw [addN];simpa using (hS.1.blk 0 rfl).1.cellOf h)) (HS0) ?_
    conv=>arg 8;simp [go_sem]
    refine wpAnyH_ready (rs:=[6,8]) (by kernel_rfl) (by simp) ?_
    refine AllReadyH.cons rfl (fun K' hK'=>?_) (AllReadyH.cons rfl (fun K' hK'=>?_) AllReadyH.nil)
    ·refine oper_look (by rfl) _ _ _ _ rfl rfl rfl (HLOOK.out _ (HF0.out.1.map 1 rfl).1) ?_
     have HT1:=HS0
     refine hK'.out _ _ HT1 (fun _=>?_)
     clear hK' K'
     conv=>arg 8;simp [go_sem]
     refine ar 8 rfl fun K' hK'=>?_
     refine oper_litA (by rfl) 34 (.tmp 50) rfl sl_hp (cs:=[.int .i64 5,.int .i64 xt,.int .i64 xs,.slice wa wn wc,.slice ra rn rc]) rfl rfl (by omega) (by omega) ?_
     have HF2:=Box.mk (And.intro (HF0.out.1.alloc (.cells #[.int .i64 5,.int .i64 xt,.int .i64 xs,.slice wa wn wc,.slice ra rn rc] 84)) (HF0.out.2.alloc HF0.out.2.size (.cells #[.int .i64 5,.int .i64 xt,.int .i64 xs,.slice wa wn wc,.slice ra rn rc] 84)))
     have HT3:=And.intro (HT1.1.alloc (.cells #[.int .i64 5,.int .i64 xt,.int .i64 xs,.slice wa wn wc,.slice ra rn rc] 84)) (HT1.2.alloc HT1.2.size (.cells #[.int .i64 5,.int .i64 xt,.int .i64 xs,.slice wa wn wc,.slice ra rn rc] 84))
     refine hK'.out _ _ HT3 (fun _=>?_)
     clear hK' K'
     conv=>arg 8;simp [go_sem]
     refine ar 9 rfl fun K' hK'=>?_
     refine oper_append_O (by rfl) (.tmp 49) (.tmp 51) 34 34 rfl sl_hp (.inl sl_hp.ht) HF2.out.1 0 rfl rfl rfl (Src.lone _ [.int .i64 5,.int .i64 xt,.int .i64 xs,.slice wa wn wc,.slice ra rn rc] _ rfl (by simp [Value.oneCell'])) (by omega) (by unfold maxLen;omega) ?_
     intro a9 c9 w9 hO9 hb9
     have O9:=Box.mk (show Own w.heap.size w9 (RowP 84 5 a9 (m+1) c9 (recC HpP.enc sx++[.int .i64 5,.int .i64 xt,.int .i64 xs,.slice wa wn wc,.slice ra rn rc])::SlsO bs l::BlkP gx 84 [.int .i64 5,.int .i64 xt,.int .i64 xs,.slice wa wn wc,.slice ra rn rc]::([BlkP g1 34 [.slice (some ⟨b,off,none⟩) n c],SpnO bw lw,IntO bk (knownL (f n).ids L),BlkP g5 140 [.map (some bw)],BlkP (g5+1) 30 [.map (some bk)],BlkP g7 3 [.int .i64 (L:Int)],BlkP g8 44 [.slice a8 yn c8],BlkP (bs+1) 147 [.map (some bs)]]++rowsOf (delA l xs))) from hO9)
     have B9:=Box.mk (HF2.out.2.trans hb9)
     clear hO9 hb9
     have HT4:=(show (Own _ _ _∧Below _ _ _) from And.intro ((O9.out.drop 0).drop 0) B9.out)
     refine hK'.out _ _ HT4 (fun _=>?_)
     clear hK' K'
     conv=>arg 8;simp [go_sem]
     refine ar 10 rfl fun K' hK'=>?_
     obtain ⟨w8,hrun,O8r,hb8,_⟩:=O9.out.putMap K_int kI_inj und_mih 1 rfl HKEY.out (⟨a9,c9,sx++[⟨5,xt,xs,wa,wc,ws,ra,rc,rs⟩]⟩:SlP)
     have hxl:(sx++[(⟨5,xt,xs,wa,wc,ws,ra,rc,rs⟩:HpP)]).length=m+1:=by rw [List.length_append,HM.out];rfl
     simp only [kI,SlP.v,hxl] at hrun
     clear hxl
     refine oper_put (by rfl) _ _ _ _ rfl rfl rfl rfl hrun ?_
     have HF8:=Box.mk (And.intro (show Own w.heap.size w8 (RowP 84 5 a9 (m+1) c9 (recC HpP.enc sx++[.int .i64 5,.int .i64 xt,.int .i64 xs,.slice wa wn wc,.slice ra rn rc])::SlsO bs (putA l xs (⟨a9,c9,sx++[⟨5,xt,xs,wa,wc,ws,ra,rc,rs⟩]⟩:SlP))::BlkP gx 84 [.int .i64 5,.int .i64 xt,.int .i64 xs,.slice wa wn wc,.slice ra rn rc]::([BlkP g1 34 [.slice (some ⟨b,off,none⟩) n c],SpnO bw lw,IntO bk (knownL (f n).ids L),BlkP g5 140 [.map (some bw)],BlkP (g5+1) 30 [.map (some bk)],BlkP g7 3 [.int .i64 (L:Int)],BlkP g8 44 [.slice a8 yn c8],BlkP (bs+1) 147 [.map (some bs)]]++rowsOf (delA l xs))) from O8r) (B9.out.trans hb8))
     have HFIN:=Box.mk (And.intro (HSHUT.out _ _ _ HF8.out.1) HF8.out.2)
     clear O8r hb8 hrun
     have HT5:=(show (Own _ _ _∧Below _ _ _) from And.intro ((HF8.out.1.drop 0).drop 0) HF8.out.2)
     refine hK'.out _ _ HT5 (fun _=>?_)
     clear hK' K'
     conv=>arg 8;simp [go_sem]
     refine ⟨by kernel_rfl,?_⟩
     conv =>
      arg 5
      simp [go_sem]
     go_wp2_with fail
     go_roundg (n - (k+1))
     case measure=>omega
     case rel=>exact ⟨k+1,by omega,by omega,by go_num,⟨_,HFIN.out.1,HFIN.out.2,HPUT.out _ _⟩⟩
    ·refine oper_litA (by rfl) 34 (.tmp 50) rfl sl_hp (cs:=[.int .i64 5,.int .i64 xt,.int .i64 xs,.slice wa wn wc,.slice ra rn rc]) rfl rfl (by omega) (by omega) ?_
     have HF6:=Box.mk (And.intro (HF0.out.1.alloc (.cells #[.int .i64 5,.int .i64 xt,.int .i64 xs,.slice wa wn wc,.slice ra rn rc] 84)) (HF0.out.2.alloc HF0.out.2.size (.cells #[.int .i64 5,.int .i64 xt,.int .i64 xs,.slice wa wn wc,.slice ra rn rc] 84)))
     have HT7:=And.intro (HS0.1.alloc (.cells #[.int .i64 5,.int .i64 xt,.int .i64 xs,.slice wa wn wc,.slice ra rn rc] 84)) (HS0.2.alloc HS0.2.size (.cells #[.int .i64 5,.int .i64 xt,.int .i64 xs,.slice wa wn wc,.slice ra rn rc] 84))
     refine hK'.out _ _ HT7 (fun _=>?_)
     clear hK' K'
     conv=>arg 8;simp [go_sem]
     refine ar 6 rfl fun K' hK'=>?_
     refine oper_look (by rfl) _ _ _ _ rfl rfl rfl (HLOOK.out _ (HF6.out.1.map 1 rfl).1) ?_
     have HT8:=HT7
     refine hK'.out _ _ HT8 (fun _=>?_)
     clear hK' K'
     conv=>arg 8;simp [go_sem]
     refine ar 9 rfl fun K' hK'=>?_
     refine oper_append_O (by rfl) (.tmp 49) (.tmp 51) 34 34 rfl sl_hp (.inl sl_hp.ht) HF6.out.1 0 rfl rfl rfl (Src.lone _ [.int .i64 5,.int .i64 xt,.int .i64 xs,.slice wa wn wc,.slice ra rn rc] _ rfl (by simp [Value.oneCell'])) (by omega) (by unfold maxLen;omega) ?_
     intro a9 c9 w9 hO9 hb9
     have O9:=Box.mk (show Own w.heap.size w9 (RowP 84 5 a9 (m+1) c9 (recC HpP.enc sx++[.int .i64 5,.int .i64 xt,.int .i64 xs,.slice wa wn wc,.slice ra rn rc])::SlsO bs l::BlkP gx 84 [.int .i64 5,.int .i64 xt,.int .i64 xs,.slice wa wn wc,.slice ra rn rc]::([BlkP g1 34 [.slice (some ⟨b,off,none⟩) n c],SpnO bw lw,IntO bk (knownL (f n).ids L),BlkP g5 140 [.map (some bw)],BlkP (g5+1) 30 [.map (some bk)],BlkP g7 3 [.int .i64 (L:Int)],BlkP g8 44 [.slice a8 yn c8],BlkP (bs+1) 147 [.map (some bs)]]++rowsOf (delA l xs))) from hO9)
     have B9:=Box.mk (HF6.out.2.trans hb9)
     clear hO9 hb9
     have HT9:=(show (Own _ _ _∧Below _ _ _) from And.intro ((O9.out.drop 0).drop 0) B9.out)
     refine hK'.out _ _ HT9 (fun _=>?_)
     clear hK' K'
     conv=>arg 8;simp [go_sem]
     refine ar 10 rfl fun K' hK'=>?_
     obtain ⟨w8,hrun,O8r,hb8,_⟩:=O9.out.putMap K_int kI_inj und_mih 1 rfl HKEY.out (⟨a9,c9,sx++[⟨5,xt,xs,wa,wc,ws,ra,rc,rs⟩]⟩:SlP)
     have hxl:(sx++[(⟨5,xt,xs,wa,wc,ws,ra,rc,rs⟩:HpP)]).length=m+1:=by rw [List.length_append,HM.out];rfl
     simp only [kI,SlP.v,hxl] at hrun
     clear hxl
     refine oper_put (by rfl) _ _ _ _ rfl rfl rfl rfl hrun ?_
     have HF8:=Box.mk (And.intro (show Own w.heap.size w8 (RowP 84 5 a9 (m+1) c9 (recC HpP.enc sx++[.int .i64 5,.int .i64 xt,.int .i64 xs,.slice wa wn wc,.slice ra rn rc])::SlsO bs (putA l xs (⟨a9,c9,sx++[⟨5,xt,xs,wa,wc,ws,ra,rc,rs⟩]⟩:SlP))::BlkP gx 84 [.int .i64 5,.int .i64 xt,.int .i64 xs,.slice wa wn wc,.slice ra rn rc]::([BlkP g1 34 [.slice (some ⟨b,off,none⟩) n c],SpnO bw lw,IntO bk (knownL (f n).ids L),BlkP g5 140 [.map (some bw)],BlkP (g5+1) 30 [.map (some bk)],BlkP g7 3 [.int .i64 (L:Int)],BlkP g8 44 [.slice a8 yn c8],BlkP (bs+1) 147 [.map (some bs)]]++rowsOf (delA l xs))) from O8r) (B9.out.trans hb8))
     have HFIN:=Box.mk (And.intro (HSHUT.out _ _ _ HF8.out.1) HF8.out.2)
     clear O8r hb8 hrun
     have HT10:=(show (Own _ _ _∧Below _ _ _) from And.intro ((HF8.out.1.drop 0).drop 0) HF8.out.2)
     refine hK'.out _ _ HT10 (fun _=>?_)
     clear hK' K'
     conv=>arg 8;simp [go_sem]
     refine ⟨by kernel_rfl,?_⟩
     conv =>
      arg 5
      simp [go_sem]
     go_wp2_with fail
     go_roundg (n - (k+1))
     case measure=>omega
     case rel=>exact ⟨k+1,by omega,by omega,by go_num,⟨_,HFIN.out.1,HFIN.out.2,HPUT.out _ _⟩⟩
   ·have hne:(xk==5)=false:=by simp [h5]
    go_wp2_with fail
    go_roundg (n - (k+1))
    case measure=>omega
    case rel=>exact ⟨k+1,by omega,by omega,by go_num,⟨l,O4.out.drop 0,B4.out,HSN.out.more⟩⟩
  ·obtain rfl:k=n:=by omega
   go_upto_region 16 with fail
   go_upto_region 17 with ((with_reducible show wpList _ _ _ _ _ _);refine wpList_store_fresh (o:=⟨none,.store 148 (.tmp 12) (.tmp 54),_,_,_,_⟩) (size:=1) (cs:=[.func (.func 67) #[] #[.pointer (some ⟨g1,0,none⟩),.pointer (some ⟨bs+1,0,none⟩),.pointer (some ⟨g7,0,none⟩),.pointer (some ⟨g5+1,0,none⟩),.pointer (some ⟨wr.heap.size,0,none⟩),.pointer (some ⟨g8,0,none⟩),.pointer (some ⟨g5,0,none⟩)]]) rfl 148 _ _ rfl rfl (by kernel_rfl) rfl rfl rfl rfl (by simp [Value.oneCell']) ?_)
   have HND:=Box.mk (HI.out.1.map 8 rfl).1.nodup
   have HRW:=Box.mk (fun p (hp:p∈l)=>show Rd wr p.2.a p.2.xs.length p.2.c 5 (recC HpP.enc p.2.xs) from by
    have hmem:p.2.row∈[BlkP g1 34 [.slice a k c],SpnO bw lw,IntO bk (knownL (f k).ids L),BlkP g5 140 [.map (some bw)],BlkP (g5+1) 30 [.map (some bk)],BlkP g7 3 [.int .i64 (L:Int)],BlkP g8 44 [.slice a8 yn c8],BlkP (bs+1) 147 [.map (some bs)]]++SlsO bs l::rowsOf l:=List.mem_append.2 (.inr (List.mem_cons_of_mem _ (List.mem_map.2 ⟨p,hp,rfl⟩)))
    obtain ⟨i,hi⟩:=List.getElem?_of_mem hmem
    exact Rd.ofOwn (HI.out.1.row i hi))
   have O5:=Box.mk (HI.out.1.newF [.func (.func 67) #[] #[.pointer (some ⟨g1,0,none⟩),.pointer (some ⟨bs+1,0,none⟩),.pointer (some ⟨g7,0,none⟩),.pointer (some ⟨g5+1,0,none⟩),.pointer (some ⟨wr.heap.size,0,none⟩),.pointer (some ⟨g8,0,none⟩),.pointer (some ⟨g5,0,none⟩)]] 148)
   have B5:=Box.mk (HI.out.2.1.alloc HI.out.2.1.size (.cells #[.func (.func 67) #[] #[.pointer (some ⟨g1,0,none⟩),.pointer (some ⟨bs+1,0,none⟩),.pointer (some ⟨g7,0,none⟩),.pointer (some ⟨g5+1,0,none⟩),.pointer (some ⟨wr.heap.size,0,none⟩),.pointer (some ⟨g8,0,none⟩),.pointer (some ⟨g5,0,none⟩)]] 148))
   have HEX:=fun (p) (hp:p∈l)=>(HRW.out p hp).below ((Below.refl wr.heap.size wr).alloc (Nat.le_refl _) (.cells #[.func (.func 67) #[] #[.pointer (some ⟨g1,0,none⟩),.pointer (some ⟨bs+1,0,none⟩),.pointer (some ⟨g7,0,none⟩),.pointer (some ⟨g5+1,0,none⟩),.pointer (some ⟨wr.heap.size,0,none⟩),.pointer (some ⟨g8,0,none⟩),.pointer (some ⟨g5,0,none⟩)]] 148)) (Nat.le_refl _)
   have HSN:=Box.mk HI.out.2.2
   have HEX:=Box.mk HEX
   clear HI HRW
   generalize wr.heap.size=g12 at *
   generalize (wr.alloc (.cells #[.func (.func 67) #[] #[.pointer (some ⟨g1,0,none⟩),.pointer (some ⟨bs+1,0,none⟩),.pointer (some ⟨g7,0,none⟩),.pointer (some ⟨g5+1,0,none⟩),.pointer (some ⟨g12,0,none⟩),.pointer (some ⟨g8,0,none⟩),.pointer (some ⟨g5,0,none⟩)]] 148))=w12 at *
   have y12:=(O5.out.blk 0 rfl).1.cellOf (i:=0) rfl
   have HSE:=Box.mk (search_any (w0:=w12) (g1:=g1) (g9:=bs+1) (g7:=g7) (g6:=g5+1) (g12:=g12) (g8:=g8) (g5:=g5) (bk:=bk) (bs:=bs) (l:=l) RU.out (HR.out.below B5.out (Nat.le_refl _)) hn HCL.out
    ⟨(O5.out.blk 1 rfl).1.cellOf (i:=0) rfl,(O5.out.blk 8 rfl).1.cellOf (i:=0) rfl,(O5.out.blk 6 rfl).1.cellOf (i:=0) rfl,(O5.out.blk 5 rfl).1.cellOf (i:=0) rfl,y12,(O5.out.map 3 rfl).1,(O5.out.map 9 rfl).1,HEX.out⟩
    (fun p hp e he=>⟨(HR.out.hp e ((HSN.out p hp).2 e he).1).below B5.out (Nat.le_refl _),((HSN.out p hp).2 e he).2⟩) L 0 (by omega) w12 none 0 (Below.refl _ _) (by rw [List.take_zero];exact Rd.nilSlice _ _))
   clear HEX HSN
   go_wp2_with fail
   refine HSE.out.mono ?_
   rintro e w13 ⟨hb13,a13,c13,rfl,hrd⟩
   have HF:=Box.mk (And.intro (B5.out.trans (hb13.mono O5.out.1)) hrd)
   clear hb13 hrd HSE y12
   go_wp2_with fail
   go_ret3
   exact ⟨HF.out.1,a13,c13,by rw [HIL.out];rfl,by rw [HIL.out];exact HF.out.2⟩
end
end Go.Proofs.YtlfghapllmaigaaGreatDoor
