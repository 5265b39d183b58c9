/-
  A history in memory; the walks of history's number, plain, written; The walk of history's written; The walks of history's fail and of Right's closure; Plain: a history's states, one for each place. Conditions: each theorem's own hypotheses.
-/
import Derived.Test.YtlfghapllmaigaaGreatDoorK23
import Derived.Test.YtlfghapllmaigaaGreatDoorK21
set_option linter.unusedVariables false
set_option linter.unusedSimpArgs false
namespace Go.Proofs.YtlfghapllmaigaaGreatDoor
section
open Go.RowKit Go.Maps
structure HpRd (w:World) (x:HpP):Prop where
 wr:Rd w x.wa x.writes.length x.wc 4 (recC WrP.enc x.writes)
 rw_:Rd w x.ra x.rows.length x.rc 4 (recC HdP.enc x.rows)
 wv:∀y∈x.writes,Rd w y.va y.vals.length y.vc 3 (recC Val.enc y.vals)
 rv:∀y∈x.rows,Rd w y.va y.vals.length y.vc 3 (recC Val.enc y.vals)
theorem HpRd.below {w w':World} {B:Nat} {x:HpP} (h:HpRd w x) (hb:Below B w w') (hB:w.heap.size≤B):HpRd w' x:=⟨h.wr.below hb hB,h.rw_.below hb hB,fun y hy=>(h.wv y hy).below hb hB,fun y hy=>(h.rv y hy).below hb hB⟩
structure HsRd (w:World) (a:Option Addr) (n c:Nat) (hs:List HpP):Prop where
 rd:Rd w a n c 5 (recC HpP.enc hs)
 hp:∀x∈hs,HpRd w x
theorem HsRd.below {w w':World} {B:Nat} {a:Option Addr} {n c:Nat} {hs:List HpP} (h:HsRd w a n c hs) (hb:Below B w w') (hB:w.heap.size≤B):HsRd w' a n c hs:=⟨h.rd.below hb hB,fun x hx=>(h.hp x hx).below hb hB⟩
theorem HsRd.len {w:World} {a:Option Addr} {n c:Nat} {hs:List HpP} (h:HsRd w a n c hs):hs.length=n:=h.rd.rlen HpP.enc_len (by omega)
theorem HsRd.at {w:World} {a:Option Addr} {n c:Nat} {hs:List HpP} (h:HsRd w a n c hs) (k:Nat) (hk:k<n):∃ (b off:Nat) (x:HpP),a=some ⟨b,off,none⟩∧hs.getD k default=x∧x∈hs∧HpRd w x ∧
  w.cell? ⟨b,off+k * 5,none⟩=some (.int .i64 x.kind)∧w.cell? ⟨b,off+k * 5+1,none⟩=some (.int .i64 x.tx)∧w.cell? ⟨b,off+k * 5+2,none⟩=some (.int .i64 x.stamp) ∧
  w.cell? ⟨b,off+k * 5+3,none⟩=some (.slice x.wa x.writes.length x.wc)∧w.cell? ⟨b,off+k * 5+4,none⟩=some (.slice x.ra x.rows.length x.rc):=by
 obtain ⟨b,off,ha,hb,hc⟩:=h.rd.recAt HpP.enc_len (by omega) k hk
 have hm:hs.getD k default∈hs:=getD_mem (by rw [h.len];exact hk)
 exact ⟨b,off,_,ha,rfl,hm,h.hp _ hm,hc 0 _ rfl,hc 1 _ rfl,hc 2 _ rfl,hc 3 _ rfl,hc 4 _ rfl⟩
def numB (n:Int):Bool:=decide (1≤n)&&decide (n≤1073741824)
set_option maxRecDepth 20000 in
set_option maxHeartbeats 1000000 in
theorem number_any (n:Int) (w:World):Calls Tryz.prog 59 #[.int .i64 n] w fun e w'=>e=.returned (.bool (numB n))∧w'=w:=by
 unfold numB
 by_cases h1:1≤n
 ·have t1:decide (1≤n)=true:=decide_eq_true h1
  go_enter Tryz.func59,Tryz.ntmps59
  go_wp2_with fail
  go_ret
  exact ⟨by rw [t1,Bool.true_and];rfl,rfl⟩
 ·have t1:decide (1≤n)=false:=decide_eq_false h1
  go_enter Tryz.func59,Tryz.ntmps59
  go_wp2_with fail
  go_ret
  exact ⟨rfl,rfl⟩
def plainE (x:HpP):Prop:=(x.kind=1∧x.stamp=0∧x.rows=[])∨(x.kind=2∧x.writes=[]∧x.rows=[])∨(x.kind=4∧x.tx=0∧x.stamp=0∧x.writes=[]∧x.rows=[])∨(x.kind=5∧x.tx=0∧x.writes=[])
theorem Stp.plain {σ σ':Sg} {x:HpP} (h:Stp σ x σ'):plainE x:=by
 cases h with
 | ask h1 h2 h3 h4=>exact .inl ⟨h1,h3,h4⟩
 | report ws o h1 h2 h3 h4 h5=>exact .inr (.inl ⟨h1,h5,h4⟩)
 | fail h1 h2 h3 h4 h5=>exact .inr (.inr (.inl ⟨h1,h2,h3,h5,h4⟩))
 | see h1 h2 h3 h4 h5=>exact .inr (.inr (.inr ⟨h1,h2,h5⟩))
set_option maxRecDepth 20000 in
set_option maxHeartbeats 4000000 in
theorem plain_any {x:HpP} (h:plainE x) (w:World):Calls Tryz.prog 57 #[x.v] w (RetV (.bool true) w):=by
 have HB:=Box.mk ((((Below.refl w.heap.size w).alloc (Nat.le_refl _) (.cells x.enc.toArray 84))))
 obtain ⟨xk,xt,xs,wa,wc,ws,ra,rc,rs⟩:=x
 clear HB
 unfold plainE at h
 unfold HpP.v
 simp only at h ⊢
 rcases h with ⟨rfl,rfl,rfl⟩ | ⟨rfl,rfl,rfl⟩ | ⟨rfl,rfl,rfl,rfl,rfl⟩ | ⟨rfl,rfl,rfl⟩
 ·generalize ws.length=wn
  rw [List.length_nil]
  have O2:=Box.mk ((((Own.start w).new [.int .i64 1,.int .i64 xt,.int .i64 0,.slice wa wn wc,.slice ra 0 rc] 84)).new [.int .i64 1,.int .i64 0,.int .i64 0,.slice none 0 0,.slice none 0 0] 84)
  have B2:=Box.mk (((Below.refl w.heap.size w).alloc (Nat.le_refl _) (.cells #[.int .i64 1,.int .i64 xt,.int .i64 0,.slice wa wn wc,.slice ra 0 rc] 84)).alloc (by simp) (.cells #[.int .i64 1,.int .i64 0,.int .i64 0,.slice none 0 0,.slice none 0 0] 84))
  simp only [World.size_alloc,List.nil_append,List.cons_append] at O2
  have K1:=Blk.new (w:=w) (k:=w.heap.size) (ty:=84) (arr:=#[.int .i64 1,.int .i64 xt,.int .i64 0,.slice wa wn wc,.slice ra 0 rc]) (cs:=[.int .i64 1,.int .i64 xt,.int .i64 0,.slice wa wn wc,.slice ra 0 rc]) rfl rfl
  have x0:=K1.cellOf (i:=0) rfl
  go_enter Tryz.func57,Tryz.ntmps57
  go_upto_region 2 with fail
  clear x0 K1
  generalize ((w.alloc (.cells #[.int .i64 1,.int .i64 xt,.int .i64 0,.slice wa wn wc,.slice ra 0 rc] 84)).alloc (.cells #[.int .i64 1,.int .i64 0,.int .i64 0,.slice none 0 0,.slice none 0 0] 84))=w2 at *
  have x0:=(O2.out.blk 0 rfl).1.cellOf (i:=0) rfl
  have x1:=(O2.out.blk 0 rfl).1.cellOf (i:=1) rfl
  have x2:=(O2.out.blk 0 rfl).1.cellOf (i:=2) rfl
  have x3:=(O2.out.blk 0 rfl).1.cellOf (i:=3) rfl
  have x4:=(O2.out.blk 0 rfl).1.cellOf (i:=4) rfl
  have hne:¬ (w.heap.size+1=w.heap.size):=by omega
  have hne':¬ (w.heap.size=w.heap.size+1):=by omega
  have y0:=(O2.out.blk 1 rfl).1.cellOf (i:=0) rfl
  have y1:=(O2.out.blk 1 rfl).1.cellOf (i:=1) rfl
  have y2:=(O2.out.blk 1 rfl).1.cellOf (i:=2) rfl
  have y3:=(O2.out.blk 1 rfl).1.cellOf (i:=3) rfl
  have y4:=(O2.out.blk 1 rfl).1.cellOf (i:=4) rfl
  have f1:=(O2.out.blk 1 rfl).1.free 1
  have f2:=(O2.out.blk 1 rfl).1.free 2
  have f3:=(O2.out.blk 1 rfl).1.free 3
  have f4:=(O2.out.blk 1 rfl).1.free 4
  go_wp2_with fail
  go_region
  all_goals go_wp2_with fail
  all_goals go_ret
  all_goals refine ⟨rfl,?_⟩
  all_goals repeat (first | exact B2.out | exact B2.out.drew | refine Below.drew ?_ | refine Below.setCell ?_ (by simp) _)
 ·rw [List.length_nil,List.length_nil]
  have O2:=Box.mk ((((Own.start w).new [.int .i64 2,.int .i64 xt,.int .i64 xs,.slice wa 0 wc,.slice ra 0 rc] 84)).new [.int .i64 2,.int .i64 0,.int .i64 0,.slice none 0 0,.slice none 0 0] 84)
  have B2:=Box.mk (((Below.refl w.heap.size w).alloc (Nat.le_refl _) (.cells #[.int .i64 2,.int .i64 xt,.int .i64 xs,.slice wa 0 wc,.slice ra 0 rc] 84)).alloc (by simp) (.cells #[.int .i64 2,.int .i64 0,.int .i64 0,.slice none 0 0,.slice none 0 0] 84))
  simp only [World.size_alloc,List.nil_append,List.cons_append] at O2
  have K1:=Blk.new (w:=w) (k:=w.heap.size) (ty:=84) (arr:=#[.int .i64 2,.int .i64 xt,.int .i64 xs,.slice wa 0 wc,.slice ra 0 rc]) (cs:=[.int .i64 2,.int .i64 xt,.int .i64 xs,.slice wa 0 wc,.slice ra 0 rc]) rfl rfl
  have x0:=K1.cellOf (i:=0) rfl
  go_enter Tryz.func57,Tryz.ntmps57
  go_upto_region 2 with fail
  clear x0 K1
  generalize ((w.alloc (.cells #[.int .i64 2,.int .i64 xt,.int .i64 xs,.slice wa 0 wc,.slice ra 0 rc] 84)).alloc (.cells #[.int .i64 2,.int .i64 0,.int .i64 0,.slice none 0 0,.slice none 0 0] 84))=w2 at *
  have x0:=(O2.out.blk 0 rfl).1.cellOf (i:=0) rfl
  have x1:=(O2.out.blk 0 rfl).1.cellOf (i:=1) rfl
  have x2:=(O2.out.blk 0 rfl).1.cellOf (i:=2) rfl
  have x3:=(O2.out.blk 0 rfl).1.cellOf (i:=3) rfl
  have x4:=(O2.out.blk 0 rfl).1.cellOf (i:=4) rfl
  have hne:¬ (w.heap.size+1=w.heap.size):=by omega
  have hne':¬ (w.heap.size=w.heap.size+1):=by omega
  have y0:=(O2.out.blk 1 rfl).1.cellOf (i:=0) rfl
  have y1:=(O2.out.blk 1 rfl).1.cellOf (i:=1) rfl
  have y2:=(O2.out.blk 1 rfl).1.cellOf (i:=2) rfl
  have y3:=(O2.out.blk 1 rfl).1.cellOf (i:=3) rfl
  have y4:=(O2.out.blk 1 rfl).1.cellOf (i:=4) rfl
  have f1:=(O2.out.blk 1 rfl).1.free 1
  have f2:=(O2.out.blk 1 rfl).1.free 2
  have f3:=(O2.out.blk 1 rfl).1.free 3
  have f4:=(O2.out.blk 1 rfl).1.free 4
  go_wp2_with fail
  go_region
  all_goals go_wp2_with fail
  all_goals go_ret
  all_goals refine ⟨rfl,?_⟩
  all_goals repeat (first | exact B2.out | exact B2.out.drew | refine Below.drew ?_ | refine Below.setCell ?_ (by simp) _)
 ·rw [List.length_nil,List.length_nil]
  have O2:=Box.mk ((((Own.start w).new [.int .i64 4,.int .i64 0,.int .i64 0,.slice wa 0 wc,.slice ra 0 rc] 84)).new [.int .i64 4,.int .i64 0,.int .i64 0,.slice none 0 0,.slice none 0 0] 84)
  have B2:=Box.mk (((Below.refl w.heap.size w).alloc (Nat.le_refl _) (.cells #[.int .i64 4,.int .i64 0,.int .i64 0,.slice wa 0 wc,.slice ra 0 rc] 84)).alloc (by simp) (.cells #[.int .i64 4,.int .i64 0,.int .i64 0,.slice none 0 0,.slice none 0 0] 84))
  simp only [World.size_alloc,List.nil_append,List.cons_append] at O2
  have K1:=Blk.new (w:=w) (k:=w.heap.size) (ty:=84) (arr:=#[.int .i64 4,.int .i64 0,.int .i64 0,.slice wa 0 wc,.slice ra 0 rc]) (cs:=[.int .i64 4,.int .i64 0,.int .i64 0,.slice wa 0 wc,.slice ra 0 rc]) rfl rfl
  have x0:=K1.cellOf (i:=0) rfl
  go_enter Tryz.func57,Tryz.ntmps57
  go_upto_region 2 with fail
  clear x0 K1
  generalize ((w.alloc (.cells #[.int .i64 4,.int .i64 0,.int .i64 0,.slice wa 0 wc,.slice ra 0 rc] 84)).alloc (.cells #[.int .i64 4,.int .i64 0,.int .i64 0,.slice none 0 0,.slice none 0 0] 84))=w2 at *
  have x0:=(O2.out.blk 0 rfl).1.cellOf (i:=0) rfl
  have x1:=(O2.out.blk 0 rfl).1.cellOf (i:=1) rfl
  have x2:=(O2.out.blk 0 rfl).1.cellOf (i:=2) rfl
  have x3:=(O2.out.blk 0 rfl).1.cellOf (i:=3) rfl
  have x4:=(O2.out.blk 0 rfl).1.cellOf (i:=4) rfl
  have hne:¬ (w.heap.size+1=w.heap.size):=by omega
  have hne':¬ (w.heap.size=w.heap.size+1):=by omega
  have y0:=(O2.out.blk 1 rfl).1.cellOf (i:=0) rfl
  have y1:=(O2.out.blk 1 rfl).1.cellOf (i:=1) rfl
  have y2:=(O2.out.blk 1 rfl).1.cellOf (i:=2) rfl
  have y3:=(O2.out.blk 1 rfl).1.cellOf (i:=3) rfl
  have y4:=(O2.out.blk 1 rfl).1.cellOf (i:=4) rfl
  have f1:=(O2.out.blk 1 rfl).1.free 1
  have f2:=(O2.out.blk 1 rfl).1.free 2
  have f3:=(O2.out.blk 1 rfl).1.free 3
  have f4:=(O2.out.blk 1 rfl).1.free 4
  go_wp2_with fail
  go_ret
  exact ⟨rfl,B2.out⟩
 ·generalize rs.length=rn
  rw [List.length_nil]
  have O2:=Box.mk ((((Own.start w).new [.int .i64 5,.int .i64 0,.int .i64 xs,.slice wa 0 wc,.slice ra rn rc] 84)).new [.int .i64 5,.int .i64 0,.int .i64 0,.slice none 0 0,.slice none 0 0] 84)
  have B2:=Box.mk (((Below.refl w.heap.size w).alloc (Nat.le_refl _) (.cells #[.int .i64 5,.int .i64 0,.int .i64 xs,.slice wa 0 wc,.slice ra rn rc] 84)).alloc (by simp) (.cells #[.int .i64 5,.int .i64 0,.int .i64 0,.slice none 0 0,.slice none 0 0] 84))
  simp only [World.size_alloc,List.nil_append,List.cons_append] at O2
  have K1:=Blk.new (w:=w) (k:=w.heap.size) (ty:=84) (arr:=#[.int .i64 5,.int .i64 0,.int .i64 xs,.slice wa 0 wc,.slice ra rn rc]) (cs:=[.int .i64 5,.int .i64 0,.int .i64 xs,.slice wa 0 wc,.slice ra rn rc]) rfl rfl
  have x0:=K1.cellOf (i:=0) rfl
  go_enter Tryz.func57,Tryz.ntmps57
  go_upto_region 2 with fail
  clear x0 K1
  generalize ((w.alloc (.cells #[.int .i64 5,.int .i64 0,.int .i64 xs,.slice wa 0 wc,.slice ra rn rc] 84)).alloc (.cells #[.int .i64 5,.int .i64 0,.int .i64 0,.slice none 0 0,.slice none 0 0] 84))=w2 at *
  have x0:=(O2.out.blk 0 rfl).1.cellOf (i:=0) rfl
  have x1:=(O2.out.blk 0 rfl).1.cellOf (i:=1) rfl
  have x2:=(O2.out.blk 0 rfl).1.cellOf (i:=2) rfl
  have x3:=(O2.out.blk 0 rfl).1.cellOf (i:=3) rfl
  have x4:=(O2.out.blk 0 rfl).1.cellOf (i:=4) rfl
  have hne:¬ (w.heap.size+1=w.heap.size):=by omega
  have hne':¬ (w.heap.size=w.heap.size+1):=by omega
  have y0:=(O2.out.blk 1 rfl).1.cellOf (i:=0) rfl
  have y1:=(O2.out.blk 1 rfl).1.cellOf (i:=1) rfl
  have y2:=(O2.out.blk 1 rfl).1.cellOf (i:=2) rfl
  have y3:=(O2.out.blk 1 rfl).1.cellOf (i:=3) rfl
  have y4:=(O2.out.blk 1 rfl).1.cellOf (i:=4) rfl
  have f1:=(O2.out.blk 1 rfl).1.free 1
  have f2:=(O2.out.blk 1 rfl).1.free 2
  have f3:=(O2.out.blk 1 rfl).1.free 3
  have f4:=(O2.out.blk 1 rfl).1.free 4
  go_wp2_with fail
  go_region
  all_goals go_wp2_with fail
  all_goals go_ret
  all_goals refine ⟨rfl,?_⟩
  all_goals repeat (first | exact B2.out | exact B2.out.drew | refine Below.drew ?_ | refine Below.setCell ?_ (by simp) _)
end
section
open Go.RowKit Go.Maps
theorem und_sb:Tryz.prog.underlying 221=some (.map 162 4):=by kernel_rfl
theorem WsOk.len8 {ws:List WrP} (ok:WsOk ws):ws.length≤8:=by
 have hn:(ws.map WrP.key).Nodup:=by
  have h2:=ok.lt
  unfold List.Nodup
  rw [List.pairwise_map]
  exact h2.imp fun {a b} h e=>by rw [e] at h;omega
 have h3:=nodup_len hn (m:=spots) (fun q hq=>by
  obtain ⟨x,hx,rfl⟩:=List.mem_map.1 hq
  exact ok.spot x hx)
 rw [List.length_map] at h3
 exact h3
theorem WsOk.keys_nd {ws:List WrP} (ok:WsOk ws):(ws.map WrP.key).Nodup:=by
 have h2:=ok.lt
 unfold List.Nodup
 rw [List.pairwise_map]
 exact h2.imp fun {a b} h e=>by rw [e] at h;omega
set_option maxRecDepth 20000 in
set_option maxHeartbeats 4000000 in
theorem written_any {ws:List WrP} (ok:WsOk ws) (hne:ws≠[]) {a:Option Addr} {n c:Nat} {w:World} (hr:Rd w a n c 4 (recC WrP.enc ws)):Calls Tryz.prog 58 #[.slice a n c] w (RetV (.bool true) w):=by
 have hln:=hr.rlen WrP.enc_len (by omega)
 have hn8:=ok.len8
 have hn1:1≤n:=by rw [← hln];exact List.length_pos_iff.2 hne
 rw [hln] at hn8
 have HR:=Box.mk hr
 have HL:=Box.mk hln
 have OK:=Box.mk ok
 have hmm:=@run_makeMap Tryz.prog
 have O0:=Box.mk (Own.newMap (P:=Tryz.prog) (k:=162) (ek:=ekR) (ev:=Value.bool) (Own.start w))
 have B0:=Box.mk ((Below.refl w.heap.size w).alloc (Nat.le_refl _) (.map #[] 0))
 clear hr hln ok hne
 go_enter Tryz.func58,Tryz.ntmps58
 go_wp2_with fail
 generalize (w.alloc (.map #[] 0))=w1 at *
 go_loopg [10] n (fun gg s10 wr=>∃k:Nat,k≤n∧n - k≤gg∧s10=.int .i64 k∧Box (∃l:List ((Int×Int)×Bool),Own w.heap.size wr [MapO Tryz.prog 162 ekR Value.bool w.heap.size l]∧Below w.heap.size w wr∧∀q∈keysA l,q∈(ws.take k).map WrP.key))
 case atStart=>exact ⟨0,Nat.zero_le _,by omega,rfl,⟨[],O0.out,B0.out,by simp [keysA]⟩⟩
 clear O0 B0
 case round =>
  obtain ⟨k,hk,hg,rfl,HI⟩:=hrel
  obtain ⟨l,hO,hB,hkl⟩:=HI.out
  have HI:=Box.mk (And.intro hO (And.intro hB hkl))
  clear hO hB hkl
  by_cases hlt:k<n
  ·obtain ⟨b,off,rfl,hb,hcl⟩:=(HR.out.below HI.out.2.1 (Nat.le_refl _)).recAt WrP.enc_len (by omega) k hlt
   obtain ⟨x,hx⟩:∃x,ws.getD k default=x:=⟨_,rfl⟩
   rw [hx] at hcl
   have hxm:x∈ws:=by rw [← hx];exact getD_mem (by rw [HL.out];exact hlt)
   have HTK:=Box.mk (show ws.take (k+1)=ws.take k++[x] from by rw [take_snoc (by rw [HL.out];exact hlt),hx])
   have hsp:=spots_iff.1 (OK.out.spot x hxm)
   have hdead:=OK.out.dead x hxm
   have hnew:x.key∉keysA l:=by
    intro h
    have h1:=HI.out.2.2 _ h
    have h2:=OK.out.keys_nd
    rw [← List.take_append_drop k ws,List.map_append,List.nodup_append] at h2
    refine h2.2.2 _ h1 _ (List.mem_map.2 ⟨x,?_,rfl⟩) rfl
    rw [← hx,List.getD_eq_getElem?_getD,List.getElem?_eq_getElem (by rw [HL.out];exact hlt)]
    exact List.mem_of_getElem? (i:=0) (by rw [List.getElem?_drop];simp [HL.out,hlt])
   obtain ⟨xt,xr,xd,va,vc,xl⟩:=x
   unfold WrP.key at hsp hnew
   simp only at hsp hdead hnew
   have c0:=hcl 0 _ rfl
   have c1:=hcl 1 _ rfl
   have c2':=hcl 2 _ rfl
   have c3':=hcl 3 _ rfl
   simp only [Nat.add_zero] at c0 c1 c2' c3'
   have HKL2:=Box.mk (show ∀q∈keysA (putA l (xt,xr) true),q∈(ws.take (k+1)).map WrP.key from fun r hr=>by
    rw [HTK.out,List.map_append]
    rw [putA_new hnew] at hr
    simp only [keysA,List.map_append,List.mem_append,List.map_cons,List.map_nil,List.mem_singleton] at hr
    rcases hr with hr | rfl
    ·exact List.mem_append.2 (.inl (HI.out.2.2 r hr))
    ·exact List.mem_append.2 (.inr (by simp [WrP.key])))
   have O4:=Box.mk ((HI.out.1.new [.int .i64 xt,.int .i64 xr,.bool xd,.slice va xl.length vc] 90))
   have B4:=Box.mk (HI.out.2.1.alloc HI.out.2.1.size (.cells #[.int .i64 xt,.int .i64 xr,.bool xd,.slice va xl.length vc] 90))
   clear hx hcl hxm HI
   go_upto_region 5 with fail
   clear c0 c1 c2' c3'
   generalize wr.heap.size=gx at *
   generalize (wr.alloc (.cells #[.int .i64 xt,.int .i64 xr,.bool xd,.slice va xl.length vc] 90))=w4 at *
   have y0:=(O4.out.blk 1 rfl).1.cellOf (i:=0) rfl
   have y1:=(O4.out.blk 1 rfl).1.cellOf (i:=1) rfl
   have O5:=Box.mk (O4.out.new [.int .i64 xt,.int .i64 xr] 162)
   have B5:=Box.mk (B4.out.alloc B4.out.size (.cells #[.int .i64 xt,.int .i64 xr] 162))
   go_upto_region 6 with fail
   clear y0 y1 O4 B4
   generalize w4.heap.size=gy at *
   generalize (w4.alloc (.cells #[.int .i64 xt,.int .i64 xr] 162))=w5 at *
   have y0:=(O5.out.blk 1 rfl).1.cellOf (i:=0) rfl
   have y1:=(O5.out.blk 1 rfl).1.cellOf (i:=1) rfl
   have y2:=(O5.out.blk 1 rfl).1.cellOf (i:=2) rfl
   have y3:=(O5.out.blk 1 rfl).1.cellOf (i:=3) rfl
   have v0:=(O5.out.blk 2 rfl).1.cellOf (i:=0) rfl
   have v1:=(O5.out.blk 2 rfl).1.cellOf (i:=1) rfl
   have hi1:In64 xt:=by unfold In64;omega
   have hi2:In64 xr:=by unfold In64;omega
   obtain ⟨kl,hkl⟩:=keyS (q:=(xt,xr)) hi1 hi2
   have hlook:=(O5.out.map 0 rfl).1.look (t:=221) (e:=4) K_spot ekR_inj und_sb z_bool hkl
   rw [getA_none.2 hnew] at hlook
   simp only [ekR,Option.map_none,Option.getD_none] at hlook
   obtain ⟨w6,hrun,O6r,hb6,_⟩:=O5.out.putMap K_spot ekR_inj und_sb 0 rfl hkl true
   have hrun':(Instr.mapUpdate 221 (.map (some w.heap.size)) (.agg #[.int .i64 xt,.int .i64 xr]) (.bool true)).run Tryz.prog w5=.ok () w6:=hrun
   have O6:=Box.mk (show Own w.heap.size w6 [MapO Tryz.prog 162 ekR Value.bool w.heap.size (putA l (xt,xr) true)] from (O6r.drop 1).drop 1)
   have B6:=Box.mk (B5.out.trans hb6)
   have t1:decide (xt<0)=false:=decide_eq_false (by omega)
   have t2:decide (255<xt)=false:=decide_eq_false (by omega)
   have HNB:=Box.mk (show numB xr=true from by unfold numB;simp;omega)
   have HNU:=Box.mk (number_any xr w5)
   rw [HNB.out] at HNU
   clear hrun hb6 hnew hkl B5 HTK O6r
   cases xd with
   | true =>
    have hxl:xl.length=0:=by rw [hdead rfl];rfl
    rw [hxl] at y3
    clear hxl O5 hdead
    go_wp2_with fail
    refine HNU.out.mono ?_
    rintro e w7 ⟨rfl,rfl⟩
    go_wp2_with fail
    go_roundg (n - (k+1))
    case measure=>omega
    case rel=>exact ⟨k+1,by omega,by omega,by go_num,⟨_,O6.out,B6.out,HKL2.out⟩⟩
   | false =>
    generalize xl.length=xn at *
    clear O5 hdead
    go_wp2_with fail
    refine HNU.out.mono ?_
    rintro e w7 ⟨rfl,rfl⟩
    go_wp2_with fail
    go_roundg (n - (k+1))
    case measure=>omega
    case rel=>exact ⟨k+1,by omega,by omega,by go_num,⟨_,O6.out,B6.out,HKL2.out⟩⟩
  ·obtain rfl:k=n:=by omega
   have h64:decide ((k:Int)≤64)=true:=decide_eq_true (by omega)
   go_wp2_with fail
   go_ret
   exact ⟨rfl,HI.out.2.1⟩
end
section
open Go.RowKit Go.Maps
theorem und_st:Tryz.prog.underlying 130=some (.map 3 132):=by kernel_rfl
structure HdOk (r:HdP) (s:Int):Prop where
 ht:0≤r.table∧r.table≤255
 hr:1≤r.row∧r.row≤1073741824
 hs:1≤r.stamp∧r.stamp≤s
theorem wrongF_enters (args:Array Value) (w:World):(callFunc 61 args).run Tryz.prog w=.ok (.enter 61 args) w:=enters_fn Tryz.func61 (by kernel_rfl) (by kernel_rfl) args w
set_option maxRecDepth 20000 in
set_option maxHeartbeats 4000000 in
theorem wrongF_any {r:HdP} {s:Int} (ok:HdOk r s) {gx:Nat} {w:World} (hg:w.cell? ⟨gx,2,none⟩=some (.int .i64 s)):Calls Tryz.prog 61 #[r.v,.pointer (some ⟨gx,0,none⟩)] w (RetV (.bool false) w):=by
 obtain ⟨⟨h1,h2⟩,⟨h3,h4⟩,h5,h6⟩:=ok
 obtain ⟨xt,xr,xs,va,vc,xl⟩:=r
 simp only at h1 h2 h3 h4 h5 h6
 unfold HdP.v
 simp only
 generalize xl.length=xn at *
 have HB:=Box.mk ((Below.refl w.heap.size w).alloc (Nat.le_refl _) (.cells #[.int .i64 xt,.int .i64 xr,.int .i64 xs,.slice va xn vc] 136))
 have K1:=Blk.new (w:=w) (k:=w.heap.size) (ty:=136) (arr:=#[.int .i64 xt,.int .i64 xr,.int .i64 xs,.slice va xn vc]) (cs:=[.int .i64 xt,.int .i64 xr,.int .i64 xs,.slice va xn vc]) rfl rfl
 have hg1:=(HB.out.cell (p:=⟨gx,2,none⟩) (cell_block_lt hg)).trans hg
 have t1:decide (xt<0)=false:=decide_eq_false (by omega)
 have t2:decide (255<xt)=false:=decide_eq_false (by omega)
 have t3:decide (xs<1)=false:=decide_eq_false (by omega)
 have t4:decide (s<xs)=false:=decide_eq_false (by omega)
 have HNB:=Box.mk (show numB xr=true from by unfold numB;simp;omega)
 clear h1 h2 h3 h4 h5 h6 hg
 go_enter Tryz.func61,Tryz.ntmps61
 go_upto_region 1 with fail
 have y0:=K1.cellOf (i:=0) rfl
 have y1:=K1.cellOf (i:=1) rfl
 have y2:=K1.cellOf (i:=2) rfl
 clear K1
 generalize (w.alloc (.cells #[.int .i64 xt,.int .i64 xr,.int .i64 xs,.slice va xn vc] 136))=w2 at *
 go_wp2_with fail
 refine (number_any _ _).mono ?_
 rintro e w3 ⟨rfl,rfl⟩
 rw [HNB.out]
 go_wp2_with fail
 go_ret
 exact ⟨rfl,HB.out⟩
abbrev StsO (b:Nat) (m:List (Int×Int)):HP:=MapO Tryz.prog 3 kI kI b m
set_option maxRecDepth 20000 in
set_option maxHeartbeats 4000000 in
theorem fail_any {B:Nat} {w:World} {l:List HP} {b:Nat} {m:List (Int×Int)} (O:Own B w (StsO b m::l)) (hi:∀x∈keysA m,In64 x) :
  Calls Tryz.prog 60 #[.map (some b)] w (fun e w'=>e=.returned (.tuple #[])∧Below B w w'∧∃m',keysA m'=keysA m∧Own B w' (StsO b m'::l)):=by
 have HI64:=Box.mk hi
 obtain ⟨o,hrg,O1,hb1⟩:=O.rangeM und_st 0 rfl
 have O1:=Box.mk (And.intro (show Own B (w.alloc o) (MapRO Tryz.prog 3 kI kI b w.heap.size m []::l) from O1) hb1)
 clear hb1 O hi
 go_enter Tryz.func60,Tryz.ntmps60
 go_wp2_with fail
 clear hrg
 generalize w.heap.size=r at *
 generalize w.alloc o=w1 at *
 go_loopg [6] m.length (fun gg _ wr=>∃ (m':List (Int×Int)) (S:List Int),leftA m' S≤gg∧Box (Own B wr (MapRO Tryz.prog 3 kI kI b r m' S::l)∧Below B w wr∧keysA m'=keysA m))
 case atStart=>exact ⟨m,[],leftA_le _ _,⟨O1.out.1,O1.out.2,rfl⟩⟩
 clear O1
 case round =>
  obtain ⟨m',S,hg,HI⟩:=hrel
  rcases HI.out.1.nextM kI_inj 0 rfl 0 with ⟨hall,hnx⟩ | ⟨x,v,w2,hxm,hxS,hnx,O2,hb2,hbt,hen⟩
  ·clear hall
   go_wp2_with fail
   go_end0
   exact ⟨rfl,HI.out.2.1,m',HI.out.2.2,HI.out.1.unrange 0 rfl⟩
  ·have hl2:leftA m' (x::S)<leftA m' S:=leftA_lt (mem_keysA_of hxm) hxS
   have hx64:=HI64.out x (by rw [← HI.out.2.2];exact mem_keysA_of hxm)
   have O2:=Box.mk (And.intro (show Own B w2 (MapRO Tryz.prog 3 kI kI b r m' (x::S)::l) from O2) (And.intro (HI.out.2.1.trans hb2) HI.out.2.2))
   simp only [kI] at hnx hen
   clear hb2 hbt HI
   by_cases hv:v=1
   ·obtain ⟨w3,hrun,O3,hb3⟩:=O2.out.1.putR K_int kI_inj und_st 0 rfl (mem_keysA_of hxm) (keyI hx64) 4
    have O3:=Box.mk (And.intro (show Own B w3 (MapRO Tryz.prog 3 kI kI b r (putA m' x 4) (x::S)::l) from O3) (And.intro (O2.out.2.1.trans hb3) ((keysA_putA_mem (mem_keysA_of hxm) 4).trans O2.out.2.2)))
    have hl3:=leftA_put (mem_keysA_of hxm) (4:Int) (x::S)
    simp only [kI] at hrun
    subst hv
    clear hb3 hxm hxS hx64 O2
    go_wp2_with fail
    go_roundg (leftA m' (x::S))
    case measure=>omega
    case rel=>exact ⟨putA m' x 4,x::S,by omega,O3⟩
   ·have hv':(v==1)=false:=by simp [hv]
    clear hxm hxS hx64 hv
    go_wp2_with fail
    go_roundg (leftA m' (x::S))
    case measure=>omega
    case rel=>exact ⟨m',x::S,Nat.le_refl _,O2⟩
end
section
structure Run (h:List HpP) (f:Nat→Sg):Prop where
 start:f 0=⟨[],[],0⟩
 step:∀k,k<h.length→Stp (f k) (h.getD k default) (f (k+1))
theorem Trc.run {h:List HpP} {σ:Sg} (t:Trc h σ):∃f,Run h f∧f h.length=σ:=by
 induction t with
 | nil=>exact ⟨fun _=>⟨[],[],0⟩,⟨rfl,fun k hk=>by simp at hk⟩,rfl⟩
 | @snoc h σ σ' x t s ih =>
  obtain ⟨f,⟨h0,h1⟩,h2⟩:=ih
  refine ⟨fun k=>if k≤h.length then f k else σ',⟨by simp [h0],fun k hk=>?_⟩,by simp;intro h;omega⟩
  simp only [List.length_append,List.length_singleton] at hk
  by_cases e:k<h.length
  ·simp only [if_pos (Nat.le_of_lt e),if_pos (Nat.succ_le_of_lt e)]
   rw [List.getD_eq_getElem?_getD,List.getElem?_append_left e,← List.getD_eq_getElem?_getD]
   exact h1 k e
  ·obtain rfl:k=h.length:=by omega
   simp only [if_pos (Nat.le_refl _),if_neg (Nat.not_succ_le_self _)]
   rw [List.getD_eq_getElem?_getD,List.getElem?_append_right (Nat.le_refl _),h2]
   simpa using s
theorem Run.trc {h:List HpP} {f:Nat→Sg} (r:Run h f):∀k,k≤h.length→Trc (h.take k) (f k)
 | 0,_=>by rw [r.start,List.take_zero];exact Trc.nil
 | k+1,hk=>by
  rw [List.take_succ_eq_append_getElem hk]
  have:=r.step k hk
  rw [List.getD_eq_getElem?_getD,List.getElem?_eq_getElem hk] at this
  exact (r.trc k (by omega)).snoc this
theorem Run.ok {h:List HpP} {f:Nat→Sg} (r:Run h f) (k:Nat) (hk:k≤h.length):SgOk (f k):=(r.trc k hk).ok
theorem Run.ext {h:List HpP} {f:Nat→Sg} (r:Run h f) {k j:Nat} (hkj:k≤j) (hj:j≤h.length):Ext (f k) (f j):=by
 induction j with
 | zero =>
  obtain rfl:k=0:=by omega
  exact Ext.refl _
 | succ j ih =>
  by_cases e:k=j+1
  ·subst e;exact Ext.refl _
  ·exact (ih (by omega) (by omega)).trans (r.step j hj).ext
theorem Run.len {h:List HpP} {f:Nat→Sg} (r:Run h f) (k:Nat) (hk:k≤h.length):(f k).n≤k∧(f k).com.length+(f k).opn.length≤k:=by
 have:=(r.trc k hk).len
 rw [List.length_take,Nat.min_eq_left hk] at this
 exact this
structure StOk (m:List (Int×Int)) (σ:Sg):Prop where
 key:∀x∈keysA m,1≤x∧x≤σ.n
 opn:∀p∈σ.opn,getA m p.1=some 1
theorem StOk.start:StOk [] ⟨[],[],0⟩:=⟨by simp [keysA],by simp⟩
theorem keys_putA (m:List (Int×Int)) (x v y:Int):y∈keysA (putA m x v)↔y=x∨y∈keysA m:=by
 by_cases h:x∈keysA m
 ·rw [keysA_putA_mem h]
  exact ⟨.inr,fun h2=>by rcases h2 with rfl | h2<;>assumption⟩
 ·rw [putA_new h]
  simp only [keysA,List.map_append,List.mem_append,List.map_cons,List.map_nil,List.mem_singleton]
  exact Or.comm
theorem StOk.ask {m:List (Int×Int)} {σ:Sg} (h:StOk m σ) (ok:SgOk σ) {x:HpP} (hx:x.tx=σ.n+1):x.tx∉keysA m∧StOk (putA m x.tx 1) ⟨σ.com,σ.opn++[(x.tx,x.writes)],x.tx⟩:=by
 have hp:=ok.pos
 refine ⟨fun hm=>by have:=h.key _ hm;omega,fun y hy=>?_,fun p hp=>?_⟩
 ·rcases (keys_putA m x.tx 1 y).1 hy with rfl | hy
  ·simp only;omega
  ·have:=h.key y hy;simp only;omega
 ·rw [getA_putA]
  rcases List.mem_append.1 hp with hp | hp
  ·rw [if_neg (by have:=(ok.mem p (List.mem_append.2 (.inr hp))).2.1;omega)]
   exact h.opn p hp
  ·simp at hp;subst hp;simp
theorem StOk.report {m:List (Int×Int)} {σ:Sg} (h:StOk m σ) (ok:SgOk σ) {x:HpP} {ws:List WrP} {o:List (Int×List WrP)} (hx:σ.opn=(x.tx,ws)::o):getA m x.tx=some 1∧StOk (putA m x.tx 2) ⟨σ.com++[(x.tx,ws)],o,σ.n⟩:=by
 have h1:=h.opn (x.tx,ws) (by rw [hx];simp)
 refine ⟨h1,fun y hy=>?_,fun p hp=>?_⟩
 ·rcases (keys_putA m x.tx 2 y).1 hy with rfl | hy
  ·exact h.key _ (by
    apply Classical.byContradiction
    intro hn
    rw [getA_none.2 hn] at h1;cases h1)
  ·exact h.key y hy
 ·rw [getA_putA]
  have hn:=ok.nd
  rw [hx,List.map_append,List.nodup_append] at hn
  obtain ⟨_,hn,_⟩:=hn
  simp only [List.map_cons,List.nodup_cons] at hn
  rw [if_neg (fun e=>hn.1 (by rw [e];exact List.mem_map.2 ⟨p,hp,rfl⟩))]
  exact h.opn p (by rw [hx];exact List.mem_cons_of_mem _ hp)
theorem StOk.fail {m m':List (Int×Int)} {σ:Sg} (h:StOk m σ) (hk:keysA m'=keysA m):StOk m' ⟨σ.com,[],σ.n⟩:=⟨fun x hx=>h.key x (by rw [← hk];exact hx),by simp⟩
theorem Run.i64 {h:List HpP} {f:Nat→Sg} (r:Run h f) (k:Nat) (hk:k≤h.length) (hl:h.length≤1000) {m:List (Int×Int)} (hs:StOk m (f k)):∀x∈keysA m,In64 x:=fun x hx=>by
 have h1:=hs.key x hx
 have h2:=(r.len k hk).1
 unfold In64;omega
end
end Go.Proofs.YtlfghapllmaigaaGreatDoor
