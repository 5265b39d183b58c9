/-
  The walk of conflict's structure; slices.Clone at the element types of the transactions' texts; Stores into an own row of records. Conditions: each theorem's own hypotheses.
-/
import Derived.Test.YtlfghapllmaigaaGreatDoorK08
import Derived.Test.YtlfghapllmaigaaGreatDoorK05
import Derived.Test.YtlfghapllmaigaaGreatDoorK02
namespace Go.Proofs.YtlfghapllmaigaaGreatDoor
section
open Go.RowKit Go.Maps
theorem agg3i:AggT Tryz.prog 246 3:=⟨by kernel_rfl,by kernel_rfl⟩
def anyD (hs:List AccP) (n:Nat) (acc:Nat→Nat→Nat→Bool):Bool:=(List.range n).any fun a=>(List.range n).any fun b=>(List.range n).any fun c=>dangI hs a b c&&acc a b c
theorem anyD_yes {hs:List AccP} {n:Nat} {acc:Nat→Nat→Nat→Bool} {a b c:Nat} (ha:a<n) (hb:b<n) (hc:c<n) (h1:dangI hs a b c=true) (h2:acc a b c=true):anyD hs n acc=true:=by
 unfold anyD
 rw [List.any_eq_true]
 refine ⟨a,List.mem_range.2 ha,?_⟩
 rw [List.any_eq_true]
 refine ⟨b,List.mem_range.2 hb,?_⟩
 rw [List.any_eq_true]
 exact ⟨c,List.mem_range.2 hc,by rw [h1,h2];rfl⟩
theorem anyD_no {hs:List AccP} {n:Nat} {acc:Nat→Nat→Nat→Bool} (h:∀a b c,a<n→b<n→c<n→(dangI hs a b c&&acc a b c)=false):anyD hs n acc=false:=by
 unfold anyD
 rw [List.any_eq_false]
 intro a ha
 rw [Bool.not_eq_true,List.any_eq_false]
 intro b hb
 rw [Bool.not_eq_true,List.any_eq_false]
 intro c hc
 rw [h a b c (List.mem_range.1 ha) (List.mem_range.1 hb) (List.mem_range.1 hc)];decide
theorem dang_is {hs:List AccP} {a:Option Addr} {n c g:Nat} {w:World} (hgr:GrRd w g a n c hs) (hr:HistRd w a n c hs) {ia ib ic:Nat} (ha:ia<n) (hb:ib<n) (hc:ic<n) {d:Bool} (hd:dangI hs ia ib ic=d) :
  Calls Tryz.prog 168 #[.pointer (some ⟨g,0,none⟩),.int .i64 (ia:Int),.int .i64 (ib:Int),.int .i64 (ic:Int)] w (RetV (.bool d) w):=by
 subst hd;exact dangerous_any hgr hr ha hb hc
def RetStr (p:Bool) (w:World) (e:Ending) (w':World):Prop:=Below w.heap.size w w'∧∃x y z:Int,e=.returned (.tuple #[.agg #[.int .i64 x,.int .i64 y,.int .i64 z],.bool p])
def Pred3 (g:Nat) (lb:Array Value) (n:Nat) (p:Nat→Nat→Nat→Bool) (w:World):Prop :=
 ∀ (W:World) (a b c:Nat),a<n→b<n→c<n→Below w.heap.size w W→Calls Tryz.prog g (#[.int .i64 (a:Int),.int .i64 (b:Int),.int .i64 (c:Int)]++lb) W (RetV (.bool (p a b c)) W)
set_option maxRecDepth 20000 in
set_option maxHeartbeats 8000000 in
theorem structure_any {hs:List AccP} {a:Option Addr} {n c g:Nat} {w:World} (hgr:GrRd w g a n c hs) (hr:HistRd w a n c hs) (hlen:n≤100) (acc:Nat→Nat→Nat→Bool) (gf:Nat) (lb:Array Value)
  (eg:∀args w,(callFunc gf args).run Tryz.prog w=.ok (.enter gf args) w) (hp:Pred3 gf lb n acc w) :
  Calls Tryz.prog 148 #[.pointer (some ⟨g,0,none⟩),.func (.func gf) #[] lb] w (RetStr (anyD hs n acc) w):=by
 have HR:=Box.mk hr
 have HG:=Box.mk hgr
 have HP:=Box.mk hp
 clear hr hgr hp
 obtain ⟨D,hD⟩:∃D,anyD hs n acc=D:=⟨_,rfl⟩
 rw [hD]
 have HD:=Box.mk hD
 clear hD
 have H0:=Box.mk (And.intro ((Below.refl w.heap.size w).alloc (Nat.le_refl _) (.cells #[.int .i64 0,.int .i64 0,.int .i64 0] 246)) (Blk.new (w:=w) (k:=w.heap.size) (ty:=246) (arr:=#[.int .i64 0,.int .i64 0,.int .i64 0]) (cs:=[.int .i64 0,.int .i64 0,.int .i64 0]) rfl rfl))
 go_enter Tryz.func148,Tryz.ntmps148
 go_upto_region 1 with fail
 generalize (w.alloc (.cells #[.int .i64 0,.int .i64 0,.int .i64 0] 246))=w1 at *
 have g0:=(HG.out.below H0.out.1).h0
 go_wp2_with fail
 clear g0
 go_loopg [6,7,8,14,22,30] n (fun gg _ _ _ s14 _ _ wr=>∃j:Nat,j≤n∧n - j≤gg∧s14=.int .i64 j∧Box (Below w.heap.size w wr∧Blk wr w.heap.size 246 [.int .i64 0,.int .i64 0,.int .i64 0])∧Box (∀x y z,x<j→y<n→z<n→(dangI hs x y z&&acc x y z)=false))
 case atStart=>exact ⟨0,Nat.zero_le _,by omega,rfl,H0,⟨fun x y z h=>by omega⟩⟩
 clear H0
 case round =>
  obtain ⟨j,hj,hg,rfl,HB,HA⟩:=hrel
  by_cases hlt:j<n
  ·have g0:=(HG.out.below HB.out.1).h0
   go_wp2_with fail
   clear g0
   go_loopg [7,8,22,30] n (fun gg _ _ s22 _ wr=>∃k:Nat,k≤n∧n - k≤gg∧s22=.int .i64 k∧Box (Below w.heap.size w wr∧Blk wr w.heap.size 246 [.int .i64 0,.int .i64 0,.int .i64 0])∧Box (∀y z,y<k→z<n→(dangI hs j y z&&acc j y z)=false))
   case atStart=>exact ⟨0,Nat.zero_le _,by omega,rfl,HB,⟨fun y z h=>by omega⟩⟩
   clear HB
   case round =>
    obtain ⟨k,hk,hg2,rfl,HB,HA2⟩:=hrel
    by_cases hlt2:k<n
    ·have g0:=(HG.out.below HB.out.1).h0
     go_wp2_with fail
     clear g0
     go_loopg [8,30] n (fun gg _ s30 wr=>∃m:Nat,m≤n∧n - m≤gg∧s30=.int .i64 m∧Box (Below w.heap.size w wr∧Blk wr w.heap.size 246 [.int .i64 0,.int .i64 0,.int .i64 0])∧Box (∀z,z<m→(dangI hs j k z&&acc j k z)=false))
     case atStart=>exact ⟨0,Nat.zero_le _,by omega,rfl,HB,⟨fun z h=>by omega⟩⟩
     clear HB
     case round =>
      obtain ⟨m,hm,hg3,rfl,HB,HA3⟩:=hrel
      by_cases hlt3:m<n
      ·obtain ⟨d,hd⟩:∃d,dangI hs j k m=d:=⟨_,rfl⟩
       have HDD:=Box.mk hd
       clear hd
       go_wp2_with fail
       refine (dang_is (HG.out.below HB.out.1) (HR.out.below HB.out.1) hlt hlt2 hlt3 HDD.out).mono ?_
       rintro e w2 ⟨rfl,hb⟩
       have B2:=Box.mk (And.intro (HB.out.1.trans (hb.mono HB.out.1.size)) (HB.out.2.below hb (Nat.le_refl _)))
       clear hb HB
       cases d with
       | false =>
        have HN:=Box.mk (show ∀z,z<m+1→(dangI hs j k z&&acc j k z)=false from fun z hz=>by
         by_cases e:z=m
         ·subst e;rw [HDD.out];rfl
         ·exact HA3.out z (by omega))
        go_wp2_with fail
        go_roundg (n - (m+1))
        case measure=>omega
        case rel=>exact ⟨m+1,by omega,by omega,by go_num,B2,HN⟩
       | true =>
        obtain ⟨q,hq⟩:∃q,acc j k m=q:=⟨_,rfl⟩
        have hcall:=HP.out w2 j k m hlt hlt2 hlt3 B2.out.1
        rw [hq] at hcall
        have HQ:=Box.mk hq
        clear hq
        go_wp2_with fail
        refine hcall.mono ?_
        rintro e w3 ⟨rfl,hb⟩
        have B3:=Box.mk (And.intro (B2.out.1.trans (hb.mono B2.out.1.size)) (B2.out.2.below hb (Nat.le_refl _)))
        clear hb hcall B2
        cases q with
        | false =>
         have HN:=Box.mk (show ∀z,z<m+1→(dangI hs j k z&&acc j k z)=false from fun z hz=>by
          by_cases e:z=m
          ·subst e;rw [HQ.out,Bool.and_false]
          ·exact HA3.out z (by omega))
         go_wp2_with fail
         go_roundg (n - (m+1))
         case measure=>omega
         case rel=>exact ⟨m+1,by omega,by omega,by go_num,B3,HN⟩
        | true =>
         obtain rfl:true=D:=by rw [← HD.out];exact (anyD_yes hlt hlt2 hlt3 HDD.out HQ.out).symm
         go_wp2_with (with_reducible refine wpList_store_row rfl _ _ _ rfl rfl (by kernel_rfl) B3.out.2 rfl rfl (cs:=[.int .i64 (j:Int),.int .i64 (k:Int),.int .i64 (m:Int)]) rfl rfl (by simp [Value.oneCell']) ?_)
         refine bodyPost_ret (results_cell2 rfl _ rfl (B3.out.2.row [.int .i64 (j:Int),.int .i64 (k:Int),.int .i64 (m:Int)]) agg3i) rfl ?_
         exact ⟨below_setRow B3.out.1 (Nat.le_refl _) _,_,_,_,rfl⟩
      ·obtain rfl:m=n:=by omega
       have HN:=Box.mk (show ∀y z,y<k+1→z<m→(dangI hs j y z&&acc j y z)=false from fun y z hy hz=>by
        by_cases e:y=k
        ·subst e;exact HA3.out z hz
        ·exact HA2.out y z (by omega) hz)
       go_wp2_with fail
       go_roundg (m - (k+1))
       case measure=>omega
       case rel=>exact ⟨k+1,by omega,by omega,by go_num,HB,HN⟩
    ·obtain rfl:k=n:=by omega
     have HN:=Box.mk (show ∀x y z,x<j+1→y<k→z<k→(dangI hs x y z&&acc x y z)=false from fun x y z hx hy hz=>by
      by_cases e:x=j
      ·subst e;exact HA2.out y z hy hz
      ·exact HA.out x y z (by omega) hy hz)
     go_wp2_with fail
     go_roundg (k - (j+1))
     case measure=>omega
     case rel=>exact ⟨j+1,by omega,by omega,by go_num,HB,HN⟩
  ·obtain rfl:j=n:=by omega
   obtain rfl:false=D:=by rw [← HD.out];exact (anyD_no (fun x y z h1 h2 h3=>HA.out x y z h1 h2 h3)).symm
   go_wp2_with (with_reducible refine wpList_store_row rfl _ _ _ rfl rfl (by kernel_rfl) HB.out.2 rfl rfl (cs:=[.int .i64 0,.int .i64 0,.int .i64 0]) rfl rfl (by simp [Value.oneCell']) ?_)
   refine bodyPost_ret (results_cell2 rfl _ rfl (HB.out.2.row [.int .i64 0,.int .i64 0,.int .i64 0]) agg3i) rfl ?_
   exact ⟨below_setRow HB.out.1 (Nat.le_refl _) _,_,_,_,rfl⟩
end
section
open Go.RowKit
def RetOwn (e:TypeId) (size n:Nat) (xs:List Value) (w:World) (en:Ending) (w':World):Prop:=Below w.heap.size w w'∧∃a cap,en=.returned (.slice a n cap)∧w'.ownsRow w.heap.size e size (.slice a n cap) n xs
theorem own_new' {w:World} {base n size g:Nat} {e:TypeId} {cs:List Value} (h:Blk w g e cs) (hb:base≤g) (hl:cs.length=n * size) (hn:n≤maxLen):w.ownsRow base e size (.slice (some ⟨g,0,none⟩) n n) n cs :=
 ⟨hl,.inr ⟨g,n,cs.toArray,rfl,hb,h,Nat.le_refl _,hn,by simp [hl],by rw [List.toList_toArray,List.take_of_length_le (by omega)]⟩⟩
theorem sl_acc:SlT Tryz.prog 40 102 (.agg #[.int .i64 0,.int .i64 0,.bool false,.int .i64 0,.slice none 0 0,.slice none 0 0]) 6 80:=⟨by kernel_rfl,by kernel_rfl,rfl⟩
set_option maxRecDepth 20000 in
set_option maxHeartbeats 1000000 in
theorem clone_acc {xs:List Value} {a:Option Addr} {n cap:Nat} {w:World} (hrd:Rd w a n cap 6 xs) (h1:∀u∈xs,u.oneCell'=true) (hn:n≤1000000):Calls Tryz.prog 147 #[.slice a n cap] w (RetOwn 102 6 n xs w):=by
 have SRC:=Box.mk (Src.ofRd (P:=Tryz.prog) (hrd.alloc (.cells #[] 102)) h1)
 have B0:Blk (w.alloc (.cells #[] 102)) w.heap.size 102 []:=Blk.new rfl rfl
 have HO:=Box.mk (own_new' (base:=w.heap.size) (n:=0) (size:=6) B0 (Nat.le_refl _) rfl (by decide))
 cases a with
 | none =>
  have hx:=hrd.hnil rfl
  have hl:=hrd.hlen
  rw [hx] at hl
  obtain rfl:n=0:=by simp at hl;omega
  subst hx
  clear hl hrd h1 SRC B0 HO
  have hq:=fun w=>Lib.run_eql_slice_nil (P:=Tryz.prog) w 40 102 none 0 cap 0 0 sl_acc.ht
  go_enter Tryz.func147,Tryz.ntmps147
  go_wp2_with fail
  go_ret
  exact ⟨Below.refl _ _,none,0,rfl,World.ownsRow_nil _ _ _ _⟩
 | some ad =>
  clear hrd h1 B0
  have hq:=fun w=>Lib.run_eql_slice_nil (P:=Tryz.prog) w 40 102 (some ad) n cap 0 0 sl_acc.ht
  go_enter Tryz.func147,Tryz.ntmps147
  go_wp2_with (at_builtin;refine wpList_append_src rfl _ _ 40 40 rfl sl_acc (.inl sl_acc.ht) rfl HO.out rfl SRC.out (by omega) (by unfold maxLen;omega) (by simp) ?_;intro a3 c3 w3 hown3 hgr3 _)
  go_ret
  rw [List.nil_append,Nat.zero_add] at hown3
  exact ⟨below_grown ((Below.refl _ _).alloc (Nat.le_refl _) _) hgr3 HO.out (Nat.le_refl _) (by simp),a3,c3,rfl,hown3⟩
set_option maxRecDepth 20000 in
set_option maxHeartbeats 1000000 in
theorem clone_int {xs:List Value} {a:Option Addr} {n cap:Nat} {w:World} (hrd:Rd w a n cap 1 xs) (h1:∀u∈xs,u.oneCell'=true) (hn:n≤1000000):Calls Tryz.prog 71 #[.slice a n cap] w (RetOwn 3 1 n xs w):=by
 have SRC:=Box.mk (Src.ofRd (P:=Tryz.prog) (hrd.alloc (.cells #[] 3)) h1)
 have B0:Blk (w.alloc (.cells #[] 3)) w.heap.size 3 []:=Blk.new rfl rfl
 have HO:=Box.mk (own_new' (base:=w.heap.size) (n:=0) (size:=1) B0 (Nat.le_refl _) rfl (by decide))
 cases a with
 | none =>
  have hx:=hrd.hnil rfl
  have hl:=hrd.hlen
  rw [hx] at hl
  obtain rfl:n=0:=by simp at hl;omega
  subst hx
  clear hl hrd h1 SRC B0 HO
  have hq:=fun w=>Lib.run_eql_slice_nil (P:=Tryz.prog) w 44 3 none 0 cap 0 0 sl_int.ht
  go_enter Tryz.func71,Tryz.ntmps71
  go_wp2_with fail
  go_ret
  exact ⟨Below.refl _ _,none,0,rfl,World.ownsRow_nil _ _ _ _⟩
 | some ad =>
  clear hrd h1 B0
  have hq:=fun w=>Lib.run_eql_slice_nil (P:=Tryz.prog) w 44 3 (some ad) n cap 0 0 sl_int.ht
  go_enter Tryz.func71,Tryz.ntmps71
  go_wp2_with (at_builtin;refine wpList_append_src rfl _ _ 44 44 rfl sl_int (.inl sl_int.ht) rfl HO.out rfl SRC.out (by omega) (by unfold maxLen;omega) (by simp) ?_;intro a3 c3 w3 hown3 hgr3 _)
  go_ret
  rw [List.nil_append,Nat.zero_add] at hown3
  exact ⟨below_grown ((Below.refl _ _).alloc (Nat.le_refl _) _) hgr3 HO.out (Nat.le_refl _) (by simp),a3,c3,rfl,hown3⟩
theorem sl_ptx:SlT Tryz.prog 66 95 (.pointer none) 1 8:=⟨by kernel_rfl,by kernel_rfl,rfl⟩
set_option maxRecDepth 20000 in
set_option maxHeartbeats 1000000 in
theorem clone_ptx {xs:List Value} {a:Option Addr} {n cap:Nat} {w:World} (hrd:Rd w a n cap 1 xs) (h1:∀u∈xs,u.oneCell'=true) (hn:n≤1000000):Calls Tryz.prog 104 #[.slice a n cap] w (RetOwn 95 1 n xs w):=by
 have SRC:=Box.mk (Src.ofRd (P:=Tryz.prog) (hrd.alloc (.cells #[] 95)) h1)
 have B0:Blk (w.alloc (.cells #[] 95)) w.heap.size 95 []:=Blk.new rfl rfl
 have HO:=Box.mk (own_new' (base:=w.heap.size) (n:=0) (size:=1) B0 (Nat.le_refl _) rfl (by decide))
 cases a with
 | none =>
  have hx:=hrd.hnil rfl
  have hl:=hrd.hlen
  rw [hx] at hl
  obtain rfl:n=0:=by simp at hl;omega
  subst hx
  clear hl hrd h1 SRC B0 HO
  have hq:=fun w=>Lib.run_eql_slice_nil (P:=Tryz.prog) w 66 95 none 0 cap 0 0 sl_ptx.ht
  go_enter Tryz.func104,Tryz.ntmps104
  go_wp2_with fail
  go_ret
  exact ⟨Below.refl _ _,none,0,rfl,World.ownsRow_nil _ _ _ _⟩
 | some ad =>
  clear hrd h1 B0
  have hq:=fun w=>Lib.run_eql_slice_nil (P:=Tryz.prog) w 66 95 (some ad) n cap 0 0 sl_ptx.ht
  go_enter Tryz.func104,Tryz.ntmps104
  go_wp2_with (at_builtin;refine wpList_append_src rfl _ _ 66 66 rfl sl_ptx (.inl sl_ptx.ht) rfl HO.out rfl SRC.out (by omega) (by unfold maxLen;omega) (by simp) ?_;intro a3 c3 w3 hown3 hgr3 _)
  go_ret
  rw [List.nil_append,Nat.zero_add] at hown3
  exact ⟨below_grown ((Below.refl _ _).alloc (Nat.le_refl _) _) hgr3 HO.out (Nat.le_refl _) (by simp),a3,c3,rfl,hown3⟩
theorem sl_ver:SlT Tryz.prog 32 93 (.agg #[.int .i64 0,.int .i64 0,.bool false,.slice none 0 0]) 4 48:=⟨by kernel_rfl,by kernel_rfl,rfl⟩
set_option maxRecDepth 20000 in
set_option maxHeartbeats 1000000 in
theorem clone_ver {xs:List Value} {a:Option Addr} {n cap:Nat} {w:World} (hrd:Rd w a n cap 4 xs) (h1:∀u∈xs,u.oneCell'=true) (hn:n≤1000000):Calls Tryz.prog 118 #[.slice a n cap] w (RetOwn 93 4 n xs w):=by
 have SRC:=Box.mk (Src.ofRd (P:=Tryz.prog) (hrd.alloc (.cells #[] 93)) h1)
 have B0:Blk (w.alloc (.cells #[] 93)) w.heap.size 93 []:=Blk.new rfl rfl
 have HO:=Box.mk (own_new' (base:=w.heap.size) (n:=0) (size:=4) B0 (Nat.le_refl _) rfl (by decide))
 cases a with
 | none =>
  have hx:=hrd.hnil rfl
  have hl:=hrd.hlen
  rw [hx] at hl
  obtain rfl:n=0:=by simp at hl;omega
  subst hx
  clear hl hrd h1 SRC B0 HO
  have hq:=fun w=>Lib.run_eql_slice_nil (P:=Tryz.prog) w 32 93 none 0 cap 0 0 sl_ver.ht
  go_enter Tryz.func118,Tryz.ntmps118
  go_wp2_with fail
  go_ret
  exact ⟨Below.refl _ _,none,0,rfl,World.ownsRow_nil _ _ _ _⟩
 | some ad =>
  clear hrd h1 B0
  have hq:=fun w=>Lib.run_eql_slice_nil (P:=Tryz.prog) w 32 93 (some ad) n cap 0 0 sl_ver.ht
  go_enter Tryz.func118,Tryz.ntmps118
  go_wp2_with (at_builtin;refine wpList_append_src rfl _ _ 32 32 rfl sl_ver (.inl sl_ver.ht) rfl HO.out rfl SRC.out (by omega) (by unfold maxLen;omega) (by simp) ?_;intro a3 c3 w3 hown3 hgr3 _)
  go_ret
  rw [List.nil_append,Nat.zero_add] at hown3
  exact ⟨below_grown ((Below.refl _ _).alloc (Nat.le_refl _) _) hgr3 HO.out (Nat.le_refl _) (by simp),a3,c3,rfl,hown3⟩
theorem sl_row:SlT Tryz.prog 88 64 (.agg #[.int .i64 0,.int .i64 0,.string ⟨#[]⟩]) 3 32:=⟨by kernel_rfl,by kernel_rfl,rfl⟩
set_option maxRecDepth 20000 in
set_option maxHeartbeats 1000000 in
theorem clone_row {xs:List Value} {a:Option Addr} {n cap:Nat} {w:World} (hrd:Rd w a n cap 3 xs) (h1:∀u∈xs,u.oneCell'=true) (hn:n≤1000000):Calls Tryz.prog 103 #[.slice a n cap] w (RetOwn 64 3 n xs w):=by
 have SRC:=Box.mk (Src.ofRd (P:=Tryz.prog) (hrd.alloc (.cells #[] 64)) h1)
 have B0:Blk (w.alloc (.cells #[] 64)) w.heap.size 64 []:=Blk.new rfl rfl
 have HO:=Box.mk (own_new' (base:=w.heap.size) (n:=0) (size:=3) B0 (Nat.le_refl _) rfl (by decide))
 cases a with
 | none =>
  have hx:=hrd.hnil rfl
  have hl:=hrd.hlen
  rw [hx] at hl
  obtain rfl:n=0:=by simp at hl;omega
  subst hx
  clear hl hrd h1 SRC B0 HO
  have hq:=fun w=>Lib.run_eql_slice_nil (P:=Tryz.prog) w 88 64 none 0 cap 0 0 sl_row.ht
  go_enter Tryz.func103,Tryz.ntmps103
  go_wp2_with fail
  go_ret
  exact ⟨Below.refl _ _,none,0,rfl,World.ownsRow_nil _ _ _ _⟩
 | some ad =>
  clear hrd h1 B0
  have hq:=fun w=>Lib.run_eql_slice_nil (P:=Tryz.prog) w 88 64 (some ad) n cap 0 0 sl_row.ht
  go_enter Tryz.func103,Tryz.ntmps103
  go_wp2_with (at_builtin;refine wpList_append_src rfl _ _ 88 88 rfl sl_row (.inl sl_row.ht) rfl HO.out rfl SRC.out (by omega) (by unfold maxLen;omega) (by simp) ?_;intro a3 c3 w3 hown3 hgr3 _)
  go_ret
  rw [List.nil_append,Nat.zero_add] at hown3
  exact ⟨below_grown ((Below.refl _ _).alloc (Nat.le_refl _) _) hgr3 HO.out (Nat.le_refl _) (by simp),a3,c3,rfl,hown3⟩
theorem sl_sto:SlT Tryz.prog 60 181 (.agg #[.int .i64 0,.int .i64 0]) 2 16:=⟨by kernel_rfl,by kernel_rfl,rfl⟩
set_option maxRecDepth 20000 in
set_option maxHeartbeats 1000000 in
theorem clone_sto {xs:List Value} {a:Option Addr} {n cap:Nat} {w:World} (hrd:Rd w a n cap 2 xs) (h1:∀u∈xs,u.oneCell'=true) (hn:n≤1000000):Calls Tryz.prog 87 #[.slice a n cap] w (RetOwn 181 2 n xs w):=by
 have SRC:=Box.mk (Src.ofRd (P:=Tryz.prog) (hrd.alloc (.cells #[] 181)) h1)
 have B0:Blk (w.alloc (.cells #[] 181)) w.heap.size 181 []:=Blk.new rfl rfl
 have HO:=Box.mk (own_new' (base:=w.heap.size) (n:=0) (size:=2) B0 (Nat.le_refl _) rfl (by decide))
 cases a with
 | none =>
  have hx:=hrd.hnil rfl
  have hl:=hrd.hlen
  rw [hx] at hl
  obtain rfl:n=0:=by simp at hl;omega
  subst hx
  clear hl hrd h1 SRC B0 HO
  have hq:=fun w=>Lib.run_eql_slice_nil (P:=Tryz.prog) w 60 181 none 0 cap 0 0 sl_sto.ht
  go_enter Tryz.func87,Tryz.ntmps87
  go_wp2_with fail
  go_ret
  exact ⟨Below.refl _ _,none,0,rfl,World.ownsRow_nil _ _ _ _⟩
 | some ad =>
  clear hrd h1 B0
  have hq:=fun w=>Lib.run_eql_slice_nil (P:=Tryz.prog) w 60 181 (some ad) n cap 0 0 sl_sto.ht
  go_enter Tryz.func87,Tryz.ntmps87
  go_wp2_with (at_builtin;refine wpList_append_src rfl _ _ 60 60 rfl sl_sto (.inl sl_sto.ht) rfl HO.out rfl SRC.out (by omega) (by unfold maxLen;omega) (by simp) ?_;intro a3 c3 w3 hown3 hgr3 _)
  go_ret
  rw [List.nil_append,Nat.zero_add] at hown3
  exact ⟨below_grown ((Below.refl _ _).alloc (Nat.le_refl _) _) hgr3 HO.out (Nat.le_refl _) (by simp),a3,c3,rfl,hown3⟩
end
section
open Go.RowKit
theorem own_store1 {w:World} {base e size g n cap:Nat} {xs:List Value} (h:w.ownsRow base e size (.slice (some ⟨g,0,none⟩) n cap) n xs) (j:Nat) (hj:j<xs.length) (v:Value) :
  ∃cur,Blk w g e cur∧j+1≤cur.length∧(w.setRow g (splice cur j [v]).toArray).ownsRow base e size (.slice (some ⟨g,0,none⟩) n cap) n (xs.set j v)∧w.grownBy (w.setRow g (splice cur j [v]).toArray) (some g):=by
 rcases h.2 with ⟨h',_⟩ | ⟨g',cap',cur,h',hb,hg,hnc,hcm,hcs,htake⟩
 ·simp at h'
 ·simp only [Value.slice.injEq,Option.some.injEq,Addr.mk.injEq,and_true,true_and] at h'
  obtain ⟨rfl,rfl⟩:=h'
  have hlen:=h.1
  have hle:xs.length≤cur.toList.length:=by rw [← htake,List.length_take];omega
  have hsl:splice cur.toList j [v]=cur.toList.set j v:=by
   unfold splice
   rw [List.set_eq_take_append_cons_drop,if_pos (by omega)];simp
  have hset:Blk (w.setRow g (splice cur.toList j [v]).toArray) g e (splice cur.toList j [v]):=Blk.row (cs:=cur.toList) (by unfold Blk;simpa using hg) _
  refine ⟨cur.toList,by unfold Blk;simpa using hg,by omega,⟨by simpa using hlen,.inr ⟨g,cap,(splice cur.toList j [v]).toArray,rfl,hb,hset,hnc,hcm,?_,?_⟩⟩,⟨rfl,rfl,rfl,by simp,fun k _ hk=>setRow_other w g k _ (fun e=>hk (by simp [e]))⟩⟩
  ·rw [hsl];simpa using hcs
  ·rw [hsl,List.take_set,htake]
section
variable {α:Type} [Inhabited α] {enc:α→List Value} {k:Nat}
theorem recC_set (hk:∀x,(enc x).length=k) (l:List α) (i:Nat) (hi:i<l.length) (j:Nat) (hj:j<k) (v:Value) (y:α) (hy:enc y=(enc (l.getD i default)).set j v):(recC enc l).set (i * k+j) v=recC enc (l.set i y):=by
 induction l generalizing i with
 | nil=>simp at hi
 | cons x l ih =>
  rw [recC_cons]
  cases i with
  | zero =>
   rw [Nat.zero_mul,Nat.zero_add,List.set_append,if_pos (by rw [hk];exact hj),List.set_cons_zero,recC_cons,hy];simp
  | succ i =>
   rw [List.set_append,if_neg (by rw [hk,Nat.succ_mul];omega),hk,show (i+1) * k+j - k=i * k+j from by rw [Nat.succ_mul];omega,ih i (by simpa using hi) (by simpa using hy),List.set_cons_succ,recC_cons]
end
theorem own_storeN {w:World} {base e size g n cap:Nat} {xs:List Value} (h:w.ownsRow base e size (.slice (some ⟨g,0,none⟩) n cap) n xs) (off:Nat) (cs:List Value) (hoff:off+cs.length≤xs.length) :
  ∃cur,Blk w g e cur∧off+cs.length≤cur.length∧(w.setRow g (splice cur off cs).toArray).ownsRow base e size (.slice (some ⟨g,0,none⟩) n cap) n (splice xs off cs)∧w.grownBy (w.setRow g (splice cur off cs).toArray) (some g):=by
 rcases h.2 with ⟨h',_⟩ | ⟨g',cap',cur,h',hb,hg,hnc,hcm,hcs,htake⟩
 ·simp at h'
 ·simp only [Value.slice.injEq,Option.some.injEq,Addr.mk.injEq,and_true,true_and] at h'
  obtain ⟨rfl,rfl⟩:=h'
  have hlen:=h.1
  have hle:xs.length≤cur.toList.length:=by rw [← htake,List.length_take];omega
  have hsl:(splice cur.toList off cs).length=cur.toList.length:=by
   unfold splice;simp only [List.length_append,List.length_take,List.length_drop];omega
  have hset:Blk (w.setRow g (splice cur.toList off cs).toArray) g e (splice cur.toList off cs):=Blk.row (cs:=cur.toList) (by unfold Blk;simpa using hg) _
  have htk:(splice cur.toList off cs).take (n * size)=splice xs off cs:=by
   have hxl:xs.length=n * size:=hlen
   rw [← htake]
   unfold splice
   rw [List.take_append,List.take_append,List.take_take,List.take_take,List.length_take,List.drop_take]
   rw [show min (n * size) off=off from by omega,show min off (n * size)=off from by omega,show min off cur.toList.length=off from by omega,List.take_of_length_le (l:=cs) (by omega),show n * size - off - cs.length=n * size - (off+cs.length) from by omega]
  refine ⟨cur.toList,by unfold Blk;simpa using hg,by omega,⟨?_,.inr ⟨g,cap,(splice cur.toList off cs).toArray,rfl,hb,hset,hnc,hcm,?_,?_⟩⟩,⟨rfl,rfl,rfl,by simp,fun k _ hk=>setRow_other _ _ _ _ (fun e=>hk (by simp [e]))⟩⟩
  ·rw [← htk,List.length_take,hsl];omega
  ·simp only [List.size_toArray];rw [hsl];simpa using hcs
  ·simpa using htk
theorem own_some {w:World} {base e size n cap:Nat} {a:Option Addr} {xs:List Value} (h:w.ownsRow base e size (.slice a n cap) n xs) (hn:0<n):∃g,a=some ⟨g,0,none⟩∧base≤g:=by
 rcases h.2 with ⟨h',h0⟩ | ⟨g',cap',cur,h',hb,hg,hnc,hcm,hcs,htake⟩
 ·omega
 ·simp only [Value.slice.injEq] at h'
  exact ⟨g',h'.1,hb⟩
end
end Go.Proofs.YtlfghapllmaigaaGreatDoor
