/-
  The walks of snapshot's sees and of the binary search; The walk of snapshot's rows: its iterator hands out the versions of each row. Conditions: each theorem's own hypotheses.
-/
import Derived.Test.YtlfghapllmaigaaGreatDoorK21
import Derived.Sort.QuietIn
set_option linter.unusedVariables false
set_option linter.unusedSimpArgs false
namespace Go.Proofs.YtlfghapllmaigaaGreatDoor
section
open Go.RowKit Go.Maps
set_option maxRecDepth 20000 in
set_option maxHeartbeats 1000000 in
theorem seesF_any (x:VerP) (s:Int) (w:World):Calls Tryz.prog 146 #[x.v,.int .i64 s] w (RetV (.int .i64 (cmpI x.stamp s)) w):=by
 obtain ⟨xa,xb,xd,va,vc,xl⟩:=x
 unfold VerP.v
 have HB:=Box.mk ((Below.refl w.heap.size w).alloc (Nat.le_refl _) (.cells #[.int .i64 xa,.int .i64 xb,.bool xd,.slice va xl.length vc] 93))
 have K1:=Blk.new (w:=w) (k:=w.heap.size) (ty:=93) (arr:=#[.int .i64 xa,.int .i64 xb,.bool xd,.slice va xl.length vc]) (cs:=[.int .i64 xa,.int .i64 xb,.bool xd,.slice va xl.length vc]) rfl rfl
 go_enter Tryz.func146,Tryz.ntmps146
 go_upto_region 1 with fail
 have y1:=K1.cellOf (i:=1) rfl
 generalize (w.alloc (.cells #[.int .i64 xa,.int .i64 xb,.bool xd,.slice va xl.length vc] 93))=w2 at *
 go_wp2_with fail
 refine (cmpI_any _ _ _).mono ?_
 rintro e w3 ⟨rfl,rfl⟩
 go_wp2_with fail
 go_ret
 exact ⟨rfl,HB.out⟩
theorem seesF_enters (args:Array Value) (w:World):(callFunc 146 args).run Tryz.prog w=.ok (.enter 146 args) w:=enters_fn Tryz.func146 (by kernel_rfl) (by kernel_rfl) args w
structure Cut (vs:List VerP) (s:Int) (j:Nat):Prop where
 le:j≤vs.length
 lo:∀i,i<j→(vs.getD i default).stamp<s
 hi:∀i,j≤i→i<vs.length→s≤(vs.getD i default).stamp
def RetBs (vs:List VerP) (s:Int) (w:World) (e:Ending) (w':World):Prop:=Below w.heap.size w w'∧∃j,Cut vs s j∧e=.returned (.tuple #[.int .i64 (j:Int),.bool (decide (j<vs.length)&&decide ((vs.getD j default).stamp=s))])
theorem asc_le {vs:List VerP} (h:vs.Pairwise (fun a b=>a.stamp<b.stamp)) {i j:Nat} (hij:i≤j) (hj:j<vs.length):(vs.getD i default).stamp≤(vs.getD j default).stamp:=by
 rw [List.getD_eq_getElem?_getD,List.getD_eq_getElem?_getD,List.getElem?_eq_getElem hj,List.getElem?_eq_getElem (Nat.lt_of_le_of_lt hij hj)]
 rcases Nat.lt_or_eq_of_le hij with h1 | h1
 ·exact Int.le_of_lt (List.pairwise_iff_getElem.1 h i j (Nat.lt_of_le_of_lt hij hj) hj h1)
 ·subst h1;exact Int.le_refl _
theorem cmpI_lt {a b:Int}:cmpI a b<0↔a<b:=by
 unfold cmpI
 by_cases h1:a<b
 ·simp [h1]
 ·by_cases h2:b<a
  ·simp [h1,h2]
  ·simp [h1,h2]
theorem cmpI_eq {a b:Int}:cmpI a b=0↔a=b:=by
 unfold cmpI
 by_cases h1:a<b
 ·simp [h1];omega
 ·by_cases h2:b<a
  ·simp [h1,h2];omega
  ·simp [h1,h2];omega
set_option maxRecDepth 20000 in
set_option maxHeartbeats 2000000 in
theorem bsearch_any {vs:List VerP} {a:Option Addr} {n c:Nat} {w:World} (hr:Rd w a n c 4 (recC VerP.enc vs)) (hasc:vs.Pairwise (fun a b=>a.stamp<b.stamp)) (s:Int) (hn:n≤1000000) :
  Calls Tryz.prog 145 #[.slice a n c,.int .i64 s,.func (.func 146) #[] #[]] w (RetBs vs s w):=by
 have hln:=hr.rlen VerP.enc_len (by omega)
 have HR:=Box.mk hr
 have HL:=Box.mk hln
 have HA:=Box.mk hasc
 clear hr hln hasc
 have hen:=seesF_enters
 go_enter Tryz.func145,Tryz.ntmps145
 go_wp2_with fail
 go_loopg [9,10] n (fun gg s9 s10 wr=>∃lo hi:Nat,lo≤hi∧hi≤n∧hi - lo≤gg∧s9=.int .i64 lo∧s10=.int .i64 hi∧Box (Below w.heap.size w wr∧(∀i,i<lo→(vs.getD i default).stamp<s)∧(∀i,hi≤i→i<n→s≤(vs.getD i default).stamp)))
 case atStart=>exact ⟨0,n,Nat.zero_le _,Nat.le_refl _,by omega,rfl,rfl,⟨Below.refl _ _,fun i h=>by omega,fun i h1 h2=>by omega⟩⟩
 case round =>
  obtain ⟨lo,hi,h1,h2,hg,rfl,rfl,HI⟩:=hrel
  by_cases hlt:lo<hi
  ·obtain ⟨m,hm⟩:∃m,(lo+hi) / 2=m:=⟨_,rfl⟩
   have hmI:((lo:Int)+(hi:Int)) / 2=(m:Int):=by omega
   have hm1:lo≤m:=by omega
   have hm2:m<hi:=by omega
   obtain ⟨b,off,rfl,hb,hcl⟩:=(HR.out.below HI.out.1 (Nat.le_refl _)).recAt VerP.enc_len (by omega) m (by omega)
   obtain ⟨x,hx⟩:∃x,vs.getD m default=x:=⟨_,rfl⟩
   rw [hx] at hcl
   have HX:=Box.mk hx
   have HC:=Box.mk (fun (w:World)=>seesF_any x s w)
   have HS:=Box.mk (show cmpI x.stamp s<0↔x.stamp<s from cmpI_lt)
   obtain ⟨xa,xb,xd,va,vc,xl⟩:=x
   have c0:=hcl 0 _ rfl
   have c1:=hcl 1 _ rfl
   have c2:=hcl 2 _ rfl
   have c3:=hcl 3 _ rfl
   simp only [Nat.add_zero] at c0 c1 c2 c3
   clear hx hcl
   simp only [VerP.v] at HC HS
   generalize cmpI xb s=cc at *
   have HM:=Box.mk (And.intro hm1 hm2)
   go_upto_region 5 with fail
   clear hmI hm
   go_wp2_with fail
   refine (HC.out wr).mono ?_
   rintro e w3 ⟨rfl,hb3⟩
   have HB:=Box.mk (HI.out.1.trans (hb3.mono HI.out.1.size))
   clear hb3 c0 c1 c2 c3
   by_cases hcc:cc<0
   ·have hs:=HS.out.1 hcc
    have hcc':decide (cc<0)=true:=decide_eq_true hcc
    go_wp2_with fail
    go_roundg (hi - (m+1))
    case measure=>omega
    case rel=>exact ⟨m+1,hi,by omega,by omega,by omega,by go_num,rfl,⟨HB.out,fun i hi2=>by
     have h1:=asc_le HA.out (i:=i) (j:=m) (by omega) (by rw [HL.out];omega)
     rw [HX.out] at h1
     exact Int.lt_of_le_of_lt h1 hs,HI.out.2.2⟩⟩
   ·have hs:¬ xb<s:=fun h=>hcc (HS.out.2 h)
    have hcc':decide (cc<0)=false:=decide_eq_false hcc
    go_wp2_with fail
    go_roundg (m - lo)
    case measure=>omega
    case rel=>exact ⟨lo,m,by omega,by omega,by omega,rfl,rfl,⟨HB.out,HI.out.2.1,fun i h1 h2=>by
     have h3:=asc_le HA.out (i:=m) (j:=i) (by omega) (by rw [HL.out];omega)
     rw [HX.out] at h3
     simp only at h3
     omega⟩⟩
  ·obtain rfl:hi=lo:=by omega
   have HCUT:=Box.mk (show Cut vs s hi from ⟨by rw [HL.out];exact h2,HI.out.2.1,fun i h1 h3=>HI.out.2.2 i h1 (by rw [← HL.out];exact h3)⟩)
   by_cases hn2:hi<n
   ·obtain ⟨b,off,rfl,hb,hcl⟩:=(HR.out.below HI.out.1 (Nat.le_refl _)).recAt VerP.enc_len (by omega) hi hn2
    obtain ⟨x,hx⟩:∃x,vs.getD hi default=x:=⟨_,rfl⟩
    rw [hx] at hcl
    have HX:=Box.mk hx
    have HC:=Box.mk (fun (w:World)=>seesF_any x s w)
    have HS:=Box.mk (show cmpI x.stamp s=0↔x.stamp=s from cmpI_eq)
    obtain ⟨xa,xb,xd,va,vc,xl⟩:=x
    have c0:=hcl 0 _ rfl
    have c1:=hcl 1 _ rfl
    have c2:=hcl 2 _ rfl
    have c3:=hcl 3 _ rfl
    simp only [Nat.add_zero] at c0 c1 c2 c3
    clear hx hcl
    simp only [VerP.v] at HC HS
    generalize cmpI xb s=cc at *
    go_wp2_with fail
    refine (HC.out wr).mono ?_
    rintro e w3 ⟨rfl,hb3⟩
    have HB:=Box.mk (HI.out.1.trans (hb3.mono HI.out.1.size))
    clear hb3 c0 c1 c2 c3
    by_cases hcc:cc=0
    ·have hs:=HS.out.1 hcc
     have hcc':(cc==0)=true:=by simp [hcc]
     clear hcc
     go_wp2_with fail
     go_ret2
     exact ⟨HB.out,hi,HCUT.out,by rw [HX.out,HL.out];simp [hn2,hs]⟩
    ·have hs:¬ xb=s:=fun h=>hcc (HS.out.2 h)
     have hcc':(cc==0)=false:=by simp [hcc]
     clear hcc
     go_wp2_with fail
     go_ret2
     exact ⟨HB.out,hi,HCUT.out,by rw [HX.out];simp [hs]⟩
   ·go_wp2_with fail
    go_ret2
    exact ⟨HI.out.1,hi,HCUT.out,by rw [HL.out];simp [hn2]⟩
structure SeeN (vs:List VerP) (s:Int) (k:Nat):Prop where
 le:k≤vs.length
 lo:∀i,i<k→(vs.getD i default).stamp≤s
 hi:∀i,k≤i→i<vs.length→s<(vs.getD i default).stamp
def RetSee (vs:List VerP) (s:Int) (w:World) (e:Ending) (w':World):Prop:=Below w.heap.size w w'∧∃k,SeeN vs s k∧e=.returned (.int .i64 ((k:Int) - 1))
set_option maxRecDepth 20000 in
set_option maxHeartbeats 1000000 in
theorem sees_any {vs:List VerP} {a:Option Addr} {n c:Nat} {w:World} (hr:Rd w a n c 4 (recC VerP.enc vs)) (hasc:vs.Pairwise (fun a b=>a.stamp<b.stamp)) (s:Int) (hn:n≤1000000) :
  Calls Tryz.prog 95 #[.slice a n c,.int .i64 s] w (RetSee vs s w):=by
 have hln:=hr.rlen VerP.enc_len (by omega)
 have HL:=Box.mk hln
 have HA:=Box.mk hasc
 have HC:=Box.mk (bsearch_any hr hasc s hn)
 clear hr hln hasc
 go_enter Tryz.func95,Tryz.ntmps95
 go_wp2_with fail
 refine HC.out.mono ?_
 rintro e w1 ⟨hb,j,hcut,rfl⟩
 have HB:=Box.mk (And.intro hb hcut)
 have hj:=hcut.le
 rw [HL.out] at hj
 clear hb hcut HC
 by_cases hit:j<vs.length∧(vs.getD j default).stamp=s
 ·have HT:=Box.mk hit
  have e1:(decide (j<vs.length)&&decide ((vs.getD j default).stamp=s))=true:=by simp only [Bool.and_eq_true,decide_eq_true_eq];exact hit
  rw [e1]
  clear hit e1
  go_wp2_with fail
  go_ret
  refine ⟨HB.out.1,j+1,⟨HT.out.1,fun i hi=>?_,fun i h1 h2=>?_⟩,by rw [show (((j+1:Nat):Int) - 1)=(j:Int) from by omega];rfl⟩
  ·by_cases h:i=j
   ·subst h;rw [HT.out.2];exact Int.le_refl _
   ·exact Int.le_of_lt (HB.out.2.lo i (by omega))
  ·have h3:=List.pairwise_iff_getElem.1 HA.out j i HT.out.1 h2 (by omega)
   have h4:=HT.out.2
   rw [List.getD_eq_getElem?_getD,List.getElem?_eq_getElem HT.out.1] at h4
   rw [List.getD_eq_getElem?_getD,List.getElem?_eq_getElem h2]
   simp only [Option.getD_some] at h4 ⊢
   rw [h4] at h3;exact h3
 ·have HT:=Box.mk hit
  have e1:(decide (j<vs.length)&&decide ((vs.getD j default).stamp=s))=false:=by
   cases h:(decide (j<vs.length)&&decide ((vs.getD j default).stamp=s)) with
   | false=>rfl
   | true=>simp only [Bool.and_eq_true,decide_eq_true_eq] at h;exact absurd h hit
  rw [e1]
  clear hit e1
  go_wp2_with fail
  go_ret
  refine ⟨HB.out.1,j,⟨HB.out.2.le,fun i hi=>Int.le_of_lt (HB.out.2.lo i hi),fun i h1 h2=>?_⟩,rfl⟩
  have h3:=HB.out.2.hi i h1 h2
  by_cases h:i=j
  ·subst h
   have:(vs.getD i default).stamp≠s:=fun e=>HT.out ⟨h2,e⟩
   omega
  ·have hj2:j<vs.length:=by omega
   have h4:=List.pairwise_iff_getElem.1 HA.out j i hj2 h2 (by omega)
   have h5:=HB.out.2.hi j (Nat.le_refl _) hj2
   rw [List.getD_eq_getElem?_getD,List.getElem?_eq_getElem hj2] at h5
   rw [List.getD_eq_getElem?_getD,List.getElem?_eq_getElem h2]
   simp only [Option.getD_some] at h5 ⊢
   omega
def pickG (s:Int) (g:List VerP):Option VerP:=((g.filter fun v=>decide (v.stamp≤s)).getLast?).bind fun v=>if v.dead then none else some v
theorem SeeN.take {vs:List VerP} {s:Int} {k:Nat} (h:SeeN vs s k):vs.filter (fun v=>decide (v.stamp≤s))=vs.take k:=by
 have e:vs=vs.take k++vs.drop k:=(List.take_append_drop k vs).symm
 have h1:(vs.take k).filter (fun v=>decide (v.stamp≤s))=vs.take k:=List.filter_eq_self.2 fun v hv=>by
  obtain ⟨i,hi,rfl⟩:=List.mem_iff_getElem.1 hv
  rw [List.length_take] at hi
  have:=h.lo i (by omega)
  rw [List.getD_eq_getElem?_getD,List.getElem?_eq_getElem (by omega)] at this
  rw [List.getElem_take]
  exact decide_eq_true this
 have h2:(vs.drop k).filter (fun v=>decide (v.stamp≤s))=[]:=List.filter_eq_nil_iff.2 fun v hv=>by
  obtain ⟨i,hi,rfl⟩:=List.mem_iff_getElem.1 hv
  rw [List.length_drop] at hi
  have:=h.hi (k+i) (by omega) (by omega)
  rw [List.getD_eq_getElem?_getD,List.getElem?_eq_getElem (by omega)] at this
  rw [List.getElem_drop]
  simp only [Option.getD_some] at this
  simp;omega
 conv=>lhs;rw [e,List.filter_append,h1,h2,List.append_nil]
theorem SeeN.pick {vs:List VerP} {s:Int} {k:Nat} (h:SeeN vs s (k+1)):pickG s vs=if (vs.getD k default).dead then none else some (vs.getD k default):=by
 have hk:=h.le
 unfold pickG
 rw [h.take,List.take_succ_eq_append_getElem (by omega),List.getLast?_append,List.getD_eq_getElem?_getD,List.getElem?_eq_getElem (by omega)]
 simp
theorem SeeN.pick0 {vs:List VerP} {s:Int} (h:SeeN vs s 0):pickG s vs=none:=by
 unfold pickG
 rw [h.take];rfl
end
section
open Go.RowKit Go.Maps
attribute [local go_sem] Oper.semAt_some
structure GrV where
 a:Option Addr
 c:Nat
 l:List VerP
def GrV.rd (x:GrV):RdD:=⟨x.a,x.l.length,x.c,4,recC VerP.enc x.l⟩
def rowG (g:List VerP):Int:=(g.getD 0 default).row
structure GrsOk (gs:List (List VerP)):Prop where
 ne:∀g∈gs,g≠[]
 same:∀g∈gs,∀v∈g,v.row=rowG g
 diff:∀k,k+1<gs.length→rowG (gs.getD (k+1) [])≠rowG (gs.getD k [])
theorem Own.immCut {B:Nat} {w:World} {l:List HP} (O:Own B w l) (i:Nat) {G:List RdD} (hi:l[i]?=some (ImmO G)) {r s:RdD} (hr:r∈G) (hs:s.at w) (hb:∀ad,s.a=some ad→s.xs≠[]→r.xs≠[]∧∃ad0,r.a=some ad0∧ad.block=ad0.block):Own B w (l.set i (ImmO (s::G))):=by
 obtain ⟨F,⟨h1,h2⟩,h3,h4⟩:=O.turn i hi
 refine (h4 (ImmO (s::G)) w F (ImmO.stb _) (But.refl _ _) ⟨fun q hq=>?_,h2⟩ (fun x hx=>.inl hx)).1
 rcases List.mem_cons.1 hq with rfl | hq
 ·refine ⟨hs,fun ad ha hx=>?_⟩
  obtain ⟨k1,ad0,k2,k3⟩:=hb ad ha hx
  rw [k3]
  exact (h1 r hr).2 ad0 k2 k1
 ·exact h1 q hq
theorem Own.rowImm {B:Nat} {w:World} {m l:List HP} {e:TypeId} {size:Nat} {a:Option Addr} {n cap:Nat} {xs:List Value} (O:Own B w (m++RowP e size a n cap xs::l)):Own B w (m++ImmO [⟨a,n,cap,size,xs⟩]::l):=by
 have h1:=O.perm (List.perm_middle (l₁:=m))
 have h2:=(h1.immStart).perm (List.perm_append_comm (l₂:=[ImmO []]))
 have h3:=Own.immTake h2
 exact h3.perm (List.perm_middle (l₁:=m)).symm
set_option maxRecDepth 20000 in
theorem mk_rows (a:Option Addr) (n c:Nat) (w:World):Calls Tryz.prog 94 #[.slice a n c] w fun e w'=>e=.returned (.func (.func 144) #[] #[.pointer (some ⟨w.heap.size,0,none⟩)])∧w'=w.alloc (.cells #[.slice a n c] 32):=by
 go_enter Tryz.func94,Tryz.ntmps94
 go_wp2_with fail
 go_ret
 exact ⟨rfl,rfl⟩
theorem en_rows (args:Array Value) (w:World):(callFunc 144 args).run Tryz.prog w=.ok (.enter 144 args) w:=enters_fn Tryz.func144 (by kernel_rfl) (by kernel_rfl) args w
theorem Rd.recCell {α:Type} [Inhabited α] {enc:α→List Value} {k:Nat} {w:World} {b off n cap:Nat} {l:List α} (h:Rd w (some ⟨b,off,none⟩) n cap k (recC enc l)) (hk:∀x,(enc x).length=k) (hk0:0<k) (i:Nat) (hi:i<n):∀j u,(enc (l.getD i default))[j]?=some u→w.cell? ⟨b,off+i * k+j,none⟩=some u:=by
 obtain ⟨g,off',ha,_,hc⟩:=h.recAt hk hk0 i hi
 cases ha
 exact hc
theorem addN (b o j:Nat):(⟨b,o,none⟩:Addr).add j=⟨b,o+j,none⟩:=by
 simp only [Addr.add]
 split<;>simp_all
theorem Own.immCutM {B:Nat} {w:World} {m l:List HP} {G:List RdD} (O:Own B w (m++ImmO G::l)) {r s:RdD} (hr:r∈G) (hs:s.at w) (hb:∀ad,s.a=some ad→s.xs≠[]→r.xs≠[]∧∃ad0,r.a=some ad0∧ad.block=ad0.block):Own B w (m++ImmO (s::G)::l):=by
 have:=O.immCut m.length (by simp) hr hs hb
 simpa using this
def leftG (gs:List (List VerP)) (k:Nat):List VerP:=(gs.drop k).flatten
theorem leftG_step {gs:List (List VerP)} {k:Nat} (hk:k<gs.length):leftG gs k=gs.getD k []++leftG gs (k+1):=by
 unfold leftG
 rw [List.drop_eq_getElem_cons hk,List.flatten_cons,List.getD_eq_getElem?_getD,List.getElem?_eq_getElem hk];rfl
theorem leftG_end {gs:List (List VerP)} {k:Nat} (hk:gs.length≤k):leftG gs k=[]:=by
 unfold leftG
 rw [List.drop_eq_nil_of_le hk];rfl
theorem GrsOk.inner {gs:List (List VerP)} (ok:GrsOk gs) {k m:Nat} (hk:k<gs.length) (hm:m≤(gs.getD k []).length) (hm1:1≤m) (hl:m<(leftG gs k).length):((leftG gs k).getD m default).row=((leftG gs k).getD 0 default).row↔m<(gs.getD k []).length:=by
 have hg:gs.getD k []∈gs:=by rw [List.getD_eq_getElem?_getD,List.getElem?_eq_getElem hk];exact List.getElem_mem hk
 have h0:0<(gs.getD k []).length:=by omega
 have e0:(leftG gs k).getD 0 default=(gs.getD k []).getD 0 default:=by
  rw [leftG_step hk,List.getD_eq_getElem?_getD,List.getElem?_append_left h0,← List.getD_eq_getElem?_getD]
 rw [e0]
 constructor
 ·intro h
  apply Nat.lt_of_le_of_ne hm
  intro e
  have hl2:0<(leftG gs (k+1)).length:=by
   rw [leftG_step hk,List.length_append] at hl;omega
  have hk2:k+1<gs.length:=by
   apply Nat.lt_of_not_le
   intro h2
   rw [leftG_end h2] at hl2;simp at hl2
  have hg2:gs.getD (k+1) []∈gs:=by rw [List.getD_eq_getElem?_getD,List.getElem?_eq_getElem hk2];exact List.getElem_mem hk2
  have h3:0<(gs.getD (k+1) []).length:=List.length_pos_iff.2 (ok.ne _ hg2)
  have e1:(leftG gs k).getD m default=(gs.getD (k+1) []).getD 0 default:=by
   rw [leftG_step hk,List.getD_eq_getElem?_getD,List.getElem?_append_right (by omega),e,Nat.sub_self,leftG_step hk2,List.getElem?_append_left h3,← List.getD_eq_getElem?_getD]
  rw [e1] at h
  exact ok.diff k hk2 h
 ·intro h
  have e1:(leftG gs k).getD m default=(gs.getD k []).getD m default:=by
   rw [leftG_step hk,List.getD_eq_getElem?_getD,List.getElem?_append_left h,← List.getD_eq_getElem?_getD]
  rw [e1]
  exact ok.same _ hg _ (getD_mem h)
set_option maxRecDepth 100000 in
set_option maxHeartbeats 2000000 in
theorem it_rows {w w0:World} {g B:Nat} {a:Option Addr} {n c:Nat} {vs:List VerP} {gs:List (List VerP)} (hr:Rd w0 a n c 4 (recC VerP.enc vs)) (hw0:w0.heap.size≤B) (hn:n≤1000000) (ok:GrsOk gs) (hu:∀ys:List VerP,ys.Perm vs→ys.Pairwise (Le2 VerP.row VerP.stamp)→ys=gs.flatten) (hb:Below B w0 w) :
  IterO 144 #[.pointer (some ⟨g,0,none⟩)] (fun x:GrV=>#[.slice x.a x.l.length x.c]) (fun x=>[x.rd]) (fun x=>x.l∈gs) (fun xs=>xs.map GrV.l=gs) gs.length B [BlkP g 32 [.slice a n c]] w:=by
 intro l Mine W hW O hY
 have hcW:=(O.blk (Mine []).length (g:=g) (ty:=32) (cs:=[.slice a n c]) (by simp)).1.cellOf (i:=0) rfl
 have HO:=Box.mk (ordered_any (hr.below (hb.trans hW) hw0) hn)
 have HB:=Box.mk (Below.refl B W)
 have OW:=Box.mk O
 have HU:=Box.mk hu
 have OK:=Box.mk ok
 clear hr hb hW O hu ok
 refine callsIn_of_wp Tryz.func144 rfl trivial ?_ rfl
 simp only [Tryz.ntmps144,List.size_toArray,List.length_cons,List.length_nil,Nat.reduceAdd,Nat.reduceSub,Array.replicate_succ,Array.replicate_zero,List.push_toArray,List.append_toArray,List.nil_append,List.cons_append]
 gi_wp2
 refine ⟨trivial,(callsIn_wide.2 HO.out).mono ?_⟩
 rintro e w1 ⟨hb1,ys,a1,c1,⟨hs1,hp1⟩,rfl,hrow⟩
 obtain rfl:=HU.out ys hp1 hs1
 have O1:=OW.out.newRow hb1 hrow (Nat.le_refl _)
 have O2:Own B w1 (Mine []++ImmO [⟨a1,gs.flatten.length,c1,4,recC VerP.enc gs.flatten⟩]::[BlkP g 32 [.slice a n c]]):=by
  have h1:=Own.rowImm (m:=Mine []++[BlkP g 32 [.slice a n c]]) (l:=[]) O1
  refine h1.perm ?_
  rw [List.append_assoc]
  exact (List.perm_append_comm (l₁:=[BlkP g 32 [.slice a n c]]) (l₂:=[ImmO [⟨a1,gs.flatten.length,c1,4,recC VerP.enc gs.flatten⟩]])).append_left _
 have H1:=Box.mk (And.intro O2 (HB.out.trans (hb1.mono OW.out.1)))
 clear O1 O2 hb1 hs1 hp1 hrow HU HO HB hcW OW
 obtain ⟨L0,hL0⟩:∃L0,gs.flatten.length=L0:=⟨_,rfl⟩
 have HL0:=Box.mk hL0
 rw [hL0] at H1 ⊢
 clear hL0
 gi_wp2
 gi_loopg [3] gs.length (fun gg s3 wr=>∃ (k:Nat) (a3:Option Addr) (c3 L:Nat),k≤gs.length∧gs.length - k≤gg∧L=(leftG gs k).length∧s3=.slice a3 L c3∧Box (∃ (G:List RdD) (xs:List GrV),xs.map GrV.l=gs.take k∧Own B wr (Mine xs++ImmO G::[BlkP g 32 [.slice a n c]])∧(⟨a3,L,c3,4,recC VerP.enc (leftG gs k)⟩:RdD)∈G∧Below B W wr))
 case atStart=>exact ⟨0,a1,c1,L0,Nat.zero_le _,by omega,by rw [← HL0.out];rfl,rfl,⟨_,[],rfl,H1.out.1,by simp [leftG],H1.out.2⟩⟩
 clear H1
 case round =>
  obtain ⟨k,a3,c3,L,hk,hg,hL,rfl,HI⟩:=hrel
  by_cases hlt:k<gs.length
  ·obtain ⟨G,xs,hxs,hO,hG,hBW⟩:=HI.out
   have hrd:=hO.imm (Mine xs).length (by simp) hG
   simp only at hrd
   have hgm:gs.getD k []∈gs:=by rw [List.getD_eq_getElem?_getD,List.getElem?_eq_getElem hlt];exact List.getElem_mem hlt
   have hgl:0<(gs.getD k []).length:=List.length_pos_iff.2 (OK.out.ne _ hgm)
   have hle:(gs.getD k []).length≤L:=by rw [hL,leftG_step hlt,List.length_append];omega
   have hLm:=hrd.lenMax
   obtain ⟨gl,hgle⟩:∃gl,(gs.getD k []).length=gl:=⟨_,rfl⟩
   have HGL:=Box.mk hgle
   have HLE:=Box.mk hL
   rw [hgle] at hgl hle
   have HK:=Box.mk (And.intro hxs (And.intro hO (And.intro hG (And.intro hBW hrd))))
   clear hxs hO hG hBW hrd HI hgm hgle hL
   gi_wp2
   gi_loopg [4] gl (fun gg s4 wq=>∃m:Nat,1≤m∧m≤gl∧gl - m≤gg∧s4=.int .i64 m∧Box (∃q,wq=wr.drewN q))
   case atStart=>exact ⟨1,by omega,by omega,by omega,rfl,⟨0,rfl⟩⟩
   case round =>
    obtain ⟨m,hm1,hm2,hmg,rfl,HQ⟩:=hrel
    obtain ⟨q,rfl⟩:=HQ.out
    clear HQ
    obtain ⟨b,off,rfl,hbl,hc0⟩:=HK.out.2.2.2.2.recAt VerP.enc_len (by omega) 0 (by omega)
    by_cases hml:m<L
    ·have hcl:=HK.out.2.2.2.2.recCell VerP.enc_len (by omega) m hml
     have c0:=hcl 0 _ rfl
     have d0:=hc0 0 _ rfl
     have hinn:=OK.out.inner hlt (m:=m) (by rw [HGL.out];exact hm2) hm1 (by rw [← HLE.out];exact hml)
     rw [HGL.out] at hinn
     simp only [Nat.add_zero,Nat.zero_mul] at c0 d0
     generalize ((leftG gs k).getD m default).row=x at *
     generalize ((leftG gs k).getD 0 default).row=y at *
     have g1:decide ((m:Int)<(L:Int))=true:=decide_eq_true (by omega)
     clear hcl hc0
     by_cases hin:m<gl
     ·have e1:=hinn.2 hin
      have t1:(x==y)=true:=by simp [e1]
      clear hinn e1
      gi_wp2
      gi_quiet (fail)
      gi_wp2
      gi_roundg (gl - (m+1))
      case measure=>omega
      case rel=>exact ⟨m+1,by omega,by omega,by omega,by go_num,⟨_,rfl⟩⟩
     ·have e1:¬ x=y:=fun h=>hin (hinn.1 h)
      have t1:(x==y)=false:=by simp [e1]
      clear hinn e1
      obtain rfl:m=gl:=by omega
      have hmc:m≤c3:=Nat.le_trans hle HK.out.2.2.2.2.hcap
      gi_wp2
      gi_quiet (fail)
      clear c0 d0 g1 t1
      have s1:Rd wr (some ⟨b,off,none⟩) m c3 4 (recC VerP.enc (gs.getD k [])):=by
       have h1:=HK.out.2.2.2.2.preK VerP.enc_len m hle
       rw [leftG_step hlt,List.take_append_of_le_length (by rw [HGL.out];exact Nat.le_refl _),List.take_of_length_le (by rw [HGL.out];exact Nat.le_refl _)] at h1
       exact h1
      have s2:=HK.out.2.2.2.2.sub m L c3 hle (Nat.le_refl _) HK.out.2.2.2.2.hcap (Nat.le_refl _)
      have e2:((recC VerP.enc (leftG gs k)).drop (m * 4)).take ((L - m) * 4)=recC VerP.enc (leftG gs (k+1)):=by
       rw [recC_drop VerP.enc_len,leftG_step hlt,show m=(gs.getD k []).length from HGL.out.symm,List.drop_left,List.take_of_length_le]
       rw [recC_length VerP.enc_len]
       have h5:=HLE.out
       rw [leftG_step hlt,List.length_append] at h5
       omega
      rw [e2] at s2
      obtain ⟨a4,ha4⟩:∃a4,(if c3=m then some (⟨b,off,none⟩:Addr) else some ⟨b,off+m * 4,none⟩)=a4:=⟨_,rfl⟩
      have e4:(if c3=m then some (⟨b,off,none⟩:Addr) else (some (⟨b,off,none⟩:Addr)).map (·.add (m * 4)))=a4:=by rw [← ha4];split;{ rfl };{ show some ((⟨b,off,none⟩:Addr).add (m * 4))=_;rw [addN] }
      rw [e4] at s2
      have hb4:∀ad,a4=some ad→ad.block=b:=fun ad h=>by
       rw [← ha4] at h
       split at h<;>(cases h;rfl)
      have hne:recC VerP.enc (leftG gs k)≠[]:=by
       intro e
       have:=congrArg List.length e
       rw [recC_length VerP.enc_len,← HLE.out] at this
       simp at this;omega
      have O5:=Own.immCutM (HK.out.2.1.drewN (q+nq)) (s:=⟨some ⟨b,off,none⟩,m,c3,4,recC VerP.enc (gs.getD k [])⟩) HK.out.2.2.1 (s1.below (below_drewN (Below.refl _ _) _) (Nat.le_refl _)) (fun ad ha _=>⟨hne,_,rfl,by cases ha;rfl⟩)
      have O6:=Own.immCutM O5 (r:=⟨some ⟨b,off,none⟩,L,c3,4,recC VerP.enc (leftG gs k)⟩) (s:=⟨a4,L - m,c3 - m,4,recC VerP.enc (leftG gs (k+1))⟩) (List.mem_cons_of_mem _ HK.out.2.2.1) (s2.below (below_drewN (Below.refl _ _) _) (Nat.le_refl _)) (fun ad ha _=>⟨hne,_,rfl,hb4 ad ha⟩)
      obtain ⟨fn,tmps,assign,body,hy,hR⟩:=hY xs ⟨some ⟨b,off,none⟩,c3,gs.getD k []⟩ _ _ (wr.drewN (q+nq)) O6 (by intro r hr;simp only [List.mem_singleton] at hr;subst hr;unfold GrV.rd;rw [HGL.out];simp) (by rw [List.getD_eq_getElem?_getD,List.getElem?_eq_getElem hlt];exact List.getElem_mem hlt) (by have:=congrArg List.length HK.out.1;rw [List.length_map,List.length_take] at this;omega)
      simp only [HGL.out] at hy
      have HN:=Box.mk (And.intro HK.out.2.2.2.1 (show (xs++[(⟨some ⟨b,off,none⟩,c3,gs.getD k []⟩:GrV)]).map GrV.l=gs.take (k+1) from by rw [List.map_append,HK.out.1,List.take_succ_eq_append_getElem hlt,List.getD_eq_getElem?_getD,List.getElem?_eq_getElem hlt];rfl))
      have HL2:=Box.mk (show L - m=(leftG gs (k+1)).length from by
       have h5:=HLE.out
       rw [leftG_step hlt,List.length_append,HGL.out] at h5
       omega)
      clear O5 O6 s1 s2 e2 e4 hb4 hne HK HLE OK
      gi_wp2
      refine hR.mono ?_
      rintro e W3 (⟨rfl,hO7,hB7⟩)
      gi_wp2
      gi_roundg (gs.length - (k+1))
      case measure=>omega
      case rel=>exact ⟨k+1,a4,c3 - m,L - m,by omega,by omega,HL2.out,rfl,⟨_,_,HN.out.2,hO7,List.mem_cons_self,HN.out.1.trans ((below_drewN (Below.refl B wr) _).trans hB7)⟩⟩
    ·obtain rfl:m=gl:=by omega
     have hmc:m≤c3:=Nat.le_trans hle HK.out.2.2.2.2.hcap
     have g1:decide ((m:Int)<(L:Int))=false:=decide_eq_false (by omega)
     clear hc0
     gi_wp2
     gi_quiet (fail)
     clear g1
     have s1:Rd wr (some ⟨b,off,none⟩) m c3 4 (recC VerP.enc (gs.getD k [])):=by
      have h1:=HK.out.2.2.2.2.preK VerP.enc_len m hle
      rw [leftG_step hlt,List.take_append_of_le_length (by rw [HGL.out];exact Nat.le_refl _),List.take_of_length_le (by rw [HGL.out];exact Nat.le_refl _)] at h1
      exact h1
     have s2:=HK.out.2.2.2.2.sub m L c3 hle (Nat.le_refl _) HK.out.2.2.2.2.hcap (Nat.le_refl _)
     have e2:((recC VerP.enc (leftG gs k)).drop (m * 4)).take ((L - m) * 4)=recC VerP.enc (leftG gs (k+1)):=by
      rw [recC_drop VerP.enc_len,leftG_step hlt,show m=(gs.getD k []).length from HGL.out.symm,List.drop_left,List.take_of_length_le]
      rw [recC_length VerP.enc_len]
      have h5:=HLE.out
      rw [leftG_step hlt,List.length_append] at h5
      omega
     rw [e2] at s2
     obtain ⟨a4,ha4⟩:∃a4,(if c3=m then some (⟨b,off,none⟩:Addr) else some ⟨b,off+m * 4,none⟩)=a4:=⟨_,rfl⟩
     have e4:(if c3=m then some (⟨b,off,none⟩:Addr) else (some (⟨b,off,none⟩:Addr)).map (·.add (m * 4)))=a4:=by rw [← ha4];split;{ rfl };{ show some ((⟨b,off,none⟩:Addr).add (m * 4))=_;rw [addN] }
     rw [e4] at s2
     have hb4:∀ad,a4=some ad→ad.block=b:=fun ad h=>by
      rw [← ha4] at h
      split at h<;>(cases h;rfl)
     have hne:recC VerP.enc (leftG gs k)≠[]:=by
      intro e
      have:=congrArg List.length e
      rw [recC_length VerP.enc_len,← HLE.out] at this
      simp at this;omega
     have O5:=Own.immCutM (HK.out.2.1.drewN (q+nq)) (s:=⟨some ⟨b,off,none⟩,m,c3,4,recC VerP.enc (gs.getD k [])⟩) HK.out.2.2.1 (s1.below (below_drewN (Below.refl _ _) _) (Nat.le_refl _)) (fun ad ha _=>⟨hne,_,rfl,by cases ha;rfl⟩)
     have O6:=Own.immCutM O5 (r:=⟨some ⟨b,off,none⟩,L,c3,4,recC VerP.enc (leftG gs k)⟩) (s:=⟨a4,L - m,c3 - m,4,recC VerP.enc (leftG gs (k+1))⟩) (List.mem_cons_of_mem _ HK.out.2.2.1) (s2.below (below_drewN (Below.refl _ _) _) (Nat.le_refl _)) (fun ad ha _=>⟨hne,_,rfl,hb4 ad ha⟩)
     obtain ⟨fn,tmps,assign,body,hy,hR⟩:=hY xs ⟨some ⟨b,off,none⟩,c3,gs.getD k []⟩ _ _ (wr.drewN (q+nq)) O6 (by intro r hr;simp only [List.mem_singleton] at hr;subst hr;unfold GrV.rd;rw [HGL.out];simp) (by rw [List.getD_eq_getElem?_getD,List.getElem?_eq_getElem hlt];exact List.getElem_mem hlt) (by have:=congrArg List.length HK.out.1;rw [List.length_map,List.length_take] at this;omega)
     simp only [HGL.out] at hy
     have HN:=Box.mk (And.intro HK.out.2.2.2.1 (show (xs++[(⟨some ⟨b,off,none⟩,c3,gs.getD k []⟩:GrV)]).map GrV.l=gs.take (k+1) from by rw [List.map_append,HK.out.1,List.take_succ_eq_append_getElem hlt,List.getD_eq_getElem?_getD,List.getElem?_eq_getElem hlt];rfl))
     have HL2:=Box.mk (show L - m=(leftG gs (k+1)).length from by
      have h5:=HLE.out
      rw [leftG_step hlt,List.length_append,HGL.out] at h5
      omega)
     clear O5 O6 s1 s2 e2 e4 hb4 hne HK HLE OK
     gi_wp2
     refine hR.mono ?_
     rintro e W3 (⟨rfl,hO7,hB7⟩)
     gi_wp2
     gi_roundg (gs.length - (k+1))
     case measure=>omega
     case rel=>exact ⟨k+1,a4,c3 - m,L - m,by omega,by omega,HL2.out,rfl,⟨_,_,HN.out.2,hO7,List.mem_cons_self,HN.out.1.trans ((below_drewN (Below.refl B wr) _).trans hB7)⟩⟩
  ·obtain rfl:L=0:=by rw [hL,leftG_end (by omega)];rfl
   obtain ⟨G,xs,hxs,hO,hG,hBW⟩:=HI.out
   have hgk:gs.take k=gs:=List.take_of_length_le (by omega)
   have HF:=Box.mk (And.intro (hxs.trans hgk) (And.intro hO hBW))
   clear hxs hO hG hBW hgk HI OK
   gi_wp2
   go_end0
   exact ⟨⟨_,rfl⟩,HF.out.2.2,xs,HF.out.1,_,HF.out.2.1⟩
end
end Go.Proofs.YtlfghapllmaigaaGreatDoor
