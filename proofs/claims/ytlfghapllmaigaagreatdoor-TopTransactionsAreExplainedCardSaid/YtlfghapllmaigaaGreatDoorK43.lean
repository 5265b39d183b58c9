/-
  What the row's list gives: the table of powers lies in memory; what a script is to the walk. Conditions: each theorem's own hypotheses.
-/
import Derived.Test.YtlfghapllmaigaaGreatDoorK42
import Derived.Test.YtlfghapllmaigaaGreatDoorK33
import Derived.Test.YtlfghapllmaigaaGreatDoorCards
import Derived.Test.YtlfghapllmaigaaGreatDoorTie
import Derived.Deep.DeepHandedRow
import Derived.Lib.LaidTab
set_option linter.unusedVariables false
set_option linter.unusedSimpArgs false
namespace Go.Proofs.YtlfghapllmaigaaGreatDoor
section
open Go.RowKit
theorem tab_cons {P:Program} {W:World} {name:String} {k:IntKind} {zs:List Int} {rest:List (String×DataW Unit)} {ps:List MemPlace} {g:Nat} {t e:TypeId} {n:Nat}
  (hg:P.globalNamed name=some g) (hty:(P.globals[g]?).map (·.type)=some t) (ht:P.underlying t=some (.array n e)) (he:P.underlying e=some (.int k)) (hce:P.cellsOf e=1) (hct:P.cellsOf t=n)
  (h:DataW.LaidVars P W ((name,Lib.tabData k zs)::rest) ps):Lib.TabIs P W name k zs∧∃q,DataW.LaidVars P W rest q:=by
 obtain ⟨g',t',cs,fuel,p,q,hg',ht',hvar,hd,hr,_⟩:=h
 obtain rfl:=Option.some.inj (hg.symm.trans hg')
 obtain rfl:=Option.some.inj (hty.symm.trans ht')
 refine ⟨?_,q,hr⟩
 unfold Lib.TabIs
 rw [hvar,← Lib.cells_of_tab ht he hce hct hd]
def tab32:List Int:=[0,1,28,2,29,14,24,3,30,22,20,15,25,17,4,8,31,27,13,23,21,19,16,7,26,12,18,6,11,5,10,9]
def tab64:List Int:=[0,1,56,2,57,49,28,3,61,58,42,50,38,29,17,4,62,47,59,36,45,43,51,22,53,39,33,30,24,18,12,5,63,55,48,27,60,41,37,16,46,35,44,21,52,32,23,11,54,26,40,15,34,20,31,10,25,14,19,9,13,8,7,6]
abbrev laidL {H:Type}:List (String×DataW H) := [("math/bits.deBruijn32tab", Rows.laid_math_bits_deBruijn32tab), ("math/bits.deBruijn64tab", Rows.laid_math_bits_deBruijn64tab), ("internal/strconv.uint64pow10", Rows.laid_internal_strconv_uint64pow10)]
theorem lay32:(Rows.laid_math_bits_deBruijn32tab:DataW Unit)=Lib.tabData .u8 tab32:=by kernel_rfl
theorem lay64:(Rows.laid_math_bits_deBruijn64tab:DataW Unit)=Lib.tabData .u8 tab64:=by kernel_rfl
theorem lay10:(Rows.laid_internal_strconv_uint64pow10:DataW Unit)=Lib.tabData .u64 Lib.pow10Tab:=by kernel_rfl
theorem mem_of {W:World} {ps:List MemPlace} (h:DataW.LaidVars Tryz.prog W laidL ps):PowOk W.heap.size W:=by
 unfold laidL at h
 rw [lay32,lay64,lay10] at h
 obtain ⟨_,q,hq⟩:=tab_cons (g:=1) (t:=313) (e:=5) (n:=32) (by kernel_rfl) (by kernel_rfl) (by kernel_rfl) (by kernel_rfl) (by kernel_rfl) (by kernel_rfl) h
 obtain ⟨_,q2,hq2⟩:=tab_cons (g:=2) (t:=314) (e:=5) (n:=64) (by kernel_rfl) (by kernel_rfl) (by kernel_rfl) (by kernel_rfl) (by kernel_rfl) (by kernel_rfl) hq
 obtain ⟨hp,_,_⟩:=tab_cons (g:=3) (t:=317) (e:=267) (n:=20) (by kernel_rfl) (by kernel_rfl) (by kernel_rfl) (by kernel_rfl) (by kernel_rfl) (by kernel_rfl) hq2
 exact Lib.tabBelow_of_tabIs hp
theorem mem_laid {W:World} (h:laidMetH Tryz.prog laidL W):PowOk W.heap.size W:=by
 have h1:laidMet Tryz.prog laidL W:=h
 obtain ⟨ps,hv,_⟩:=h1
 exact mem_of hv
noncomputable def refill (cs:Array Value):Obj→Obj
 | .cells _ t frozen=>.cells cs t frozen
 | o=>o
noncomputable def laidWorld (os:Os):World :=
 { World.holding Tryz.prog os ⟨#[],#[],[]⟩ with heap:=(((World.holding Tryz.prog os ⟨#[],#[],[]⟩).heap.modify 1 (refill (tab32.map (Value.int .u8)).toArray)).modify 2 (refill (tab64.map (Value.int .u8)).toArray)).modify 3 (refill (Lib.pow10Tab.map (Value.int .u64)).toArray) }
theorem laid_met (os:Os) (args:Array Value):laidMet Tryz.prog laidL ((laidWorld os).forCall (fun _ _=>0) ⟨#[],args,[]⟩).memory :=
 laidMet_of_run' 100 (by kernel_rfl) (by kernel_rfl)
theorem list5 {α:Type} {l:List α} (h:l.length=5):∃a b c d e,l=[a,b,c,d,e]:=by
 match l,h with
 | [a,b,c,d,e],_=>exact ⟨a,b,c,d,e,rfl⟩
def mvDat {H:Type} (x:Mv):DataW H:=.agg [.lit (.int .i64 x.k),.lit (.int .i64 x.n),.lit (.int .i64 x.t),.lit (.int .i64 x.r),.lit (.int .i64 x.v)]
theorem in64_wf {x:Int} (h:(Lit.int .i64 x).wf=true):In64 x:=wf_i64_bd h
theorem elem_mv {H:Type} {enc:TypeId×Value→H} {w:World} {cs:List Value} {d:DataW H} (h:Elem enc Tryz.prog w 38 cs d):∃x:Mv,cs=x.enc∧d=mvDat x∧x.ok:=by
 obtain ⟨hl,els,hn,rfl,hf⟩:=elem_struct Tryz.underlying38 h
 rw [show Tryz.prog.cellsOf 38=5 from by kernel_rfl] at hl
 obtain ⟨c0,c1,c2,c3,c4,rfl⟩:=list5 hl
 obtain ⟨e0,e1,e2,e3,e4,rfl⟩:=list5 (l:=els) hn
 have k3:Tryz.prog.cellsOf 3=1:=by kernel_rfl
 obtain ⟨_,h0⟩:=hf 0 _ rfl
 obtain ⟨_,h1⟩:=hf 1 _ rfl
 obtain ⟨_,h2⟩:=hf 2 _ rfl
 obtain ⟨_,h3⟩:=hf 3 _ rfl
 obtain ⟨_,h4⟩:=hf 4 _ rfl
 obtain ⟨x0,y0,z0,w0⟩:=elem_int Tryz.underlying3 h0
 obtain ⟨x1,y1,z1,w1⟩:=elem_int Tryz.underlying3 h1
 obtain ⟨x2,y2,z2,w2⟩:=elem_int Tryz.underlying3 h2
 obtain ⟨x3,y3,z3,w3⟩:=elem_int Tryz.underlying3 h3
 obtain ⟨x4,y4,z4,w4⟩:=elem_int Tryz.underlying3 h4
 simp [k3] at y0 y1 y2 y3 y4 z0 z1 z2 z3 z4
 subst y0 y1 y2 y3 y4 z0 z1 z2 z3 z4
 exact ⟨⟨x0,x1,x2,x3,x4⟩,rfl,rfl,in64_wf w0,in64_wf w1,in64_wf w2,in64_wf w3,in64_wf w4⟩
end
end Go.Proofs.YtlfghapllmaigaaGreatDoor
