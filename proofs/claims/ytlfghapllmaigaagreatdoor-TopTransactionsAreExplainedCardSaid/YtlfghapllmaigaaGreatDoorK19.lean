/-
  The walk of Write's closure; Write where there is no such transaction. Conditions: each theorem's own hypotheses.
-/
import Derived.Test.YtlfghapllmaigaaGreatDoorK18
set_option linter.unusedVariables false
set_option linter.unusedSimpArgs false
namespace Go.Proofs.YtlfghapllmaigaaGreatDoor
section
open Go.RowKit Go.Maps
theorem writeF_enters (args:Array Value) (w:World):(callFunc 101 args).run Tryz.prog w=.ok (.enter 101 args) w:=enters_fn Tryz.func101 (by kernel_rfl) (by kernel_rfl) args w
set_option maxRecDepth 20000 in
set_option maxHeartbeats 1000000 in
theorem writeF_any {w:World} {y:WrP} {g:Nat} (hg:Blk w g 90 y.enc) (x:WrP) :
  Calls Tryz.prog 101 #[x.v,.pointer (some ⟨g,0,none⟩)] w (RetV (.bool (decide (x.key=y.key))) w):=by
 obtain ⟨xt,xr,xd,xa,xc,xl⟩:=x
 obtain ⟨yt,yr,yd,ya,yc,yl⟩:=y
 have H1:=Box.mk ((Below.refl w.heap.size w).alloc (Nat.le_refl _) (.cells #[.int .i64 xt,.int .i64 xr,.bool xd,.slice xa xl.length xc] 90))
 have hK:=(Blk.new (w:=w) (k:=w.heap.size) (ty:=90) (arr:=#[.int .i64 xt,.int .i64 xr,.bool xd,.slice xa xl.length xc]) (cs:=[.int .i64 xt,.int .i64 xr,.bool xd,.slice xa xl.length xc]) rfl rfl)
 have hg1:=hg.below H1.out (Nat.le_refl _)
 have y0:=hg1.cellOf (i:=0) rfl
 have y1:=hg1.cellOf (i:=1) rfl
 have k0:=hK.cellOf (i:=0) rfl
 have k1:=hK.cellOf (i:=1) rfl
 unfold WrP.v
 simp only [WrP.key]
 clear hg hg1 hK
 by_cases h1:xt=yt
 ·by_cases h2:xr=yr
  ·subst h1;subst h2
   go_enter Tryz.func101,Tryz.ntmps101
   go_wp2_with fail
   go_ret
   exact ⟨by simp,H1.out⟩
  ·subst h1
   go_enter Tryz.func101,Tryz.ntmps101
   go_wp2_with fail
   go_ret
   exact ⟨by simp [h2],H1.out⟩
 ·go_enter Tryz.func101,Tryz.ntmps101
  go_wp2_with fail
  go_ret
  exact ⟨by simp [h1],H1.out⟩
end
end Go.Proofs.YtlfghapllmaigaaGreatDoor
