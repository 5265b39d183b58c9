/-
  The layings of slices.SortFunc at this program's three record types, written by the kit's plain mode (lay-plain) out of three laying commands; The laying of slices.Sort at integers at this program, written by the kit's plain mode (lay-plain) out of one laying command; Sorting own rows of records: what the library's sort leaves, as an own row; there is one sorted permutation; slices.Sort and slices.Sorted at integers. Conditions: each theorem's own hypotheses.
-/
import Derived.Shelf.SlSortCmp.WholeK
import Derived.Shelf.SlGeneric
import Derived.Ground.SlsfProg
import Derived.Test.YtlfghapllmaigaaGreatDoorProg
import Derived.Shelf.Sort.Plain
import Derived.Shelf.Slices.In.SortNone
import Derived.Ground.NamesProg
import Derived.Test.YtlfghapllmaigaaGreatDoorK11
import Derived.Test.YtlfghapllmaigaaGreatDoorK09
namespace Go.Proofs
open Go.Shelf
def Tryz.sortHd_ren:Go.Shelf.Ren:=⟨fun | 6=>132 | 15=>156 | 14=>161 | 28=>180 | 29=>181 | 20=>185 | 21=>186 | 22=>187 | 23=>188 | 24=>189 | 25=>190 | 26=>191 | 27=>192 | 46=>215 | 47=>209 | 48=>210 | 49=>216 | 50=>217 | 57=>234 | n=>n,fun | 22=>52 | 24=>136 | 25=>139 | 3=>3 | 39=>186 | 0=>0 | 53=>265 | 55=>267 | 4=>4 | 46=>276 | 45=>275 | 50=>150 | 5=>5 | 9=>9 | 66=>303 | 70=>307 | 76=>321 | 77=>234 | n=>n,fun | n=>n⟩
theorem Tryz.sortHd:Go.Proofs.SlLaysF0.n6 Tryz.prog Tryz.sortHd_ren:={
 mixed:=by kernel_rfl
 f6:=⟨Tryz.f132.name,by decide,Tryz.func132.trans (congrArg some (by kernel_rfl))⟩
 f14:=⟨Tryz.f161.name,by decide,Tryz.func161.trans (congrArg some (by kernel_rfl))⟩
 f15:=Tryz.func156.trans (congrArg some (by kernel_rfl))
 f20:=⟨Tryz.f185.name,by decide,Tryz.func185.trans (congrArg some (by kernel_rfl))⟩
 f21:=⟨Tryz.f186.name,by decide,Tryz.func186.trans (congrArg some (by kernel_rfl))⟩
 f22:=⟨Tryz.f187.name,by decide,Tryz.func187.trans (congrArg some (by kernel_rfl))⟩
 f23:=⟨Tryz.f188.name,by decide,Tryz.func188.trans (congrArg some (by kernel_rfl))⟩
 f24:=⟨Tryz.f189.name,by decide,Tryz.func189.trans (congrArg some (by kernel_rfl))⟩
 f25:=⟨Tryz.f190.name,by decide,Tryz.func190.trans (congrArg some (by kernel_rfl))⟩
 f26:=⟨Tryz.f191.name,by decide,Tryz.func191.trans (congrArg some (by kernel_rfl))⟩
 f27:=⟨Tryz.f192.name,by decide,Tryz.func192.trans (congrArg some (by kernel_rfl))⟩
 f28:=Tryz.func180.trans (congrArg some (by kernel_rfl))
 f29:=Tryz.func181.trans (congrArg some (by kernel_rfl))
 f46:=⟨Tryz.f215.name,by decide,Tryz.func215.trans (congrArg some (by kernel_rfl))⟩
 f47:=Tryz.func209.trans (congrArg some (by kernel_rfl))
 f48:=Tryz.func210.trans (congrArg some (by kernel_rfl))
 f49:=⟨Tryz.f216.name,by decide,Tryz.func216.trans (congrArg some (by kernel_rfl))⟩
 f50:=⟨Tryz.f217.name,by decide,Tryz.func217.trans (congrArg some (by kernel_rfl))⟩
 f57:=⟨Tryz.f234.name,by decide,Tryz.func234.trans (congrArg some (by kernel_rfl))⟩
 t0:=Tryz.underlying0
 a0:=Tryz.isAgg0
 z0:=Tryz.sizeOf0
 v0:=Tryz.zeroValue0
 t3:=Tryz.underlying3
 a3:=Tryz.isAgg3
 z3:=Tryz.sizeOf3
 v3:=Tryz.zeroValue3
 t4:=Tryz.underlying4
 a4:=Tryz.isAgg4
 z4:=Tryz.sizeOf4
 v4:=Tryz.zeroValue4
 t5:=Tryz.underlying5
 a5:=Tryz.isAgg5
 z5:=Tryz.sizeOf5
 v5:=Tryz.zeroValue5
 t9:=Tryz.underlying9
 a9:=Tryz.isAgg9
 z9:=Tryz.sizeOf9
 v9:=Tryz.zeroValue9
 t22:=Tryz.underlying52
 a22:=Tryz.isAgg52
 z22:=Tryz.sizeOf52
 v22:=Tryz.zeroValue52
 t25:=Tryz.underlying139
 a25:=Tryz.isAgg139
 z25:=Tryz.sizeOf139
 v25:=Tryz.zeroValue139
 t39:=Tryz.underlying186
 a39:=Tryz.isAgg186
 z39:=Tryz.sizeOf186
 v39:=Tryz.zeroValue186
 t45:=Tryz.underlying275
 a45:=Tryz.isAgg275
 z45:=Tryz.sizeOf275
 v45:=Tryz.zeroValue275
 t46:=Tryz.underlying276
 a46:=Tryz.isAgg276
 z46:=Tryz.sizeOf276
 v46:=Tryz.zeroValue276
 t50:=Tryz.underlying150
 a50:=Tryz.isAgg150
 z50:=Tryz.sizeOf150
 v50:=Tryz.zeroValue150
 t53:=Tryz.underlying265
 a53:=Tryz.isAgg265
 z53:=Tryz.sizeOf265
 v53:=Tryz.zeroValue265
 t55:=Tryz.underlying267
 a55:=Tryz.isAgg267
 z55:=Tryz.sizeOf267
 v55:=Tryz.zeroValue267
 t66:=Tryz.underlying303
 a66:=Tryz.isAgg303
 z66:=Tryz.sizeOf303
 v66:=Tryz.zeroValue303
 t70:=Tryz.underlying307
 a70:=Tryz.isAgg307
 z70:=Tryz.sizeOf307
 v70:=Tryz.zeroValue307
 t76:=Tryz.underlying321
 a76:=Tryz.isAgg321
 z76:=Tryz.sizeOf321
 v76:=Tryz.zeroValue321
 t77:=Tryz.underlying234
 a77:=Tryz.isAgg234
 z77:=Tryz.sizeOf234
 v77:=Tryz.zeroValue234 }
def Tryz.sortWr_ren:Go.Shelf.Ren:=⟨fun | 6=>151 | 15=>156 | 14=>170 | 28=>180 | 29=>181 | 20=>200 | 21=>201 | 22=>202 | 23=>203 | 24=>204 | 25=>205 | 26=>206 | 27=>207 | 46=>222 | 47=>209 | 48=>210 | 49=>223 | 50=>224 | 57=>235 | n=>n,fun | 22=>80 | 24=>90 | 25=>211 | 3=>3 | 39=>186 | 0=>0 | 53=>265 | 55=>267 | 4=>4 | 46=>276 | 45=>275 | 50=>150 | 5=>5 | 9=>9 | 66=>303 | 70=>307 | 76=>321 | 77=>234 | n=>n,fun | n=>n⟩
theorem Tryz.sortWr:Go.Proofs.SlLaysF0.n6 Tryz.prog Tryz.sortWr_ren:={
 mixed:=by kernel_rfl
 f6:=⟨Tryz.f151.name,by decide,Tryz.func151.trans (congrArg some (by kernel_rfl))⟩
 f14:=⟨Tryz.f170.name,by decide,Tryz.func170.trans (congrArg some (by kernel_rfl))⟩
 f15:=Tryz.func156.trans (congrArg some (by kernel_rfl))
 f20:=⟨Tryz.f200.name,by decide,Tryz.func200.trans (congrArg some (by kernel_rfl))⟩
 f21:=⟨Tryz.f201.name,by decide,Tryz.func201.trans (congrArg some (by kernel_rfl))⟩
 f22:=⟨Tryz.f202.name,by decide,Tryz.func202.trans (congrArg some (by kernel_rfl))⟩
 f23:=⟨Tryz.f203.name,by decide,Tryz.func203.trans (congrArg some (by kernel_rfl))⟩
 f24:=⟨Tryz.f204.name,by decide,Tryz.func204.trans (congrArg some (by kernel_rfl))⟩
 f25:=⟨Tryz.f205.name,by decide,Tryz.func205.trans (congrArg some (by kernel_rfl))⟩
 f26:=⟨Tryz.f206.name,by decide,Tryz.func206.trans (congrArg some (by kernel_rfl))⟩
 f27:=⟨Tryz.f207.name,by decide,Tryz.func207.trans (congrArg some (by kernel_rfl))⟩
 f28:=Tryz.func180.trans (congrArg some (by kernel_rfl))
 f29:=Tryz.func181.trans (congrArg some (by kernel_rfl))
 f46:=⟨Tryz.f222.name,by decide,Tryz.func222.trans (congrArg some (by kernel_rfl))⟩
 f47:=Tryz.func209.trans (congrArg some (by kernel_rfl))
 f48:=Tryz.func210.trans (congrArg some (by kernel_rfl))
 f49:=⟨Tryz.f223.name,by decide,Tryz.func223.trans (congrArg some (by kernel_rfl))⟩
 f50:=⟨Tryz.f224.name,by decide,Tryz.func224.trans (congrArg some (by kernel_rfl))⟩
 f57:=⟨Tryz.f235.name,by decide,Tryz.func235.trans (congrArg some (by kernel_rfl))⟩
 t0:=Tryz.underlying0
 a0:=Tryz.isAgg0
 z0:=Tryz.sizeOf0
 v0:=Tryz.zeroValue0
 t3:=Tryz.underlying3
 a3:=Tryz.isAgg3
 z3:=Tryz.sizeOf3
 v3:=Tryz.zeroValue3
 t4:=Tryz.underlying4
 a4:=Tryz.isAgg4
 z4:=Tryz.sizeOf4
 v4:=Tryz.zeroValue4
 t5:=Tryz.underlying5
 a5:=Tryz.isAgg5
 z5:=Tryz.sizeOf5
 v5:=Tryz.zeroValue5
 t9:=Tryz.underlying9
 a9:=Tryz.isAgg9
 z9:=Tryz.sizeOf9
 v9:=Tryz.zeroValue9
 t22:=Tryz.underlying80
 a22:=Tryz.isAgg80
 z22:=Tryz.sizeOf80
 v22:=Tryz.zeroValue80
 t25:=Tryz.underlying211
 a25:=Tryz.isAgg211
 z25:=Tryz.sizeOf211
 v25:=Tryz.zeroValue211
 t39:=Tryz.underlying186
 a39:=Tryz.isAgg186
 z39:=Tryz.sizeOf186
 v39:=Tryz.zeroValue186
 t45:=Tryz.underlying275
 a45:=Tryz.isAgg275
 z45:=Tryz.sizeOf275
 v45:=Tryz.zeroValue275
 t46:=Tryz.underlying276
 a46:=Tryz.isAgg276
 z46:=Tryz.sizeOf276
 v46:=Tryz.zeroValue276
 t50:=Tryz.underlying150
 a50:=Tryz.isAgg150
 z50:=Tryz.sizeOf150
 v50:=Tryz.zeroValue150
 t53:=Tryz.underlying265
 a53:=Tryz.isAgg265
 z53:=Tryz.sizeOf265
 v53:=Tryz.zeroValue265
 t55:=Tryz.underlying267
 a55:=Tryz.isAgg267
 z55:=Tryz.sizeOf267
 v55:=Tryz.zeroValue267
 t66:=Tryz.underlying303
 a66:=Tryz.isAgg303
 z66:=Tryz.sizeOf303
 v66:=Tryz.zeroValue303
 t70:=Tryz.underlying307
 a70:=Tryz.isAgg307
 z70:=Tryz.sizeOf307
 v70:=Tryz.zeroValue307
 t76:=Tryz.underlying321
 a76:=Tryz.isAgg321
 z76:=Tryz.sizeOf321
 v76:=Tryz.zeroValue321
 t77:=Tryz.underlying234
 a77:=Tryz.isAgg234
 z77:=Tryz.sizeOf234
 v77:=Tryz.zeroValue234 }
def Tryz.sortVer_ren:Go.Shelf.Ren:=⟨fun | 6=>183 | 15=>156 | 14=>214 | 28=>180 | 29=>181 | 20=>226 | 21=>227 | 22=>228 | 23=>229 | 24=>230 | 25=>231 | 26=>232 | 27=>233 | 46=>236 | 47=>209 | 48=>210 | 49=>237 | 50=>238 | 57=>239 | n=>n,fun | 22=>32 | 24=>93 | 25=>255 | 3=>3 | 39=>186 | 0=>0 | 53=>265 | 55=>267 | 4=>4 | 46=>276 | 45=>275 | 50=>150 | 5=>5 | 9=>9 | 66=>303 | 70=>307 | 76=>321 | 77=>234 | n=>n,fun | n=>n⟩
theorem Tryz.sortVer:Go.Proofs.SlLaysF0.n6 Tryz.prog Tryz.sortVer_ren:={
 mixed:=by kernel_rfl
 f6:=⟨Tryz.f183.name,by decide,Tryz.func183.trans (congrArg some (by kernel_rfl))⟩
 f14:=⟨Tryz.f214.name,by decide,Tryz.func214.trans (congrArg some (by kernel_rfl))⟩
 f15:=Tryz.func156.trans (congrArg some (by kernel_rfl))
 f20:=⟨Tryz.f226.name,by decide,Tryz.func226.trans (congrArg some (by kernel_rfl))⟩
 f21:=⟨Tryz.f227.name,by decide,Tryz.func227.trans (congrArg some (by kernel_rfl))⟩
 f22:=⟨Tryz.f228.name,by decide,Tryz.func228.trans (congrArg some (by kernel_rfl))⟩
 f23:=⟨Tryz.f229.name,by decide,Tryz.func229.trans (congrArg some (by kernel_rfl))⟩
 f24:=⟨Tryz.f230.name,by decide,Tryz.func230.trans (congrArg some (by kernel_rfl))⟩
 f25:=⟨Tryz.f231.name,by decide,Tryz.func231.trans (congrArg some (by kernel_rfl))⟩
 f26:=⟨Tryz.f232.name,by decide,Tryz.func232.trans (congrArg some (by kernel_rfl))⟩
 f27:=⟨Tryz.f233.name,by decide,Tryz.func233.trans (congrArg some (by kernel_rfl))⟩
 f28:=Tryz.func180.trans (congrArg some (by kernel_rfl))
 f29:=Tryz.func181.trans (congrArg some (by kernel_rfl))
 f46:=⟨Tryz.f236.name,by decide,Tryz.func236.trans (congrArg some (by kernel_rfl))⟩
 f47:=Tryz.func209.trans (congrArg some (by kernel_rfl))
 f48:=Tryz.func210.trans (congrArg some (by kernel_rfl))
 f49:=⟨Tryz.f237.name,by decide,Tryz.func237.trans (congrArg some (by kernel_rfl))⟩
 f50:=⟨Tryz.f238.name,by decide,Tryz.func238.trans (congrArg some (by kernel_rfl))⟩
 f57:=⟨Tryz.f239.name,by decide,Tryz.func239.trans (congrArg some (by kernel_rfl))⟩
 t0:=Tryz.underlying0
 a0:=Tryz.isAgg0
 z0:=Tryz.sizeOf0
 v0:=Tryz.zeroValue0
 t3:=Tryz.underlying3
 a3:=Tryz.isAgg3
 z3:=Tryz.sizeOf3
 v3:=Tryz.zeroValue3
 t4:=Tryz.underlying4
 a4:=Tryz.isAgg4
 z4:=Tryz.sizeOf4
 v4:=Tryz.zeroValue4
 t5:=Tryz.underlying5
 a5:=Tryz.isAgg5
 z5:=Tryz.sizeOf5
 v5:=Tryz.zeroValue5
 t9:=Tryz.underlying9
 a9:=Tryz.isAgg9
 z9:=Tryz.sizeOf9
 v9:=Tryz.zeroValue9
 t22:=Tryz.underlying32
 a22:=Tryz.isAgg32
 z22:=Tryz.sizeOf32
 v22:=Tryz.zeroValue32
 t25:=Tryz.underlying255
 a25:=Tryz.isAgg255
 z25:=Tryz.sizeOf255
 v25:=Tryz.zeroValue255
 t39:=Tryz.underlying186
 a39:=Tryz.isAgg186
 z39:=Tryz.sizeOf186
 v39:=Tryz.zeroValue186
 t45:=Tryz.underlying275
 a45:=Tryz.isAgg275
 z45:=Tryz.sizeOf275
 v45:=Tryz.zeroValue275
 t46:=Tryz.underlying276
 a46:=Tryz.isAgg276
 z46:=Tryz.sizeOf276
 v46:=Tryz.zeroValue276
 t50:=Tryz.underlying150
 a50:=Tryz.isAgg150
 z50:=Tryz.sizeOf150
 v50:=Tryz.zeroValue150
 t53:=Tryz.underlying265
 a53:=Tryz.isAgg265
 z53:=Tryz.sizeOf265
 v53:=Tryz.zeroValue265
 t55:=Tryz.underlying267
 a55:=Tryz.isAgg267
 z55:=Tryz.sizeOf267
 v55:=Tryz.zeroValue267
 t66:=Tryz.underlying303
 a66:=Tryz.isAgg303
 z66:=Tryz.sizeOf303
 v66:=Tryz.zeroValue303
 t70:=Tryz.underlying307
 a70:=Tryz.isAgg307
 z70:=Tryz.sizeOf307
 v70:=Tryz.zeroValue307
 t76:=Tryz.underlying321
 a76:=Tryz.isAgg321
 z76:=Tryz.sizeOf321
 v76:=Tryz.zeroValue321
 t77:=Tryz.underlying234
 a77:=Tryz.isAgg234
 z77:=Tryz.sizeOf234
 v77:=Tryz.zeroValue234 }
end Go.Proofs
namespace Go.Proofs
open Go.Shelf
def Tryz.sortInt_ren:Go.Shelf.Ren:=⟨fun | 189=>111 | 125=>156 | 257=>155 | 128=>180 | 129=>181 | 294=>171 | 295=>172 | 296=>173 | 297=>174 | 298=>175 | 299=>176 | 216=>177 | 300=>178 | 301=>179 | 328=>208 | 329=>209 | 330=>210 | 331=>211 | 332=>212 | 215=>153 | 343=>225 | n=>n,fun | 28=>44 | 3=>3 | 46=>186 | 0=>0 | 51=>265 | 53=>267 | 4=>4 | 183=>276 | 182=>275 | 131=>150 | 5=>5 | 9=>9 | 218=>303 | 222=>307 | 228=>321 | 229=>234 | n=>n,fun | n=>n⟩
theorem Tryz.sortInt:Go.Proofs.Lays.n189 Tryz.prog Tryz.sortInt_ren:={
 mixed:=by kernel_rfl
 f125:=Tryz.func156.trans (congrArg some (by kernel_rfl))
 f128:=Tryz.func180.trans (congrArg some (by kernel_rfl))
 f129:=Tryz.func181.trans (congrArg some (by kernel_rfl))
 f189:=Tryz.func111.trans (congrArg some (by kernel_rfl))
 f215:=Tryz.func153.trans (congrArg some (by kernel_rfl))
 f216:=Tryz.func177.trans (congrArg some (by kernel_rfl))
 f257:=Tryz.func155.trans (congrArg some (by kernel_rfl))
 f294:=Tryz.func171.trans (congrArg some (by kernel_rfl))
 f295:=Tryz.func172.trans (congrArg some (by kernel_rfl))
 f296:=Tryz.func173.trans (congrArg some (by kernel_rfl))
 f297:=Tryz.func174.trans (congrArg some (by kernel_rfl))
 f298:=Tryz.func175.trans (congrArg some (by kernel_rfl))
 f299:=Tryz.func176.trans (congrArg some (by kernel_rfl))
 f300:=Tryz.func178.trans (congrArg some (by kernel_rfl))
 f301:=Tryz.func179.trans (congrArg some (by kernel_rfl))
 f328:=Tryz.func208.trans (congrArg some (by kernel_rfl))
 f329:=Tryz.func209.trans (congrArg some (by kernel_rfl))
 f330:=Tryz.func210.trans (congrArg some (by kernel_rfl))
 f331:=Tryz.func211.trans (congrArg some (by kernel_rfl))
 f332:=Tryz.func212.trans (congrArg some (by kernel_rfl))
 f343:=Tryz.func225.trans (congrArg some (by kernel_rfl))
 t0:=Tryz.underlying0
 a0:=Tryz.isAgg0
 z0:=Tryz.sizeOf0
 v0:=Tryz.zeroValue0
 t3:=Tryz.underlying3
 a3:=Tryz.isAgg3
 z3:=Tryz.sizeOf3
 v3:=Tryz.zeroValue3
 t4:=Tryz.underlying4
 a4:=Tryz.isAgg4
 z4:=Tryz.sizeOf4
 v4:=Tryz.zeroValue4
 t5:=Tryz.underlying5
 a5:=Tryz.isAgg5
 z5:=Tryz.sizeOf5
 v5:=Tryz.zeroValue5
 t9:=Tryz.underlying9
 a9:=Tryz.isAgg9
 z9:=Tryz.sizeOf9
 v9:=Tryz.zeroValue9
 t28:=Tryz.underlying44
 a28:=Tryz.isAgg44
 z28:=Tryz.sizeOf44
 v28:=Tryz.zeroValue44
 t46:=Tryz.underlying186
 a46:=Tryz.isAgg186
 z46:=Tryz.sizeOf186
 v46:=Tryz.zeroValue186
 t51:=Tryz.underlying265
 a51:=Tryz.isAgg265
 z51:=Tryz.sizeOf265
 v51:=Tryz.zeroValue265
 t53:=Tryz.underlying267
 a53:=Tryz.isAgg267
 z53:=Tryz.sizeOf267
 v53:=Tryz.zeroValue267
 t131:=Tryz.underlying150
 a131:=Tryz.isAgg150
 z131:=Tryz.sizeOf150
 v131:=Tryz.zeroValue150
 t182:=Tryz.underlying275
 a182:=Tryz.isAgg275
 z182:=Tryz.sizeOf275
 v182:=Tryz.zeroValue275
 t183:=Tryz.underlying276
 a183:=Tryz.isAgg276
 z183:=Tryz.sizeOf276
 v183:=Tryz.zeroValue276
 t218:=Tryz.underlying303
 a218:=Tryz.isAgg303
 z218:=Tryz.sizeOf303
 v218:=Tryz.zeroValue303
 t222:=Tryz.underlying307
 a222:=Tryz.isAgg307
 z222:=Tryz.sizeOf307
 v222:=Tryz.zeroValue307
 t228:=Tryz.underlying321
 a228:=Tryz.isAgg321
 z228:=Tryz.sizeOf321
 v228:=Tryz.zeroValue321
 t229:=Tryz.underlying234
 a229:=Tryz.isAgg234
 z229:=Tryz.sizeOf234
 v229:=Tryz.zeroValue234 }
end Go.Proofs
namespace Go.Proofs.YtlfghapllmaigaaGreatDoor
section
open Go.RowKit Go.Maps
theorem perm_sorted_eq {α:Type} {R:α→α→Prop}:∀ {l m:List α},l.Perm m→l.Pairwise R→m.Pairwise R→(∀a∈l,∀b∈l,R a b→R b a→a=b)→l=m
 | [],m,h,_,_,_=>by rw [h.nil_eq]
 | x::l,[],h,_,_,_=>by have:=h.length_eq;simp at this
 | x::l,y::m,h,h1,h2,ha=>by
  obtain ⟨h1a,h1b⟩:=List.pairwise_cons.1 h1
  obtain ⟨h2a,h2b⟩:=List.pairwise_cons.1 h2
  have hxy:x=y:=by
   have hx:x∈y::m:=h.mem_iff.1 (by simp)
   have hy:y∈x::l:=h.mem_iff.2 (by simp)
   rcases List.mem_cons.1 hx with e | hx
   ·exact e
   ·rcases List.mem_cons.1 hy with e | hy
    ·exact e.symm
    ·exact ha x (by simp) y (by simp [hy]) (h1a y hy) (h2a x hx)
  subst hxy
  rw [perm_sorted_eq h.cons_inv h1b h2b (fun a h3 b h4=>ha a (by simp [h3]) b (by simp [h4]))]
theorem flatK_toList {α:Type} [Inhabited α] {enc:α→List Value} {k:Nat} (hk:∀x,(enc x).length=k) (hk0:0<k) (d:Array α):(Go.Sort.flatK enc k d).toList=recC enc d.toList:=by
 apply List.ext_getElem?
 intro t
 by_cases h:t<d.size * k
 ·have h1:(Go.Sort.flatK enc k d).toList[t]?=some ((enc d[t / k]!)[t % k]!):=by
   rw [Array.getElem?_toList,Array.getElem?_eq_getElem (by simpa using h),← getElem!_pos (Go.Sort.flatK enc k d) t (by simpa using h),Go.Sort.get_flatK enc k d t h]
  have hlt:t / k<d.size:=Nat.div_lt_of_lt_mul (by rw [Nat.mul_comm];exact h)
  have h2:=recC_at hk d.toList (t / k) (by simpa using hlt) (t % k) (Nat.mod_lt _ hk0)
  rw [Nat.div_add_mod' t k] at h2
  have hdef:d.toList.getD (t / k) default=d[t / k]!:=by
   rw [List.getD_eq_getElem?_getD,Array.getElem?_toList,Array.getElem?_eq_getElem hlt,getElem!_pos d (t / k) hlt];rfl
  rw [h1,h2,hdef,List.getElem?_eq_getElem (by rw [hk];exact Nat.mod_lt _ hk0),getElem!_pos (enc d[t / k]!) (t % k) (by rw [hk];exact Nat.mod_lt _ hk0)]
 ·rw [List.getElem?_eq_none (by simp;omega),List.getElem?_eq_none (by rw [recC_length hk];simp;omega)]
theorem sorted_own {α:Type} [Inhabited α] {enc:α→List Value} {k:Nat} (hk:∀x,(enc x).length=k) (hk0:0<k) {w:World} {base:Nat} {e:TypeId} {g n cap:Nat} {xs:List α} (h:w.ownsRow base e k (.slice (some ⟨g,0,none⟩) n cap) n (recC enc xs)) {d:Array α} (hd:d.size=n) (m:Nat) (os:Array Obj) :
  (sortWorldK enc k w g 0 m d os).ownsRow base e k (.slice (some ⟨g,0,none⟩) n cap) n (recC enc d.toList)∧∀B,B≤g→B≤w.heap.size→Below B w (sortWorldK enc k w g 0 m d os):=by
 obtain ⟨hl,hd'⟩:=h
 rcases hd' with ⟨hv,h0⟩ | ⟨g',c',cur,hv,hbg,hh,hnc,hcm,hcs,ht⟩
 ·simp at hv
 ·simp only [Value.slice.injEq,Option.some.injEq,Addr.mk.injEq,and_true,true_and] at hv
  obtain ⟨rfl,rfl⟩:=hv
  have hg:=(Array.getElem?_eq_some_iff.1 hh).1
  have hfs:(Go.Sort.flatK enc k d).size=n * k:=by rw [Go.Sort.size_flatK,hd]
  have hcl:n * k≤cur.size:=by rw [hcs];exact Nat.mul_le_mul_right _ hnc
  have hheap:(sortWorldK enc k w g 0 m d os).heap[g]?=some (.cells (Go.Sort.putCells id 0 (Go.Sort.flatK enc k d) cur) e (0,0)):=by
   unfold sortWorldK Go.Sort.grow Go.Sort.putRowK Go.Sort.putRow Go.Sort.mapBlock Go.Sort.ahead
   simp only [Array.getElem?_append,Array.size_modify,hg,if_true,Array.getElem?_modify,hh]
   rfl
  have htl:(Go.Sort.putCells id 0 (Go.Sort.flatK enc k d) cur).toList.take (n * k)=(Go.Sort.flatK enc k d).toList:=by
   apply List.ext_getElem?
   intro t
   rw [List.getElem?_take]
   by_cases h:t<n * k
   ·rw [if_pos h,Array.getElem?_toList,Array.getElem?_toList]
    unfold Go.Sort.putCells
    rw [Array.getElem?_mapIdx,Array.getElem?_eq_getElem (by omega),Array.getElem?_eq_getElem (by omega)]
    simp only [Option.map_some,id_eq,Nat.zero_add,Nat.sub_zero]
    rw [if_pos ⟨Nat.zero_le _,by omega⟩,getElem!_pos (Go.Sort.flatK enc k d) t (by omega)]
   ·rw [if_neg h,List.getElem?_eq_none (by simp [hd];omega)]
  refine ⟨⟨by rw [recC_length hk];simp [hd],.inr ⟨g,cap,_,rfl,hbg,hheap,hnc,hcm,by unfold Go.Sort.putCells;rw [Array.size_mapIdx];exact hcs,by rw [htl,flatK_toList hk hk0]⟩⟩,fun B hB hBs=>⟨rfl,rfl,rfl,?_,fun j hj=>?_⟩⟩
  ·unfold sortWorldK Go.Sort.grow Go.Sort.putRowK Go.Sort.putRow Go.Sort.mapBlock Go.Sort.ahead
   simp
  ·unfold sortWorldK Go.Sort.grow Go.Sort.putRowK Go.Sort.putRow Go.Sort.mapBlock Go.Sort.ahead
   simp only [Array.getElem?_append,Array.size_modify,Array.getElem?_modify]
   rw [if_pos (by omega),if_neg (by omega)]
theorem own_holdsK {α:Type} [Inhabited α] {enc:α→List Value} {k:Nat} (hk:∀x,(enc x).length=k) (hk0:0<k) {w:World} {base:Nat} {e:TypeId} {g n cap:Nat} {xs:List α} (h:w.ownsRow base e k (.slice (some ⟨g,0,none⟩) n cap) n (recC enc xs)):Go.Sort.HoldsK enc k w g 0 xs.toArray∧xs.length=n∧g<w.heap.size:=by
 have hr:=Rd.ofOwn h
 have hln:xs.length=n:=by
  have:=h.1
  rw [recC_length hk] at this
  exact Nat.eq_of_mul_eq_mul_right hk0 this
 obtain ⟨hl,hd'⟩:=h
 rcases hd' with ⟨hv,h0⟩ | ⟨g',c',cur,hv,hbg,hh,hnc,hcm,hcs,ht⟩
 ·simp at hv
 ·simp only [Value.slice.injEq,Option.some.injEq,Addr.mk.injEq,and_true,true_and] at hv
  obtain ⟨rfl,rfl⟩:=hv
  refine ⟨fun j hj=>?_,hln,(Array.getElem?_eq_some_iff.1 hh).1⟩
  have hfl:=flatK_toList hk hk0 xs.toArray
  have hj2:(recC enc xs)[j]?=some (Go.Sort.flatK enc k xs.toArray)[j]!:=by
   rw [show recC enc xs=(Go.Sort.flatK enc k xs.toArray).toList from by rw [hfl],Array.getElem?_toList,Array.getElem?_eq_getElem hj,getElem!_pos (Go.Sort.flatK enc k xs.toArray) j hj]
  constructor
  ·have:=hr.hcell ⟨g,0,none⟩ rfl j _ hj2
   rw [show (⟨g,0,none⟩:Addr).add j=⟨g,0+j,none⟩ from by unfold Addr.add;split<;>simp_all] at this
   exact this
  ·unfold World.frozen?
   rw [hh]
   simp
def GrowW (w w':World):Prop:=∃q os,w'=Go.Sort.grow (w.drewN q) os
theorem GrowW.refl (w:World):GrowW w w:=⟨0,#[],by simp [World.drewN]⟩
theorem GrowW.drew {w w':World} (h:GrowW w w'):GrowW w w'.drew:=by
 obtain ⟨q,os,rfl⟩:=h
 exact ⟨q+1,os,rfl⟩
theorem GrowW.alloc {w w':World} (h:GrowW w w') (o:Obj):GrowW w (w'.alloc o):=by
 obtain ⟨q,os,rfl⟩:=h
 exact ⟨q,os++#[o],by rw [Go.Sort.alloc_eq_grow,Go.Sort.grow_grow]⟩
theorem GrowW.below {w w':World} (h:GrowW w w'):Below w.heap.size w w':=by
 obtain ⟨q,os,rfl⟩:=h
 exact ⟨rfl,rfl,rfl,by simp [Go.Sort.grow,World.drewN],fun k hk=>by simp [Go.Sort.grow,World.drewN,Array.getElem?_append,hk]⟩
def RetG (v:Value) (w:World) (e:Ending) (w':World):Prop:=e=.returned v∧GrowW w w'
def or2I (p q:Int):Int:=if p=0 then q else p
def cmp2 (a b c d:Int):Int:=or2I (cmpI a c) (cmpI b d)
theorem cmp2_lt {a b c d:Int}:cmp2 a b c d<0↔a<c∨a=c∧b<d:=by
 unfold cmp2 or2I cmpI
 by_cases h1:a<c
 ·simp [h1]
 ·by_cases h2:c<a
  ·simp [h1,h2];omega
  ·have:a=c:=by omega
   subst this
   simp
   by_cases h3:b<d
   ·simp [h3]
   ·by_cases h4:d<b<;>simp [h3,h4]
theorem swo2 {α:Type} (f g:α→Int):Go.Sort.SWO (ltOf fun x y:α=>cmp2 (f x) (g x) (f y) (g y)) where
 irrefl x:=by unfold ltOf;rw [decide_eq_false];rw [cmp2_lt];omega
 trans x y z h1 h2:=by
  unfold ltOf at *
  rw [decide_eq_true_eq,cmp2_lt] at *;omega
 ntrans x y z h1 h2:=by
  unfold ltOf at *
  rw [decide_eq_false_iff_not,cmp2_lt] at *;omega
def Le2 {α:Type} (f g:α→Int) (x y:α):Prop:=¬ (f y<f x∨f y=f x∧g y<g x)
def RetSrt {α:Type} (f g:α→Int) (enc:α→List Value) (T:TypeId) (k B n:Nat) (a:Option Addr) (c:Nat) (xs:List α) (w:World) (e:Ending) (w':World):Prop :=
 Below B w w'∧e=.returned (.tuple #[])∧∃ys:List α,ys.Perm xs∧ys.Pairwise (Le2 f g)∧w'.ownsRow B T k (.slice a n c) n (recC enc ys)
theorem retSrt_of {α:Type} [Inhabited α] {f g:α→Int} {enc:α→List Value} {T:TypeId} {k B n:Nat} {b c:Nat} {xs:List α} {w:World} (hk:∀x,(enc x).length=k) (hk0:0<k) (hB:B≤w.heap.size) (h:w.ownsRow B T k (.slice (some ⟨b,0,none⟩) n c) n (recC enc xs)) (hb:B≤b) (hn:xs.length=n) {fn:FuncId} {args:Array Value}
  (hc:Calls Tryz.prog fn args w fun e w'=>e=.returned (.tuple #[])∧∃d' m os,Go.Sort.PermIn 0 xs.toArray.size xs.toArray d'∧Go.Sort.SortedIn (ltOf fun x y:α=>cmp2 (f x) (g x) (f y) (g y)) 0 xs.toArray.size d'∧w'=sortWorldK enc k w b 0 m d' os) :
  Calls Tryz.prog fn args w (RetSrt f g enc T k B n (some ⟨b,0,none⟩) c xs w):=by
 refine hc.mono ?_
 rintro e w' ⟨rfl,d',m,os,hp,hs,rfl⟩
 have hsz:d'.size=n:=by rw [hp.1];simpa using hn
 obtain ⟨h1,h2⟩:=sorted_own hk hk0 h hsz m os
 refine ⟨h2 B hb hB,rfl,d'.toList,?_,?_,h1⟩
 ·have:=hp.2.2
  rw [Array.extract_eq_self_of_le (by simp [hsz,hn]),Array.extract_eq_self_of_le (by simp)] at this
  simpa using this
 ·rw [List.pairwise_iff_getElem]
  intro i j hi hj hij
  have:=hs i j (Nat.zero_le _) hij (by simp at hj;simp;omega)
  simp at hi hj
  rw [getElem!_pos d' j hj,getElem!_pos d' i hi] at this
  unfold ltOf at this
  rw [decide_eq_false_iff_not,cmp2_lt] at this
  unfold Le2
  simpa using this
end
section
open Go.RowKit Go.Maps
theorem sorted_own1 {α:Type} [Inhabited α] {enc:α→Value} {w:World} {base:Nat} {e:TypeId} {g n cap:Nat} {xs:List α} (h:w.ownsRow base e 1 (.slice (some ⟨g,0,none⟩) n cap) n (xs.map enc)) {d:Array α} (hd:d.size=n) (m:Nat) (os:Array Obj) :
  (Go.Sort.grow (Go.Sort.putRow enc (Go.Sort.ahead w m) g 0 d) os).ownsRow base e 1 (.slice (some ⟨g,0,none⟩) n cap) n (d.toList.map enc)∧∀B,B≤g→B≤w.heap.size→Below B w (Go.Sort.grow (Go.Sort.putRow enc (Go.Sort.ahead w m) g 0 d) os):=by
 obtain ⟨hl,hd'⟩:=h
 rcases hd' with ⟨hv,h0⟩ | ⟨g',c',cur,hv,hbg,hh,hnc,hcm,hcs,ht⟩
 ·simp at hv
 ·simp only [Value.slice.injEq,Option.some.injEq,Addr.mk.injEq,and_true,true_and] at hv
  obtain ⟨rfl,rfl⟩:=hv
  have hg:=(Array.getElem?_eq_some_iff.1 hh).1
  have hcl:n≤cur.size:=by rw [hcs];omega
  have hheap:(Go.Sort.grow (Go.Sort.putRow enc (Go.Sort.ahead w m) g 0 d) os).heap[g]?=some (.cells (Go.Sort.putCells enc 0 d cur) e (0,0)):=by
   unfold Go.Sort.grow Go.Sort.putRow Go.Sort.mapBlock Go.Sort.ahead
   simp only [Array.getElem?_append,Array.size_modify,hg,if_true,Array.getElem?_modify,hh]
   rfl
  have htl:(Go.Sort.putCells enc 0 d cur).toList.take (n * 1)=d.toList.map enc:=by
   apply List.ext_getElem?
   intro t
   rw [List.getElem?_take,List.getElem?_map]
   by_cases h:t<n
   ·rw [if_pos (by omega),Array.getElem?_toList,Array.getElem?_toList]
    unfold Go.Sort.putCells
    rw [Array.getElem?_mapIdx,Array.getElem?_eq_getElem (by omega),Array.getElem?_eq_getElem (show t<d.size by omega)]
    simp only [Option.map_some,Nat.zero_add,Nat.sub_zero]
    rw [if_pos ⟨Nat.zero_le _,by omega⟩,getElem!_pos d t (by omega)]
   ·rw [if_neg (by omega),Array.getElem?_toList,Array.getElem?_eq_none (by omega)];rfl
  refine ⟨⟨by simp [hd],.inr ⟨g,cap,_,rfl,hbg,hheap,hnc,hcm,by unfold Go.Sort.putCells;rw [Array.size_mapIdx];exact hcs,by rw [← htl]⟩⟩,fun B hB hBs=>⟨rfl,rfl,rfl,?_,fun j hj=>?_⟩⟩
  ·unfold Go.Sort.grow Go.Sort.putRow Go.Sort.mapBlock Go.Sort.ahead
   simp
  ·unfold Go.Sort.grow Go.Sort.putRow Go.Sort.mapBlock Go.Sort.ahead
   simp only [Array.getElem?_append,Array.size_modify,Array.getElem?_modify]
   rw [if_pos (by omega),if_neg (by omega)]
theorem srtI {xs:List Int} {a:Option Addr} {n c B:Nat} {w:World} (hB:B≤w.heap.size) (h:w.ownsRow B 3 1 (.slice a n c) n (intVals xs)) (hn:n≤1000000) :
  Calls Tryz.prog 111 #[.slice a n c] w fun e w'=>Below B w w'∧e=.returned (.tuple #[])∧∃ys:List Int,ys.Perm xs∧ys.Pairwise (·≤·)∧w'.ownsRow B 3 1 (.slice a n c) n (intVals ys):=by
 have hl:xs.length=n:=by have:=h.1;simpa [intVals] using this
 rcases Nat.eq_zero_or_pos n with h0 | hp
 ·subst h0
  have hx:xs=[]:=List.length_eq_zero_iff.1 hl
  have hc:=Any.slices_Sort_int_none Tryz.sortInt a c w
  change Calls Tryz.prog 111 _ _ _ at hc
  refine hc.mono ?_
  rintro e w' ⟨rfl,rfl⟩
  exact ⟨(Below.refl _ _),rfl,xs,List.Perm.refl _,by rw [hx];exact List.Pairwise.nil,h⟩
 ·obtain ⟨g,rfl,hg⟩:=own_some h hp
  have hr:=Rd.ofOwn h
  have hlt:g<w.heap.size:=(h.lt g rfl).2
  have hH:Go.Sort.Holds (Value.int .i64) w g 0 xs.toArray:=by
   intro j hj
   have hj':j<xs.length:=by simpa using hj
   constructor
   ·have:=hr.hcell ⟨g,0,none⟩ rfl j (.int .i64 xs[j]) (by unfold intVals;rw [List.getElem?_map,List.getElem?_eq_getElem hj'];rfl)
    rw [show (⟨g,0,none⟩:Addr).add j=⟨g,0+j,none⟩ from by unfold Addr.add;split<;>simp_all] at this
    rw [getElem!_pos xs.toArray j hj]
    simpa using this
   ·rcases h.2 with ⟨hv,h0⟩ | ⟨g',c',cur,hv,hbg,hh,hnc,hcm,hcs,ht⟩
    ·simp at hv
    ·simp only [Value.slice.injEq,Option.some.injEq,Addr.mk.injEq,and_true,true_and] at hv
     obtain ⟨rfl,rfl⟩:=hv
     unfold World.frozen?
     rw [hh]
     simp
  have hc:=Any.slices_Sort_int Tryz.sortInt g 0 c xs w hH hlt (by omega)
  change Calls Tryz.prog 111 _ _ _ at hc
  rw [hl] at hc
  refine hc.mono ?_
  rintro e w' ⟨rfl,m,os,rfl⟩
  obtain ⟨h1,h2⟩:=sorted_own1 (enc:=Value.int .i64) h (d:=(xs.mergeSort fun x y=>decide (x≤y)).toArray) (by simp [hl]) m os
  refine ⟨h2 B hg hB,rfl,xs.mergeSort (fun x y=>decide (x≤y)),List.mergeSort_perm _ _,?_,h1⟩
  have:=List.pairwise_mergeSort (le:=fun x y:Int=>decide (x≤y)) (fun a b c=>by simp;omega) (fun a b=>by simp;omega) xs
  exact this.imp fun {a b} h=>by simpa using h
set_option maxRecDepth 20000 in
set_option maxHeartbeats 2000000 in
theorem srtd_int {gf:Nat} {lb:Array Value} (eg:∀args w,(callFunc gf args).run Tryz.prog w=.ok (.enter gf args) w) {S:List Int→Prop} {N:Nat} {w:World} (hseq:IterK gf lb (fun x:Int=>#[.int .i64 x]) S N w) (hN:N≤1000000) (hS:∀xs,S xs→xs.length≤1000000) :
  Calls Tryz.prog 43 #[.func (.func gf) #[] lb] w (RetCol (fun ys=>ys.Pairwise (·≤·)∧∃xs,S xs∧ys.Perm xs) encI 3 1 w):=by
 have HC:=Box.mk (coll_int eg hseq hN)
 have HSL:=Box.mk hS
 clear hseq eg hS
 go_enter Tryz.func43,Tryz.ntmps43
 go_wp2_with fail
 refine HC.out.mono ?_
 rintro e w1 ⟨hb,xs,a,c,hxs,rfl,hrow⟩
 have hl:=HSL.out xs hxs
 have HX:=Box.mk (And.intro hb hxs)
 rw [recC_encI] at hrow
 have HSR:=Box.mk (srtI hb.size hrow hl)
 clear hb hxs hrow
 go_wp2_with fail
 refine HSR.out.mono ?_
 rintro e w2 ⟨hb2,rfl,ys,hp,hs,hrow⟩
 have HY:=Box.mk (And.intro hb2 (And.intro hp (And.intro hs hrow)))
 have HLEN:=Box.mk hp.length_eq
 clear hb2 hp hs hrow
 go_wp2_with fail
 go_ret
 refine ⟨HX.out.1.trans HY.out.1,ys,a,c,⟨HY.out.2.2.1,xs,HX.out.2,HY.out.2.1⟩,by rw [HLEN.out];rfl,by rw [HLEN.out,recC_encI];exact HY.out.2.2.2⟩
end
end Go.Proofs.YtlfghapllmaigaaGreatDoor
