/-
  DERIVED: THE SHELF's CONTRACTS AT THIS DUMP, IN PLAIN WORDS (tools/lay-plain.mjs out of 'YtfgonpeogehopaaGreatShL.lean', which tools/lay-shelf.mjs wrote): THE SAME DECLARATIONS UNDER THE SAME NAMES: 'import', 'namespace', 'open', 'def', 'theorem' AND NOTHING ELSE: no command of the shelf's: FOR A HAND-IN. Each laying: the table of numbers ('.._ren') and one theorem, a field a fact of the dump's own or the kernel's comparison; each contract: ONE APPLICATION.
-/
import Derived.Shelf.SlSortCmp.NoneTotal
import Derived.Shelf.SlicesE.Delete
import Derived.Shelf.SlicesE.Reverse
import Derived.Shelf.SlicesE.Compact
import Derived.Shelf.Spec.SlicesGrow
import Derived.Ground.Names8Prog
import Derived.Ground.SlsfProg
import Derived.Ground.SlgnProg
import Derived.Shelf.Sort.Plain
import Derived.Shelf.Slices.In.SortNone
import Derived.Ground.NamesProg
import Derived.Test.YtfgonpeogehopaaGreatProg
namespace Go.Proofs
open Go.Shelf
def Tryz.sint63_ren:Go.Shelf.Ren:=⟨fun|189=>63|125=>76|257=>75|128=>99|129=>100|294=>90|295=>91|296=>92|297=>93|298=>94|299=>95|216=>96|300=>97|301=>98|328=>112|329=>113|330=>114|331=>115|332=>116|215=>117|343=>122|n=>n,fun|28=>25|3=>3|46=>104|0=>0|51=>128|53=>49|4=>4|183=>123|182=>122|131=>30|5=>5|9=>9|218=>135|222=>139|228=>143|229=>144|n=>n,fun|n=>n⟩
theorem Tryz.sint63:Go.Proofs.Lays.n189 Tryz.prog Tryz.sint63_ren:={
  mixed:=by kernel_rfl
  f125:=Tryz.func76.trans (congrArg some (by kernel_rfl))
  f128:=Tryz.func99.trans (congrArg some (by kernel_rfl))
  f129:=Tryz.func100.trans (congrArg some (by kernel_rfl))
  f189:=Tryz.func63.trans (congrArg some (by kernel_rfl))
  f215:=Tryz.func117.trans (congrArg some (by kernel_rfl))
  f216:=Tryz.func96.trans (congrArg some (by kernel_rfl))
  f257:=Tryz.func75.trans (congrArg some (by kernel_rfl))
  f294:=Tryz.func90.trans (congrArg some (by kernel_rfl))
  f295:=Tryz.func91.trans (congrArg some (by kernel_rfl))
  f296:=Tryz.func92.trans (congrArg some (by kernel_rfl))
  f297:=Tryz.func93.trans (congrArg some (by kernel_rfl))
  f298:=Tryz.func94.trans (congrArg some (by kernel_rfl))
  f299:=Tryz.func95.trans (congrArg some (by kernel_rfl))
  f300:=Tryz.func97.trans (congrArg some (by kernel_rfl))
  f301:=Tryz.func98.trans (congrArg some (by kernel_rfl))
  f328:=Tryz.func112.trans (congrArg some (by kernel_rfl))
  f329:=Tryz.func113.trans (congrArg some (by kernel_rfl))
  f330:=Tryz.func114.trans (congrArg some (by kernel_rfl))
  f331:=Tryz.func115.trans (congrArg some (by kernel_rfl))
  f332:=Tryz.func116.trans (congrArg some (by kernel_rfl))
  f343:=Tryz.func122.trans (congrArg some (by kernel_rfl))
  t0:=Tryz.underlying0
  a0:=Tryz.isAgg0
  z0:=Tryz.sizeOf0
  v0:=Tryz.zeroValue0
  t3:=Tryz.underlying3
  a3:=Tryz.isAgg3
  z3:=Tryz.sizeOf3
  v3:=Tryz.zeroValue3
  t4:=Tryz.underlying4
  a4:=Tryz.isAgg4
  z4:=Tryz.sizeOf4
  v4:=Tryz.zeroValue4
  t5:=Tryz.underlying5
  a5:=Tryz.isAgg5
  z5:=Tryz.sizeOf5
  v5:=Tryz.zeroValue5
  t9:=Tryz.underlying9
  a9:=Tryz.isAgg9
  z9:=Tryz.sizeOf9
  v9:=Tryz.zeroValue9
  t28:=Tryz.underlying25
  a28:=Tryz.isAgg25
  z28:=Tryz.sizeOf25
  v28:=Tryz.zeroValue25
  t46:=Tryz.underlying104
  a46:=Tryz.isAgg104
  z46:=Tryz.sizeOf104
  v46:=Tryz.zeroValue104
  t51:=Tryz.underlying128
  a51:=Tryz.isAgg128
  z51:=Tryz.sizeOf128
  v51:=Tryz.zeroValue128
  t53:=Tryz.underlying49
  a53:=Tryz.isAgg49
  z53:=Tryz.sizeOf49
  v53:=Tryz.zeroValue49
  t131:=Tryz.underlying30
  a131:=Tryz.isAgg30
  z131:=Tryz.sizeOf30
  v131:=Tryz.zeroValue30
  t182:=Tryz.underlying122
  a182:=Tryz.isAgg122
  z182:=Tryz.sizeOf122
  v182:=Tryz.zeroValue122
  t183:=Tryz.underlying123
  a183:=Tryz.isAgg123
  z183:=Tryz.sizeOf123
  v183:=Tryz.zeroValue123
  t218:=Tryz.underlying135
  a218:=Tryz.isAgg135
  z218:=Tryz.sizeOf135
  v218:=Tryz.zeroValue135
  t222:=Tryz.underlying139
  a222:=Tryz.isAgg139
  z222:=Tryz.sizeOf139
  v222:=Tryz.zeroValue139
  t228:=Tryz.underlying143
  a228:=Tryz.isAgg143
  z228:=Tryz.sizeOf143
  v228:=Tryz.zeroValue143
  t229:=Tryz.underlying144
  a229:=Tryz.isAgg144
  z229:=Tryz.sizeOf144
  v229:=Tryz.zeroValue144 }
end Go.Proofs
