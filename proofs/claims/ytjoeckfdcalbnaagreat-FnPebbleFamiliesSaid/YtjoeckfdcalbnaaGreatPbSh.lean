/-
  DERIVED: THE SHELF's CONTRACTS AT THIS DUMP, IN PLAIN WORDS (tools/lay-plain.mjs out of 'YtjoeckfdcalbnaaGreatShL.lean', which tools/lay-shelf.mjs wrote): THE SAME DECLARATIONS UNDER THE SAME NAMES: 'import', 'namespace', 'open', 'def', 'theorem' AND NOTHING ELSE: no command of the shelf's: FOR A HAND-IN. Each laying: the table of numbers ('.._ren') and one theorem, a field a fact of the dump's own or the kernel's comparison; each contract: ONE APPLICATION.
-/
import Derived.Shelf.SlSortCmp.NoneTotal
import Derived.Shelf.SlicesE.Delete
import Derived.Shelf.SlicesE.Reverse
import Derived.Shelf.SlicesE.Compact
import Derived.Shelf.Spec.SlicesGrow
import Derived.Ground.Names8Prog
import Derived.Ground.SlsfProg
import Derived.Ground.SlgnProg
import Derived.Shelf.Sort.Plain
import Derived.Shelf.Slices.In.SortNone
import Derived.Ground.NamesProg
import Derived.Test.YtjoeckfdcalbnaaGreatProg
namespace Go.Proofs
open Go.Shelf
def Tryz.sort58_ren:Go.Shelf.Ren:=⟨fun|6=>58|15=>96|14=>95|28=>132|29=>133|20=>124|21=>125|22=>126|23=>127|24=>128|25=>129|26=>130|27=>131|46=>139|47=>140|48=>141|49=>142|50=>143|57=>148|n=>n,fun|22=>24|24=>34|25=>58|3=>3|39=>92|0=>0|53=>128|55=>61|4=>4|46=>122|45=>121|50=>38|5=>5|9=>9|66=>132|70=>136|76=>142|77=>143|n=>n,fun|n=>n⟩
theorem Tryz.sort58:Go.Proofs.SlLaysF.n6 Tryz.prog Tryz.sort58_ren:={
  mixed:=by kernel_rfl
  f6:=⟨Tryz.f58.name,by decide,Tryz.func58.trans (congrArg some (by kernel_rfl))⟩
  f14:=⟨Tryz.f95.name,by decide,Tryz.func95.trans (congrArg some (by kernel_rfl))⟩
  f15:=Tryz.func96.trans (congrArg some (by kernel_rfl))
  f20:=⟨Tryz.f124.name,by decide,Tryz.func124.trans (congrArg some (by kernel_rfl))⟩
  f21:=⟨Tryz.f125.name,by decide,Tryz.func125.trans (congrArg some (by kernel_rfl))⟩
  f22:=⟨Tryz.f126.name,by decide,Tryz.func126.trans (congrArg some (by kernel_rfl))⟩
  f23:=⟨Tryz.f127.name,by decide,Tryz.func127.trans (congrArg some (by kernel_rfl))⟩
  f24:=⟨Tryz.f128.name,by decide,Tryz.func128.trans (congrArg some (by kernel_rfl))⟩
  f25:=⟨Tryz.f129.name,by decide,Tryz.func129.trans (congrArg some (by kernel_rfl))⟩
  f26:=⟨Tryz.f130.name,by decide,Tryz.func130.trans (congrArg some (by kernel_rfl))⟩
  f27:=⟨Tryz.f131.name,by decide,Tryz.func131.trans (congrArg some (by kernel_rfl))⟩
  f28:=Tryz.func132.trans (congrArg some (by kernel_rfl))
  f29:=Tryz.func133.trans (congrArg some (by kernel_rfl))
  f46:=⟨Tryz.f139.name,by decide,Tryz.func139.trans (congrArg some (by kernel_rfl))⟩
  f47:=Tryz.func140.trans (congrArg some (by kernel_rfl))
  f48:=Tryz.func141.trans (congrArg some (by kernel_rfl))
  f49:=⟨Tryz.f142.name,by decide,Tryz.func142.trans (congrArg some (by kernel_rfl))⟩
  f50:=⟨Tryz.f143.name,by decide,Tryz.func143.trans (congrArg some (by kernel_rfl))⟩
  f57:=⟨Tryz.f148.name,by decide,Tryz.func148.trans (congrArg some (by kernel_rfl))⟩
  t0:=Tryz.underlying0
  a0:=Tryz.isAgg0
  z0:=Tryz.sizeOf0
  v0:=Tryz.zeroValue0
  t3:=Tryz.underlying3
  a3:=Tryz.isAgg3
  z3:=Tryz.sizeOf3
  v3:=Tryz.zeroValue3
  t4:=Tryz.underlying4
  a4:=Tryz.isAgg4
  z4:=Tryz.sizeOf4
  v4:=Tryz.zeroValue4
  t5:=Tryz.underlying5
  a5:=Tryz.isAgg5
  z5:=Tryz.sizeOf5
  v5:=Tryz.zeroValue5
  t9:=Tryz.underlying9
  a9:=Tryz.isAgg9
  z9:=Tryz.sizeOf9
  v9:=Tryz.zeroValue9
  t22:=Tryz.underlying24
  a22:=Tryz.isAgg24
  z22:=Tryz.sizeOf24
  v22:=Tryz.zeroValue24
  a24:=Tryz.isAgg34
  z24:=Tryz.sizeOf34
  t25:=Tryz.underlying58
  a25:=Tryz.isAgg58
  z25:=Tryz.sizeOf58
  v25:=Tryz.zeroValue58
  t39:=Tryz.underlying92
  a39:=Tryz.isAgg92
  z39:=Tryz.sizeOf92
  v39:=Tryz.zeroValue92
  t45:=Tryz.underlying121
  a45:=Tryz.isAgg121
  z45:=Tryz.sizeOf121
  v45:=Tryz.zeroValue121
  t46:=Tryz.underlying122
  a46:=Tryz.isAgg122
  z46:=Tryz.sizeOf122
  v46:=Tryz.zeroValue122
  t50:=Tryz.underlying38
  a50:=Tryz.isAgg38
  z50:=Tryz.sizeOf38
  v50:=Tryz.zeroValue38
  t53:=Tryz.underlying128
  a53:=Tryz.isAgg128
  z53:=Tryz.sizeOf128
  v53:=Tryz.zeroValue128
  t55:=Tryz.underlying61
  a55:=Tryz.isAgg61
  z55:=Tryz.sizeOf61
  v55:=Tryz.zeroValue61
  t66:=Tryz.underlying132
  a66:=Tryz.isAgg132
  z66:=Tryz.sizeOf132
  v66:=Tryz.zeroValue132
  t70:=Tryz.underlying136
  a70:=Tryz.isAgg136
  z70:=Tryz.sizeOf136
  v70:=Tryz.zeroValue136
  t76:=Tryz.underlying142
  a76:=Tryz.isAgg142
  z76:=Tryz.sizeOf142
  v76:=Tryz.zeroValue142
  t77:=Tryz.underlying143
  a77:=Tryz.isAgg143
  z77:=Tryz.sizeOf143
  v77:=Tryz.zeroValue143 }
def Tryz.del117_ren:Go.Shelf.Ren:=⟨fun|45=>117|n=>n,fun|22=>34|23=>3|3=>3|4=>4|0=>0|n=>n,fun|n=>n⟩
theorem Tryz.del117:Go.Proofs.SlLaysE.n45 Tryz.prog Tryz.del117_ren:={
  mixed:=by kernel_rfl
  f45:=⟨Tryz.f117.name,by decide,Tryz.func117.trans (congrArg some (by kernel_rfl))⟩
  t0:=Tryz.underlying0
  a0:=Tryz.isAgg0
  z0:=Tryz.sizeOf0
  v0:=Tryz.zeroValue0
  t3:=Tryz.underlying3
  a3:=Tryz.isAgg3
  z3:=Tryz.sizeOf3
  v3:=Tryz.zeroValue3
  t4:=Tryz.underlying4
  a4:=Tryz.isAgg4
  z4:=Tryz.sizeOf4
  v4:=Tryz.zeroValue4
  t22:=Tryz.underlying34
  a22:=Tryz.isAgg34
  z22:=Tryz.sizeOf34
  v22:=Tryz.zeroValue34
  a23:=Tryz.isAgg3
  z23:=Tryz.sizeOf3 }
end Go.Proofs
