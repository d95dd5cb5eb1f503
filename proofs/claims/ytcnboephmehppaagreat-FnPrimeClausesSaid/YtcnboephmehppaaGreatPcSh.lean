/-
  DERIVED: THE SHELF's CONTRACTS AT THIS DUMP, IN PLAIN WORDS (tools/lay-plain.mjs out of 'YtcnboephmehppaaGreatShL.lean', which tools/lay-shelf.mjs wrote): THE SAME DECLARATIONS UNDER THE SAME NAMES: 'import', 'namespace', 'open', 'def', 'theorem' AND NOTHING ELSE: no command of the shelf's: FOR A HAND-IN. Each laying: the table of numbers ('.._ren') and one theorem, a field a fact of the dump's own or the kernel's comparison; each contract: ONE APPLICATION.
-/
import Derived.Shelf.SlSortCmp.NoneTotal
import Derived.Shelf.SlicesE.Delete
import Derived.Shelf.SlicesE.Reverse
import Derived.Shelf.SlicesE.Compact
import Derived.Shelf.Spec.SlicesGrow
import Derived.Ground.Names8Prog
import Derived.Ground.SlsfProg
import Derived.Ground.SlgnProg
import Derived.Shelf.Sort.Plain
import Derived.Shelf.Slices.In.SortNone
import Derived.Ground.NamesProg
import Derived.Test.YtcnboephmehppaaGreatProg
namespace Go.Proofs
open Go.Shelf
def Tryz.del111_ren:Go.Shelf.Ren:=⟨fun|45=>111|n=>n,fun|22=>34|23=>3|3=>3|4=>4|0=>0|n=>n,fun|n=>n⟩
theorem Tryz.del111:Go.Proofs.SlLaysE.n45 Tryz.prog Tryz.del111_ren:={
  mixed:=by kernel_rfl
  f45:=⟨Tryz.f111.name,by decide,Tryz.func111.trans (congrArg some (by kernel_rfl))⟩
  t0:=Tryz.underlying0
  a0:=Tryz.isAgg0
  z0:=Tryz.sizeOf0
  v0:=Tryz.zeroValue0
  t3:=Tryz.underlying3
  a3:=Tryz.isAgg3
  z3:=Tryz.sizeOf3
  v3:=Tryz.zeroValue3
  t4:=Tryz.underlying4
  a4:=Tryz.isAgg4
  z4:=Tryz.sizeOf4
  v4:=Tryz.zeroValue4
  t22:=Tryz.underlying34
  a22:=Tryz.isAgg34
  z22:=Tryz.sizeOf34
  v22:=Tryz.zeroValue34
  a23:=Tryz.isAgg3
  z23:=Tryz.sizeOf3 }
def Tryz.sort55_ren:Go.Shelf.Ren:=⟨fun|6=>55|15=>113|14=>112|28=>193|29=>194|20=>185|21=>186|22=>187|23=>188|24=>189|25=>190|26=>191|27=>192|46=>223|47=>224|48=>225|49=>226|50=>227|57=>246|n=>n,fun|22=>24|24=>34|25=>71|3=>3|39=>121|0=>0|53=>173|55=>92|4=>4|46=>167|45=>166|50=>45|5=>5|9=>9|66=>192|70=>196|76=>208|77=>209|n=>n,fun|n=>n⟩
theorem Tryz.sort55:Go.Proofs.SlLaysF.n6 Tryz.prog Tryz.sort55_ren:={
  mixed:=by kernel_rfl
  f6:=⟨Tryz.f55.name,by decide,Tryz.func55.trans (congrArg some (by kernel_rfl))⟩
  f14:=⟨Tryz.f112.name,by decide,Tryz.func112.trans (congrArg some (by kernel_rfl))⟩
  f15:=Tryz.func113.trans (congrArg some (by kernel_rfl))
  f20:=⟨Tryz.f185.name,by decide,Tryz.func185.trans (congrArg some (by kernel_rfl))⟩
  f21:=⟨Tryz.f186.name,by decide,Tryz.func186.trans (congrArg some (by kernel_rfl))⟩
  f22:=⟨Tryz.f187.name,by decide,Tryz.func187.trans (congrArg some (by kernel_rfl))⟩
  f23:=⟨Tryz.f188.name,by decide,Tryz.func188.trans (congrArg some (by kernel_rfl))⟩
  f24:=⟨Tryz.f189.name,by decide,Tryz.func189.trans (congrArg some (by kernel_rfl))⟩
  f25:=⟨Tryz.f190.name,by decide,Tryz.func190.trans (congrArg some (by kernel_rfl))⟩
  f26:=⟨Tryz.f191.name,by decide,Tryz.func191.trans (congrArg some (by kernel_rfl))⟩
  f27:=⟨Tryz.f192.name,by decide,Tryz.func192.trans (congrArg some (by kernel_rfl))⟩
  f28:=Tryz.func193.trans (congrArg some (by kernel_rfl))
  f29:=Tryz.func194.trans (congrArg some (by kernel_rfl))
  f46:=⟨Tryz.f223.name,by decide,Tryz.func223.trans (congrArg some (by kernel_rfl))⟩
  f47:=Tryz.func224.trans (congrArg some (by kernel_rfl))
  f48:=Tryz.func225.trans (congrArg some (by kernel_rfl))
  f49:=⟨Tryz.f226.name,by decide,Tryz.func226.trans (congrArg some (by kernel_rfl))⟩
  f50:=⟨Tryz.f227.name,by decide,Tryz.func227.trans (congrArg some (by kernel_rfl))⟩
  f57:=⟨Tryz.f246.name,by decide,Tryz.func246.trans (congrArg some (by kernel_rfl))⟩
  t0:=Tryz.underlying0
  a0:=Tryz.isAgg0
  z0:=Tryz.sizeOf0
  v0:=Tryz.zeroValue0
  t3:=Tryz.underlying3
  a3:=Tryz.isAgg3
  z3:=Tryz.sizeOf3
  v3:=Tryz.zeroValue3
  t4:=Tryz.underlying4
  a4:=Tryz.isAgg4
  z4:=Tryz.sizeOf4
  v4:=Tryz.zeroValue4
  t5:=Tryz.underlying5
  a5:=Tryz.isAgg5
  z5:=Tryz.sizeOf5
  v5:=Tryz.zeroValue5
  t9:=Tryz.underlying9
  a9:=Tryz.isAgg9
  z9:=Tryz.sizeOf9
  v9:=Tryz.zeroValue9
  t22:=Tryz.underlying24
  a22:=Tryz.isAgg24
  z22:=Tryz.sizeOf24
  v22:=Tryz.zeroValue24
  a24:=Tryz.isAgg34
  z24:=Tryz.sizeOf34
  t25:=Tryz.underlying71
  a25:=Tryz.isAgg71
  z25:=Tryz.sizeOf71
  v25:=Tryz.zeroValue71
  t39:=Tryz.underlying121
  a39:=Tryz.isAgg121
  z39:=Tryz.sizeOf121
  v39:=Tryz.zeroValue121
  t45:=Tryz.underlying166
  a45:=Tryz.isAgg166
  z45:=Tryz.sizeOf166
  v45:=Tryz.zeroValue166
  t46:=Tryz.underlying167
  a46:=Tryz.isAgg167
  z46:=Tryz.sizeOf167
  v46:=Tryz.zeroValue167
  t50:=Tryz.underlying45
  a50:=Tryz.isAgg45
  z50:=Tryz.sizeOf45
  v50:=Tryz.zeroValue45
  t53:=Tryz.underlying173
  a53:=Tryz.isAgg173
  z53:=Tryz.sizeOf173
  v53:=Tryz.zeroValue173
  t55:=Tryz.underlying92
  a55:=Tryz.isAgg92
  z55:=Tryz.sizeOf92
  v55:=Tryz.zeroValue92
  t66:=Tryz.underlying192
  a66:=Tryz.isAgg192
  z66:=Tryz.sizeOf192
  v66:=Tryz.zeroValue192
  t70:=Tryz.underlying196
  a70:=Tryz.isAgg196
  z70:=Tryz.sizeOf196
  v70:=Tryz.zeroValue196
  t76:=Tryz.underlying208
  a76:=Tryz.isAgg208
  z76:=Tryz.sizeOf208
  v76:=Tryz.zeroValue208
  t77:=Tryz.underlying209
  a77:=Tryz.isAgg209
  z77:=Tryz.sizeOf209
  v77:=Tryz.zeroValue209 }
end Go.Proofs
