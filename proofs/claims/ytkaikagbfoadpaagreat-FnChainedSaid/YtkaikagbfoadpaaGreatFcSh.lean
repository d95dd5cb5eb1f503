/-
  DERIVED: THE SHELF's CONTRACTS AT THIS DUMP, IN PLAIN WORDS (tools/lay-plain.mjs out of 'YtkaikagbfoadpaaGreatShL.lean', which tools/lay-shelf.mjs wrote): THE SAME DECLARATIONS UNDER THE SAME NAMES: 'import', 'namespace', 'open', 'def', 'theorem' AND NOTHING ELSE: no command of the shelf's: FOR A HAND-IN. Each laying: the table of numbers ('.._ren') and one theorem, a field a fact of the dump's own or the kernel's comparison; each contract: ONE APPLICATION.
-/
import Derived.Shelf.SlSortCmp.NoneTotal
import Derived.Shelf.SlicesE.Delete
import Derived.Shelf.SlicesE.Reverse
import Derived.Shelf.SlicesE.Compact
import Derived.Shelf.Spec.SlicesGrow
import Derived.Ground.Names8Prog
import Derived.Ground.SlsfProg
import Derived.Ground.SlgnProg
import Derived.Shelf.Sort.Plain
import Derived.Shelf.Slices.In.SortNone
import Derived.Ground.NamesProg
import Derived.Test.YtkaikagbfoadpaaGreatProg
namespace Go.Proofs
open Go.Shelf
def Tryz.grow232_ren:Go.Shelf.Ren:=⟨fun|4=>232|n=>n,fun|22=>52|25=>3|3=>3|4=>4|9=>9|20=>20|0=>0|n=>n,fun|n=>n⟩
theorem Tryz.grow232:Go.Proofs.Lays8.n4 Tryz.prog Tryz.grow232_ren:={
  mixed:=by kernel_rfl
  f4:=⟨Tryz.f232.name,by decide,Tryz.func232.trans (congrArg some (by kernel_rfl))⟩
  t0:=Tryz.underlying0
  a0:=Tryz.isAgg0
  z0:=Tryz.sizeOf0
  v0:=Tryz.zeroValue0
  t3:=Tryz.underlying3
  a3:=Tryz.isAgg3
  z3:=Tryz.sizeOf3
  v3:=Tryz.zeroValue3
  t4:=Tryz.underlying4
  a4:=Tryz.isAgg4
  z4:=Tryz.sizeOf4
  v4:=Tryz.zeroValue4
  t9:=Tryz.underlying9
  a9:=Tryz.isAgg9
  z9:=Tryz.sizeOf9
  v9:=Tryz.zeroValue9
  t20:=Tryz.underlying20
  a20:=Tryz.isAgg20
  z20:=Tryz.sizeOf20
  v20:=Tryz.zeroValue20
  t22:=Tryz.underlying52
  a22:=Tryz.isAgg52
  z22:=Tryz.sizeOf52
  v22:=Tryz.zeroValue52 }
def Tryz.sort229_ren:Go.Shelf.Ren:=⟨fun|6=>229|15=>257|14=>256|28=>276|29=>277|20=>268|21=>269|22=>270|23=>271|24=>272|25=>273|26=>274|27=>275|46=>279|47=>280|48=>281|49=>282|50=>283|57=>284|n=>n,fun|22=>52|24=>3|25=>90|3=>3|39=>193|0=>0|53=>223|55=>101|4=>4|46=>240|45=>239|50=>33|5=>5|9=>9|66=>245|70=>249|76=>251|77=>252|n=>n,fun|n=>n⟩
theorem Tryz.sort229:Go.Proofs.SlLaysF.n6 Tryz.prog Tryz.sort229_ren:={
  mixed:=by kernel_rfl
  f6:=⟨Tryz.f229.name,by decide,Tryz.func229.trans (congrArg some (by kernel_rfl))⟩
  f14:=⟨Tryz.f256.name,by decide,Tryz.func256.trans (congrArg some (by kernel_rfl))⟩
  f15:=Tryz.func257.trans (congrArg some (by kernel_rfl))
  f20:=⟨Tryz.f268.name,by decide,Tryz.func268.trans (congrArg some (by kernel_rfl))⟩
  f21:=⟨Tryz.f269.name,by decide,Tryz.func269.trans (congrArg some (by kernel_rfl))⟩
  f22:=⟨Tryz.f270.name,by decide,Tryz.func270.trans (congrArg some (by kernel_rfl))⟩
  f23:=⟨Tryz.f271.name,by decide,Tryz.func271.trans (congrArg some (by kernel_rfl))⟩
  f24:=⟨Tryz.f272.name,by decide,Tryz.func272.trans (congrArg some (by kernel_rfl))⟩
  f25:=⟨Tryz.f273.name,by decide,Tryz.func273.trans (congrArg some (by kernel_rfl))⟩
  f26:=⟨Tryz.f274.name,by decide,Tryz.func274.trans (congrArg some (by kernel_rfl))⟩
  f27:=⟨Tryz.f275.name,by decide,Tryz.func275.trans (congrArg some (by kernel_rfl))⟩
  f28:=Tryz.func276.trans (congrArg some (by kernel_rfl))
  f29:=Tryz.func277.trans (congrArg some (by kernel_rfl))
  f46:=⟨Tryz.f279.name,by decide,Tryz.func279.trans (congrArg some (by kernel_rfl))⟩
  f47:=Tryz.func280.trans (congrArg some (by kernel_rfl))
  f48:=Tryz.func281.trans (congrArg some (by kernel_rfl))
  f49:=⟨Tryz.f282.name,by decide,Tryz.func282.trans (congrArg some (by kernel_rfl))⟩
  f50:=⟨Tryz.f283.name,by decide,Tryz.func283.trans (congrArg some (by kernel_rfl))⟩
  f57:=⟨Tryz.f284.name,by decide,Tryz.func284.trans (congrArg some (by kernel_rfl))⟩
  t0:=Tryz.underlying0
  a0:=Tryz.isAgg0
  z0:=Tryz.sizeOf0
  v0:=Tryz.zeroValue0
  t3:=Tryz.underlying3
  a3:=Tryz.isAgg3
  z3:=Tryz.sizeOf3
  v3:=Tryz.zeroValue3
  t4:=Tryz.underlying4
  a4:=Tryz.isAgg4
  z4:=Tryz.sizeOf4
  v4:=Tryz.zeroValue4
  t5:=Tryz.underlying5
  a5:=Tryz.isAgg5
  z5:=Tryz.sizeOf5
  v5:=Tryz.zeroValue5
  t9:=Tryz.underlying9
  a9:=Tryz.isAgg9
  z9:=Tryz.sizeOf9
  v9:=Tryz.zeroValue9
  t22:=Tryz.underlying52
  a22:=Tryz.isAgg52
  z22:=Tryz.sizeOf52
  v22:=Tryz.zeroValue52
  a24:=Tryz.isAgg3
  z24:=Tryz.sizeOf3
  t25:=Tryz.underlying90
  a25:=Tryz.isAgg90
  z25:=Tryz.sizeOf90
  v25:=Tryz.zeroValue90
  t39:=Tryz.underlying193
  a39:=Tryz.isAgg193
  z39:=Tryz.sizeOf193
  v39:=Tryz.zeroValue193
  t45:=Tryz.underlying239
  a45:=Tryz.isAgg239
  z45:=Tryz.sizeOf239
  v45:=Tryz.zeroValue239
  t46:=Tryz.underlying240
  a46:=Tryz.isAgg240
  z46:=Tryz.sizeOf240
  v46:=Tryz.zeroValue240
  t50:=Tryz.underlying33
  a50:=Tryz.isAgg33
  z50:=Tryz.sizeOf33
  v50:=Tryz.zeroValue33
  t53:=Tryz.underlying223
  a53:=Tryz.isAgg223
  z53:=Tryz.sizeOf223
  v53:=Tryz.zeroValue223
  t55:=Tryz.underlying101
  a55:=Tryz.isAgg101
  z55:=Tryz.sizeOf101
  v55:=Tryz.zeroValue101
  t66:=Tryz.underlying245
  a66:=Tryz.isAgg245
  z66:=Tryz.sizeOf245
  v66:=Tryz.zeroValue245
  t70:=Tryz.underlying249
  a70:=Tryz.isAgg249
  z70:=Tryz.sizeOf249
  v70:=Tryz.zeroValue249
  t76:=Tryz.underlying251
  a76:=Tryz.isAgg251
  z76:=Tryz.sizeOf251
  v76:=Tryz.zeroValue251
  t77:=Tryz.underlying252
  a77:=Tryz.isAgg252
  z77:=Tryz.sizeOf252
  v77:=Tryz.zeroValue252 }
def Tryz.comp231_ren:Go.Shelf.Ren:=⟨fun|43=>231|n=>n,fun|22=>52|23=>3|3=>3|4=>4|0=>0|n=>n,fun|n=>n⟩
theorem Tryz.comp231:Go.Proofs.SlLaysE.n43 Tryz.prog Tryz.comp231_ren:={
  mixed:=by kernel_rfl
  f43:=⟨Tryz.f231.name,by decide,Tryz.func231.trans (congrArg some (by kernel_rfl))⟩
  t0:=Tryz.underlying0
  a0:=Tryz.isAgg0
  z0:=Tryz.sizeOf0
  v0:=Tryz.zeroValue0
  t3:=Tryz.underlying3
  a3:=Tryz.isAgg3
  z3:=Tryz.sizeOf3
  v3:=Tryz.zeroValue3
  t4:=Tryz.underlying4
  a4:=Tryz.isAgg4
  z4:=Tryz.sizeOf4
  v4:=Tryz.zeroValue4
  t22:=Tryz.underlying52
  a22:=Tryz.isAgg52
  z22:=Tryz.sizeOf52
  v22:=Tryz.zeroValue52
  a23:=Tryz.isAgg3
  z23:=Tryz.sizeOf3 }
end Go.Proofs
