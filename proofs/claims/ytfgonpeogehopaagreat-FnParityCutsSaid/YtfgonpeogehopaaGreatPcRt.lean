/- The given statement FnParityCutsSaid is proved: for all arguments that can be read as data the law returns true and leaves them as they were. No condition. -/
import Derived.Test.YtfgonpeogehopaaGreatPcWk6
import Derived.Test.YtfgonpeogehopaaGreatPcLA
import Derived.Test.YtfgonpeogehopaaGreatPcLB
import Derived.Test.YtfgonpeogehopaaGreatPcPB
import Derived.Test.YtfgonpeogehopaaGreatPcRf
import Derived.Test.YtfgonpeogehopaaGreatRows
set_option linter.unusedVariables false
namespace Go.Proofs.YtfgonpeogehopaaGreat
open Go.Mr Go.Pu Go.PF Go.RowKit Go.ChangeShapes Go.WideShapes Go.ChangeAt Go.Proofs
theorem cof22 : Tryz.prog.cellsOf 22 = 1 := by kernel_rfl
theorem cof5 : Tryz.prog.cellsOf 5 = 1 := by kernel_rfl
set_option maxRecDepth 100000 in
theorem lifted (os : Os) (started : os.Started) (H : Type) (enc : TypeId × Value → H) :
    ReturnsInHanded {} Tryz.checked os 3 .any (Rows.fnParityCutsSpec.pre6 enc Tryz.prog Tryz.f3 Rows.fnParityCutsRow.domain false) (Rows.fnParityCutsSpec.post enc Tryz.prog Tryz.f3 false true false false) := by
  refine returnsInHanded_of_change (C := Tryz.checked) own started (by kernel_rfl) Tryz.func3
    (ChangeSpec.witness6 (enc := enc) (C := Tryz.checked) false ⟨#[], #[.slice none 0 0], []⟩ 8 (by kernel_rfl) (by kernel_rfl) (by kernel_rfl) (by kernel_rfl)) ?_
  intro W base args ds gs before hval0 hW _ _
  have hval : ∀ (j : Nat) t v, Tryz.f3.params[j]? = some t → args[j]? = some v → Value.okWide Tryz.prog W .any base t v := hval0
  have hW' := hW
  obtain ⟨p, q, hA0, hV, rfl, _, _⟩ := hW
  have hA : DataW.TrodAll enc Tryz.prog W 0 (fun _ => true) true Tryz.f3.params.toList args.toList ds p := hA0
  rw [Tryz.params3] at hA hval
  obtain ⟨v0, vs0, d0, ds0, p0, q0, hargs, rfl, rfl, h0, r0⟩ := trodAll_cons hA
  obtain ⟨rfl, rfl, rfl⟩ := trodAll_nil r0
  obtain rfl : args = #[v0] := by cases args; simp_all
  obtain ⟨rfl, rfl⟩ := trodVars_none hV
  have l0 : ∀ x ∈ p0, x.block < W.heap.size := fun x hx => hW'.lt x (by simp [hx])
  obtain ⟨a0, k0, o0⟩ := arg_slice Tryz.underlying22 cof5 (by decide) (RdT.u8 Tryz.underlying5) (hval 0 22 v0 rfl rfl) h0
  refine (w_laws_FnParityCuts (sl_hpOf W) v0 a0 k0 (plain_FnParityCuts a0 o0)).mono ?_
  rintro e W' ⟨rfl, hrun⟩
  exact ⟨_, rfl, post_law hW' rfl rfl rfl rfl Tryz.underlying4 (trodAll_cons_mk (trod_stays laidOut (by kernel_rfl) (of_decide_eq_true (by kernel_rfl)) hrun.bel l0 h0) trodAll_mk0) hrun.bel⟩
theorem fInp : (Rows.fnParityCutsRow.inPlace == Tryz.pinned.checked.prog.inPlace 3) = true := by kernel_rfl
theorem fUnf : (Rows.fnParityCutsRow.unfollowed == Tryz.pinned.checked.prog.unfollowed 3) = true := by kernel_rfl
theorem fRec : (Rows.fnParityCutsRow.recurses == Tryz.pinned.checked.prog.recurses 3) = true := by kernel_rfl
theorem fNam : (Rows.fnParityCutsRow.named == Tryz.pinned.checked.prog.varsNamed 3) = true := by kernel_rfl
theorem fAll : joinedFacts Tryz.pinned.checked.prog 3 Tryz.f3 Rows.fnParityCutsSpec Rows.fnParityCutsRow = true := by
  unfold joinedFacts
  rw [fMay, fHeard, fLift, fInp, fUnf, fRec, fNam]
  kernel_rfl
theorem over : Rows.fnParityCutsRow.holds Tryz.pinned (OpenSpec.ofChange Rows.fnParityCutsSpec) :=
  OpenClaim.holds_of_wide 3 Tryz.f3 rfl rfl rfl rfl rfl rfl rfl ⟨rfl, rfl, rfl, rfl, rfl⟩ rfl rfl rfl rfl rfl (by kernel_rfl) Tryz.func3 fAll
    (of_decide_eq_true (by kernel_rfl)) (by unfold Func.isWrapper; first | (rw [if_pos (by decide +kernel)]; kernel_rfl) | (rw [if_neg (by decide +kernel)]; exact ⟨rfl, rfl⟩))
    (fun os started H enc _ => lifted os started H enc)
/-- the statement -/
theorem proved : Rows.FnParityCutsSaid := over
#print axioms proved

end Go.Proofs.YtfgonpeogehopaaGreat
