/- The given statement FnFormulaCnfsSaid is proved: for all arguments that can be read as data the law returns true and leaves them as they were. No condition. -/
import Derived.Test.YtdkfkiifbagnnaaGreatFcWk3
import Derived.Test.YtdkfkiifbagnnaaGreatFcLA
import Derived.Test.YtdkfkiifbagnnaaGreatFcLB
import Derived.Test.YtdkfkiifbagnnaaGreatFcPB
import Derived.Test.YtdkfkiifbagnnaaGreatFcRf
import Derived.Test.YtdkfkiifbagnnaaGreatRows
set_option linter.unusedVariables false
namespace Go.Proofs.YtdkfkiifbagnnaaGreat
open Go.Mr Go.Pu Go.PF Go.RowKit Go.ChangeShapes Go.WideShapes Go.ChangeAt Go.Proofs
theorem cof41 : Tryz.prog.cellsOf 41 = 1 := by kernel_rfl
theorem cof5 : Tryz.prog.cellsOf 5 = 1 := by kernel_rfl
set_option maxRecDepth 100000 in
theorem lifted (os : Os) (started : os.Started) (H : Type) (enc : TypeId × Value → H) :
    ReturnsInHanded {} Tryz.checked os 8 .any (Rows.fnFormulaCnfsSpec.pre6 enc Tryz.prog Tryz.f8 Rows.fnFormulaCnfsRow.domain false) (Rows.fnFormulaCnfsSpec.post enc Tryz.prog Tryz.f8 false true false false) := by
  refine returnsInHanded_of_change (C := Tryz.checked) own started (by kernel_rfl) Tryz.func8
    (ChangeSpec.witness6 (enc := enc) (C := Tryz.checked) false ⟨#[], #[.slice none 0 0], []⟩ 8 (by kernel_rfl) (by kernel_rfl) (by kernel_rfl) (by kernel_rfl)) ?_
  intro W base args ds gs before hval0 hW _ _
  have hval : ∀ (j : Nat) t v, Tryz.f8.params[j]? = some t → args[j]? = some v → Value.okWide Tryz.prog W .any base t v := hval0
  have hW' := hW
  obtain ⟨p, q, hA0, hV, rfl, _, _⟩ := hW
  have hA : DataW.TrodAll enc Tryz.prog W 0 (fun _ => true) true Tryz.f8.params.toList args.toList ds p := hA0
  rw [Tryz.params8] at hA hval
  obtain ⟨v0, vs0, d0, ds0, p0, q0, hargs, rfl, rfl, h0, r0⟩ := trodAll_cons hA
  obtain ⟨rfl, rfl, rfl⟩ := trodAll_nil r0
  obtain rfl : args = #[v0] := by cases args; simp_all
  obtain ⟨rfl, rfl⟩ := trodVars_none hV
  have l0 : ∀ x ∈ p0, x.block < W.heap.size := fun x hx => hW'.lt x (by simp [hx])
  obtain ⟨a0, k0, o0⟩ := arg_slice Tryz.underlying41 cof5 (by decide) (RdT.u8 Tryz.underlying5) (hval 0 41 v0 rfl rfl) h0
  refine (w_laws_FnFormulaCnfs (sl_hpOf W) v0 a0 k0 (plain_FnFormulaCnfs a0 o0)).mono ?_
  rintro e W' ⟨rfl, hrun⟩
  exact ⟨_, rfl, post_law hW' rfl rfl rfl rfl Tryz.underlying4 (trodAll_cons_mk (trod_stays laidOut (by kernel_rfl) (of_decide_eq_true (by kernel_rfl)) hrun.bel l0 h0) trodAll_mk0) hrun.bel⟩
theorem fInp : (Rows.fnFormulaCnfsRow.inPlace == Tryz.pinned.checked.prog.inPlace 8) = true := by kernel_rfl
theorem fUnf : (Rows.fnFormulaCnfsRow.unfollowed == Tryz.pinned.checked.prog.unfollowed 8) = true := by kernel_rfl
theorem fRec : (Rows.fnFormulaCnfsRow.recurses == Tryz.pinned.checked.prog.recurses 8) = true := by kernel_rfl
theorem fNam : (Rows.fnFormulaCnfsRow.named == Tryz.pinned.checked.prog.varsNamed 8) = true := by kernel_rfl
theorem fAll : joinedFacts Tryz.pinned.checked.prog 8 Tryz.f8 Rows.fnFormulaCnfsSpec Rows.fnFormulaCnfsRow = true := by
  unfold joinedFacts
  rw [fMay, fHeard, fLift, fInp, fUnf, fRec, fNam]
  kernel_rfl
theorem over : Rows.fnFormulaCnfsRow.holds Tryz.pinned (OpenSpec.ofChange Rows.fnFormulaCnfsSpec) :=
  OpenClaim.holds_of_wide 8 Tryz.f8 rfl rfl rfl rfl rfl rfl rfl ⟨rfl, rfl, rfl, rfl, rfl⟩ rfl rfl rfl rfl rfl (by kernel_rfl) Tryz.func8 fAll
    (of_decide_eq_true (by kernel_rfl)) (by unfold Func.isWrapper; first | (rw [if_pos (by decide +kernel)]; kernel_rfl) | (rw [if_neg (by decide +kernel)]; exact ⟨rfl, rfl⟩))
    (fun os started H enc _ => lifted os started H enc)
/-- the statement -/
theorem proved : Rows.FnFormulaCnfsSaid := over
#print axioms proved

end Go.Proofs.YtdkfkiifbagnnaaGreat
