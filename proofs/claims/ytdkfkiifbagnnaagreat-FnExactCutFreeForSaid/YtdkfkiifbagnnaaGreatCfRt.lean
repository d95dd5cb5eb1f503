/- The given statement FnExactCutFreeForSaid is proved: for all arguments that can be read as data the law returns true and leaves them as they were. No condition. -/
import Derived.Test.YtdkfkiifbagnnaaGreatCfWk3
import Derived.Test.YtdkfkiifbagnnaaGreatCfLA
import Derived.Test.YtdkfkiifbagnnaaGreatCfLB
import Derived.Test.YtdkfkiifbagnnaaGreatCfLC
import Derived.Test.YtdkfkiifbagnnaaGreatCfPA
import Derived.Test.YtdkfkiifbagnnaaGreatCfRf
import Derived.Test.YtdkfkiifbagnnaaGreatRows
set_option linter.unusedVariables false
namespace Go.Proofs.YtdkfkiifbagnnaaGreat
open Go.Mr Go.Pu Go.PF Go.RowKit Go.ChangeShapes Go.WideShapes Go.ChangeAt Go.Proofs
theorem cof22 : Tryz.prog.cellsOf 22 = 1 := by kernel_rfl
theorem cof9 : Tryz.prog.cellsOf 9 = 1 := by kernel_rfl
set_option maxRecDepth 100000 in
theorem lifted (os : Os) (started : os.Started) (H : Type) (enc : TypeId × Value → H) :
    ReturnsInHanded {} Tryz.checked os 3 .any (Rows.fnExactCutFreeForSpec.pre6 enc Tryz.prog Tryz.f3 Rows.fnExactCutFreeForRow.domain false) (Rows.fnExactCutFreeForSpec.post enc Tryz.prog Tryz.f3 false true false false) := by
  refine returnsInHanded_of_change (C := Tryz.checked) own started (by kernel_rfl) Tryz.func3
    (ChangeSpec.witness6 (enc := enc) (C := Tryz.checked) false ⟨#[], #[.slice none 0 0, .string ByteArray.empty], []⟩ 8 (by kernel_rfl) (by kernel_rfl) (by kernel_rfl) (by kernel_rfl)) ?_
  intro W base args ds gs before hval0 hW _ _
  have hval : ∀ (j : Nat) t v, Tryz.f3.params[j]? = some t → args[j]? = some v → Value.okWide Tryz.prog W .any base t v := hval0
  have hW' := hW
  obtain ⟨p, q, hA0, hV, rfl, _, _⟩ := hW
  have hA : DataW.TrodAll enc Tryz.prog W 0 (fun _ => true) true Tryz.f3.params.toList args.toList ds p := hA0
  rw [Tryz.params3] at hA hval
  obtain ⟨v0, vs0, d0, ds0, p0, q0, hargs, rfl, rfl, h0, r0⟩ := trodAll_cons hA
  obtain ⟨v1, vs1, d1, ds1, p1, q1, rfl, rfl, rfl, h1, r1⟩ := trodAll_cons r0
  obtain ⟨rfl, rfl, rfl⟩ := trodAll_nil r1
  obtain rfl : args = #[v0, v1] := by cases args; simp_all
  obtain ⟨rfl, rfl⟩ := trodVars_none hV
  have l0 : ∀ x ∈ p0, x.block < W.heap.size := fun x hx => hW'.lt x (by simp [hx])
  have l1 : ∀ x ∈ p1, x.block < W.heap.size := fun x hx => hW'.lt x (by simp [hx])
  obtain ⟨a0, k0, o0⟩ := arg_slice Tryz.underlying22 cof9 (by decide) (RdT.stringS Tryz.underlying9) (hval 0 22 v0 rfl rfl) h0
  obtain ⟨a1, rfl, o1⟩ := arg_string Tryz.underlying9 (hval 1 9 v1 rfl rfl) h1
  refine (w_laws_FnExactCutFreeFor (sl_hpOf W) v0 a0 k0 a1 (plain_CutFreeFor a0 a1 o0 o1)).mono ?_
  rintro e W' ⟨rfl, hrun⟩
  exact ⟨_, rfl, post_law hW' rfl rfl rfl rfl Tryz.underlying4 (trodAll_cons_mk (trod_stays laidOut (by kernel_rfl) (of_decide_eq_true (by kernel_rfl)) hrun.bel l0 h0) (trodAll_cons_mk (trod_stays laidOut (by kernel_rfl) (of_decide_eq_true (by kernel_rfl)) hrun.bel l1 h1) trodAll_mk0)) hrun.bel⟩
theorem fInp : (Rows.fnExactCutFreeForRow.inPlace == Tryz.pinned.checked.prog.inPlace 3) = true := by kernel_rfl
theorem fUnf : (Rows.fnExactCutFreeForRow.unfollowed == Tryz.pinned.checked.prog.unfollowed 3) = true := by kernel_rfl
theorem fRec : (Rows.fnExactCutFreeForRow.recurses == Tryz.pinned.checked.prog.recurses 3) = true := by kernel_rfl
theorem fNam : (Rows.fnExactCutFreeForRow.named == Tryz.pinned.checked.prog.varsNamed 3) = true := by kernel_rfl
theorem fAll : joinedFacts Tryz.pinned.checked.prog 3 Tryz.f3 Rows.fnExactCutFreeForSpec Rows.fnExactCutFreeForRow = true := by
  unfold joinedFacts
  rw [fMay, fHeard, fLift, fInp, fUnf, fRec, fNam]
  kernel_rfl
theorem over : Rows.fnExactCutFreeForRow.holds Tryz.pinned (OpenSpec.ofChange Rows.fnExactCutFreeForSpec) :=
  OpenClaim.holds_of_wide 3 Tryz.f3 rfl rfl rfl rfl rfl rfl rfl ⟨rfl, rfl, rfl, rfl, rfl⟩ rfl rfl rfl rfl rfl (by kernel_rfl) Tryz.func3 fAll
    (of_decide_eq_true (by kernel_rfl)) (by unfold Func.isWrapper; first | (rw [if_pos (by decide +kernel)]; kernel_rfl) | (rw [if_neg (by decide +kernel)]; exact ⟨rfl, rfl⟩))
    (fun os started H enc _ => lifted os started H enc)
/-- the statement -/
theorem proved : Rows.FnExactCutFreeForSaid := over
#print axioms proved

end Go.Proofs.YtdkfkiifbagnnaaGreat
