/- The given statement FnExactTrimSeqSaid is proved: for all arguments that can be read as data the law returns true and leaves them as they were. No condition. -/
import Derived.Test.YtdkfkiifbagnnaaGreatTsWk4
import Derived.Test.YtdkfkiifbagnnaaGreatTsLA
import Derived.Test.YtdkfkiifbagnnaaGreatTsLB
import Derived.Test.YtdkfkiifbagnnaaGreatTsPB
import Derived.Test.YtdkfkiifbagnnaaGreatTsRf
import Derived.Test.YtdkfkiifbagnnaaGreatRows
set_option linter.unusedVariables false
namespace Go.Proofs.YtdkfkiifbagnnaaGreat
open Go.Mr Go.Pu Go.PF Go.RowKit Go.ChangeShapes Go.WideShapes Go.ChangeAt Go.Proofs
theorem cof32 : Tryz.prog.cellsOf 32 = 1 := by kernel_rfl
theorem cof79 : Tryz.prog.cellsOf 79 = 6 := by kernel_rfl
theorem cof77 : Tryz.prog.cellsOf 77 = 2 := by kernel_rfl
theorem cof22 : Tryz.prog.cellsOf 22 = 1 := by kernel_rfl
theorem cof9 : Tryz.prog.cellsOf 9 = 1 := by kernel_rfl
set_option maxRecDepth 100000 in
theorem rd77 {w : World} : RdT Tryz.prog w 77 eSequent okSequent := fun {H enc base spare held fuel cs x} h => by
  obtain ⟨xs, n, rfl, _, hl, hn, hf⟩ := DataW.trod_struct Tryz.underlying77 h
  rw [cof77] at hl
  match cs, hl, hf with
  | [c0, c1], _, hf =>
  have g0 := hf 0 _ rfl
  rw [List.getElem?_eq_getElem (by rw [hn]; decide)] at g0
  obtain ⟨y0, r0, o0⟩ := (RdT.slice Tryz.underlying22 (cof9) (by decide) (RdT.stringS Tryz.underlying9)) g0
  have r0 : (eL eS 1).rel (hpOf w) (List.take (Tryz.prog.cellsOf 22) (List.drop 0 [c0, c1])) y0 := r0
  rw [cof22] at r0
  have r0 : (eL eS 1).rel (hpOf w) [c0] y0 := r0
  obtain ⟨v0, e0, k0⟩ := eL_open r0
  have g1 := hf 1 _ rfl
  rw [List.getElem?_eq_getElem (by rw [hn]; decide)] at g1
  obtain ⟨y1, r1, o1⟩ := (RdT.slice Tryz.underlying22 (cof9) (by decide) (RdT.stringS Tryz.underlying9)) g1
  have r1 : (eL eS 1).rel (hpOf w) (List.take (Tryz.prog.cellsOf 22) (List.drop 1 [c0, c1])) y1 := r1
  rw [cof22] at r1
  have r1 : (eL eS 1).rel (hpOf w) [c1] y1 := r1
  obtain ⟨v1, e1, k1⟩ := eL_open r1
  cases e0
  cases e1
  exact ⟨⟨y0, y1⟩, ⟨_, _, rfl, k0, k1⟩, o0, o1⟩
theorem cof3 : Tryz.prog.cellsOf 3 = 1 := by kernel_rfl
set_option maxRecDepth 100000 in
theorem rd79 {w : World} : RdT Tryz.prog w 79 eSeqStep okSeqStep := fun {H enc base spare held fuel cs x} h => by
  obtain ⟨xs, n, rfl, _, hl, hn, hf⟩ := DataW.trod_struct Tryz.underlying79 h
  rw [cof79] at hl
  match cs, hl, hf with
  | [c0, c1, c2, c3, c4, c5], _, hf =>
  have g0 := hf 0 _ rfl
  rw [List.getElem?_eq_getElem (by rw [hn]; decide)] at g0
  obtain ⟨y0, r0, o0⟩ := rd77 g0
  have r0 : eSequent.rel (hpOf w) (List.take (Tryz.prog.cellsOf 77) (List.drop 0 [c0, c1, c2, c3, c4, c5])) y0 := r0
  rw [cof77] at r0
  have r0 : eSequent.rel (hpOf w) [c0, c1] y0 := r0
  obtain ⟨v0_0, v0_1, e0, k0_0, k0_1⟩ := eSequent_open r0
  have g1 := hf 1 _ rfl
  rw [List.getElem?_eq_getElem (by rw [hn]; decide)] at g1
  obtain ⟨y1, r1, o1⟩ := (RdT.int Tryz.underlying3) g1
  have r1 : eI.rel (hpOf w) (List.take (Tryz.prog.cellsOf 3) (List.drop 2 [c0, c1, c2, c3, c4, c5])) y1 := r1
  rw [cof3] at r1
  have r1 : eI.rel (hpOf w) [c2] y1 := r1
  have e1 := eI_open r1
  have g2 := hf 2 _ rfl
  rw [List.getElem?_eq_getElem (by rw [hn]; decide)] at g2
  obtain ⟨y2, r2, o2⟩ := (RdT.stringS Tryz.underlying9) g2
  have r2 : eS.rel (hpOf w) (List.take (Tryz.prog.cellsOf 9) (List.drop 3 [c0, c1, c2, c3, c4, c5])) y2 := r2
  rw [cof9] at r2
  have r2 : eS.rel (hpOf w) [c3] y2 := r2
  have e2 := eS_open r2
  have g3 := hf 3 _ rfl
  rw [List.getElem?_eq_getElem (by rw [hn]; decide)] at g3
  obtain ⟨y3, r3, o3⟩ := (RdT.int Tryz.underlying3) g3
  have r3 : eI.rel (hpOf w) (List.take (Tryz.prog.cellsOf 3) (List.drop 4 [c0, c1, c2, c3, c4, c5])) y3 := r3
  rw [cof3] at r3
  have r3 : eI.rel (hpOf w) [c4] y3 := r3
  have e3 := eI_open r3
  have g4 := hf 4 _ rfl
  rw [List.getElem?_eq_getElem (by rw [hn]; decide)] at g4
  obtain ⟨y4, r4, o4⟩ := (RdT.int Tryz.underlying3) g4
  have r4 : eI.rel (hpOf w) (List.take (Tryz.prog.cellsOf 3) (List.drop 5 [c0, c1, c2, c3, c4, c5])) y4 := r4
  rw [cof3] at r4
  have r4 : eI.rel (hpOf w) [c5] y4 := r4
  have e4 := eI_open r4
  cases e0
  cases e1
  cases e2
  cases e3
  cases e4
  exact ⟨⟨y0, y1, y2, y3, y4⟩, ⟨_, _, rfl, k0_0, k0_1⟩, o0, o1, o2, o3, o4⟩
set_option maxRecDepth 100000 in
theorem lifted (os : Os) (started : os.Started) (H : Type) (enc : TypeId × Value → H) :
    ReturnsInHanded {} Tryz.checked os 4 .any (Rows.fnExactTrimSeqSpec.pre6 enc Tryz.prog Tryz.f4 Rows.fnExactTrimSeqRow.domain false) (Rows.fnExactTrimSeqSpec.post enc Tryz.prog Tryz.f4 false true false false) := by
  refine returnsInHanded_of_change (C := Tryz.checked) own started (by kernel_rfl) Tryz.func4
    (ChangeSpec.witness6 (enc := enc) (C := Tryz.checked) false ⟨#[], #[.slice none 0 0], []⟩ 8 (by kernel_rfl) (by kernel_rfl) (by kernel_rfl) (by kernel_rfl)) ?_
  intro W base args ds gs before hval0 hW _ _
  have hval : ∀ (j : Nat) t v, Tryz.f4.params[j]? = some t → args[j]? = some v → Value.okWide Tryz.prog W .any base t v := hval0
  have hW' := hW
  obtain ⟨p, q, hA0, hV, rfl, _, _⟩ := hW
  have hA : DataW.TrodAll enc Tryz.prog W 0 (fun _ => true) true Tryz.f4.params.toList args.toList ds p := hA0
  rw [Tryz.params4] at hA hval
  obtain ⟨v0, vs0, d0, ds0, p0, q0, hargs, rfl, rfl, h0, r0⟩ := trodAll_cons hA
  obtain ⟨rfl, rfl, rfl⟩ := trodAll_nil r0
  obtain rfl : args = #[v0] := by cases args; simp_all
  obtain ⟨rfl, rfl⟩ := trodVars_none hV
  have l0 : ∀ x ∈ p0, x.block < W.heap.size := fun x hx => hW'.lt x (by simp [hx])
  obtain ⟨a0, k0, o0⟩ := arg_slice Tryz.underlying32 cof79 (by decide) rd79 (hval 0 32 v0 rfl rfl) h0
  refine (w_laws_FnExactTrimSeq (sl_hpOf W) v0 a0 k0 (plain_TrimSeq a0 o0)).mono ?_
  rintro e W' ⟨rfl, hrun⟩
  exact ⟨_, rfl, post_law hW' rfl rfl rfl rfl Tryz.underlying4 (trodAll_cons_mk (trod_stays laidOut (by kernel_rfl) (of_decide_eq_true (by kernel_rfl)) hrun.bel l0 h0) trodAll_mk0) hrun.bel⟩
theorem fInp : (Rows.fnExactTrimSeqRow.inPlace == Tryz.pinned.checked.prog.inPlace 4) = true := by kernel_rfl
theorem fUnf : (Rows.fnExactTrimSeqRow.unfollowed == Tryz.pinned.checked.prog.unfollowed 4) = true := by kernel_rfl
theorem fRec : (Rows.fnExactTrimSeqRow.recurses == Tryz.pinned.checked.prog.recurses 4) = true := by kernel_rfl
theorem fNam : (Rows.fnExactTrimSeqRow.named == Tryz.pinned.checked.prog.varsNamed 4) = true := by kernel_rfl
theorem fAll : joinedFacts Tryz.pinned.checked.prog 4 Tryz.f4 Rows.fnExactTrimSeqSpec Rows.fnExactTrimSeqRow = true := by
  unfold joinedFacts
  rw [fMay, fHeard, fLift, fInp, fUnf, fRec, fNam]
  kernel_rfl
theorem over : Rows.fnExactTrimSeqRow.holds Tryz.pinned (OpenSpec.ofChange Rows.fnExactTrimSeqSpec) :=
  OpenClaim.holds_of_wide 4 Tryz.f4 rfl rfl rfl rfl rfl rfl rfl ⟨rfl, rfl, rfl, rfl, rfl⟩ rfl rfl rfl rfl rfl (by kernel_rfl) Tryz.func4 fAll
    (of_decide_eq_true (by kernel_rfl)) (by unfold Func.isWrapper; first | (rw [if_pos (by decide +kernel)]; kernel_rfl) | (rw [if_neg (by decide +kernel)]; exact ⟨rfl, rfl⟩))
    (fun os started H enc _ => lifted os started H enc)
/-- the statement -/
theorem proved : Rows.FnExactTrimSeqSaid := over
#print axioms proved

end Go.Proofs.YtdkfkiifbagnnaaGreat
