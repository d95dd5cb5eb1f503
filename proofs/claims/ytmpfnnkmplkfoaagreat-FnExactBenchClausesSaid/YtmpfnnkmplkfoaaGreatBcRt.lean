/- The given statement FnExactBenchClausesSaid is proved: for all arguments that can be read as data the law returns true and leaves them as they were. No condition. -/
import Derived.Test.YtmpfnnkmplkfoaaGreatBcWk2
import Derived.Test.YtmpfnnkmplkfoaaGreatMr15
import Derived.Test.YtmpfnnkmplkfoaaGreatBcPlBc
import Derived.Test.YtmpfnnkmplkfoaaGreatBcRf
import Derived.Test.YtmpfnnkmplkfoaaGreatRows
set_option linter.unusedVariables false
namespace Go.Proofs.YtmpfnnkmplkfoaaGreat
open Go.Mr Go.Pu Go.PF Go.RowKit Go.ChangeShapes Go.WideShapes Go.ChangeAt Go.Proofs
theorem cof43 : Tryz.prog.cellsOf 43 = 6 := by kernel_rfl
theorem cof3 : Tryz.prog.cellsOf 3 = 1 := by kernel_rfl
theorem cof24 : Tryz.prog.cellsOf 24 = 2 := by kernel_rfl
theorem cof22 : Tryz.prog.cellsOf 22 = 1 := by kernel_rfl
theorem cof84 : Tryz.prog.cellsOf 84 = 1 := by kernel_rfl
set_option maxRecDepth 100000 in
theorem rd24 {w : World} : RdT Tryz.prog w 24 eCnf okCnf := fun {H enc base spare held fuel cs x} h => by
  obtain ⟨xs, n, rfl, _, hl, hn, hf⟩ := DataW.trod_struct Tryz.underlying24 h
  rw [cof24] at hl
  match cs, hl, hf with
  | [c0, c1], _, hf =>
  have g0 := hf 0 _ rfl
  rw [List.getElem?_eq_getElem (by rw [hn]; decide)] at g0
  obtain ⟨y0, r0, o0⟩ := (RdT.int Tryz.underlying3) g0
  have r0 : eI.rel (hpOf w) (List.take (Tryz.prog.cellsOf 3) (List.drop 0 [c0, c1])) y0 := r0
  rw [cof3] at r0
  have r0 : eI.rel (hpOf w) [c0] y0 := r0
  have e0 := eI_open r0
  have g1 := hf 1 _ rfl
  rw [List.getElem?_eq_getElem (by rw [hn]; decide)] at g1
  obtain ⟨y1, r1, o1⟩ := (RdT.slice Tryz.underlying22 (cof84) (by decide) (RdT.slice Tryz.underlying84 (cof3) (by decide) (RdT.int Tryz.underlying3))) g1
  have r1 : (eL (eL eI 1) 1).rel (hpOf w) (List.take (Tryz.prog.cellsOf 22) (List.drop 1 [c0, c1])) y1 := r1
  rw [cof22] at r1
  have r1 : (eL (eL eI 1) 1).rel (hpOf w) [c1] y1 := r1
  obtain ⟨v1, e1, k1⟩ := eL_open r1
  cases e0
  cases e1
  exact ⟨⟨y0, y1⟩, ⟨_, rfl, k1⟩, o0, o1⟩
theorem cof41 : Tryz.prog.cellsOf 41 = 1 := by kernel_rfl
theorem cof108 : Tryz.prog.cellsOf 108 = 4 := by kernel_rfl
set_option maxRecDepth 100000 in
theorem rd108 {w : World} : RdT Tryz.prog w 108 eResStep okResStep := fun {H enc base spare held fuel cs x} h => by
  obtain ⟨xs, n, rfl, _, hl, hn, hf⟩ := DataW.trod_struct Tryz.underlying108 h
  rw [cof108] at hl
  match cs, hl, hf with
  | [c0, c1, c2, c3], _, hf =>
  have g0 := hf 0 _ rfl
  rw [List.getElem?_eq_getElem (by rw [hn]; decide)] at g0
  obtain ⟨y0, r0, o0⟩ := (RdT.slice Tryz.underlying84 (cof3) (by decide) (RdT.int Tryz.underlying3)) g0
  have r0 : (eL eI 1).rel (hpOf w) (List.take (Tryz.prog.cellsOf 84) (List.drop 0 [c0, c1, c2, c3])) y0 := r0
  rw [cof84] at r0
  have r0 : (eL eI 1).rel (hpOf w) [c0] y0 := r0
  obtain ⟨v0, e0, k0⟩ := eL_open r0
  have g1 := hf 1 _ rfl
  rw [List.getElem?_eq_getElem (by rw [hn]; decide)] at g1
  obtain ⟨y1, r1, o1⟩ := (RdT.int Tryz.underlying3) g1
  have r1 : eI.rel (hpOf w) (List.take (Tryz.prog.cellsOf 3) (List.drop 1 [c0, c1, c2, c3])) y1 := r1
  rw [cof3] at r1
  have r1 : eI.rel (hpOf w) [c1] y1 := r1
  have e1 := eI_open r1
  have g2 := hf 2 _ rfl
  rw [List.getElem?_eq_getElem (by rw [hn]; decide)] at g2
  obtain ⟨y2, r2, o2⟩ := (RdT.int Tryz.underlying3) g2
  have r2 : eI.rel (hpOf w) (List.take (Tryz.prog.cellsOf 3) (List.drop 2 [c0, c1, c2, c3])) y2 := r2
  rw [cof3] at r2
  have r2 : eI.rel (hpOf w) [c2] y2 := r2
  have e2 := eI_open r2
  have g3 := hf 3 _ rfl
  rw [List.getElem?_eq_getElem (by rw [hn]; decide)] at g3
  obtain ⟨y3, r3, o3⟩ := (RdT.int Tryz.underlying3) g3
  have r3 : eI.rel (hpOf w) (List.take (Tryz.prog.cellsOf 3) (List.drop 3 [c0, c1, c2, c3])) y3 := r3
  rw [cof3] at r3
  have r3 : eI.rel (hpOf w) [c3] y3 := r3
  have e3 := eI_open r3
  cases e0
  cases e1
  cases e2
  cases e3
  exact ⟨⟨y0, y1, y2, y3⟩, ⟨_, rfl, k0⟩, o0, o1, o2, o3⟩
set_option maxRecDepth 100000 in
theorem rd43 {w : World} : RdT Tryz.prog w 43 eBench okBench := fun {H enc base spare held fuel cs x} h => by
  obtain ⟨xs, n, rfl, _, hl, hn, hf⟩ := DataW.trod_struct Tryz.underlying43 h
  rw [cof43] at hl
  match cs, hl, hf with
  | [c0, c1, c2, c3, c4, c5], _, hf =>
  have g0 := hf 0 _ rfl
  rw [List.getElem?_eq_getElem (by rw [hn]; decide)] at g0
  obtain ⟨y0, r0, o0⟩ := (RdT.int Tryz.underlying3) g0
  have r0 : eI.rel (hpOf w) (List.take (Tryz.prog.cellsOf 3) (List.drop 0 [c0, c1, c2, c3, c4, c5])) y0 := r0
  rw [cof3] at r0
  have r0 : eI.rel (hpOf w) [c0] y0 := r0
  have e0 := eI_open r0
  have g1 := hf 1 _ rfl
  rw [List.getElem?_eq_getElem (by rw [hn]; decide)] at g1
  obtain ⟨y1, r1, o1⟩ := rd24 g1
  have r1 : eCnf.rel (hpOf w) (List.take (Tryz.prog.cellsOf 24) (List.drop 1 [c0, c1, c2, c3, c4, c5])) y1 := r1
  rw [cof24] at r1
  have r1 : eCnf.rel (hpOf w) [c1, c2] y1 := r1
  obtain ⟨v1_0, e1, k1_0⟩ := eCnf_open r1
  have g2 := hf 2 _ rfl
  rw [List.getElem?_eq_getElem (by rw [hn]; decide)] at g2
  obtain ⟨y2, r2, o2⟩ := (RdT.slice Tryz.underlying41 (cof108) (by decide) rd108) g2
  have r2 : (eL eResStep 4).rel (hpOf w) (List.take (Tryz.prog.cellsOf 41) (List.drop 3 [c0, c1, c2, c3, c4, c5])) y2 := r2
  rw [cof41] at r2
  have r2 : (eL eResStep 4).rel (hpOf w) [c3] y2 := r2
  obtain ⟨v2, e2, k2⟩ := eL_open r2
  have g3 := hf 3 _ rfl
  rw [List.getElem?_eq_getElem (by rw [hn]; decide)] at g3
  obtain ⟨y3, r3, o3⟩ := (RdT.int Tryz.underlying3) g3
  have r3 : eI.rel (hpOf w) (List.take (Tryz.prog.cellsOf 3) (List.drop 4 [c0, c1, c2, c3, c4, c5])) y3 := r3
  rw [cof3] at r3
  have r3 : eI.rel (hpOf w) [c4] y3 := r3
  have e3 := eI_open r3
  have g4 := hf 4 _ rfl
  rw [List.getElem?_eq_getElem (by rw [hn]; decide)] at g4
  obtain ⟨y4, r4, o4⟩ := (RdT.int Tryz.underlying3) g4
  have r4 : eI.rel (hpOf w) (List.take (Tryz.prog.cellsOf 3) (List.drop 5 [c0, c1, c2, c3, c4, c5])) y4 := r4
  rw [cof3] at r4
  have r4 : eI.rel (hpOf w) [c5] y4 := r4
  have e4 := eI_open r4
  cases e0
  cases e1
  cases e2
  cases e3
  cases e4
  exact ⟨⟨y0, y1, y2, y3, y4⟩, ⟨_, _, rfl, k1_0, k2⟩, o0, o1, o2, o3, o4⟩
set_option maxRecDepth 100000 in
theorem lifted (os : Os) (started : os.Started) (H : Type) (enc : TypeId × Value → H) :
    ReturnsInHanded {} Tryz.checked os 4 .any (Rows.fnExactBenchClausesSpec.pre6 enc Tryz.prog Tryz.f4 Rows.fnExactBenchClausesRow.domain false) (Rows.fnExactBenchClausesSpec.post enc Tryz.prog Tryz.f4 false true false false) := by
  refine returnsInHanded_of_change (C := Tryz.checked) own started (by kernel_rfl) Tryz.func4
    (ChangeSpec.witness6 (enc := enc) (C := Tryz.checked) false ⟨#[], #[.agg #[.int .i64 0, .int .i64 0, .slice none 0 0, .slice none 0 0, .int .i64 0, .int .i64 0]], []⟩ 8 (by kernel_rfl) (by kernel_rfl) (by kernel_rfl) (by kernel_rfl)) ?_
  intro W base args ds gs before hval0 hW _ _
  have hval : ∀ (j : Nat) t v, Tryz.f4.params[j]? = some t → args[j]? = some v → Value.okWide Tryz.prog W .any base t v := hval0
  have hW' := hW
  obtain ⟨p, q, hA0, hV, rfl, _, _⟩ := hW
  have hA : DataW.TrodAll enc Tryz.prog W 0 (fun _ => true) true Tryz.f4.params.toList args.toList ds p := hA0
  rw [Tryz.params4] at hA hval
  obtain ⟨v0, vs0, d0, ds0, p0, q0, hargs, rfl, rfl, h0, r0⟩ := trodAll_cons hA
  obtain ⟨rfl, rfl, rfl⟩ := trodAll_nil r0
  obtain rfl : args = #[v0] := by cases args; simp_all
  obtain ⟨rfl, rfl⟩ := trodVars_none hV
  have l0 : ∀ x ∈ p0, x.block < W.heap.size := fun x hx => hW'.lt x (by simp [hx])
  obtain ⟨a0, cs0, rfl, e0, o0⟩ := arg_struct Tryz.underlying43 rd43 (hval 0 43 v0 rfl rfl) h0
  obtain ⟨u0_0, u0_1, rfl, k0_0, k0_1⟩ := eBench_open e0
  refine (w_laws_FnExactBenchClauses (sl_hpOf W) a0 u0_0 k0_0 u0_1 k0_1 (plain_BenchClauses a0 o0)).mono ?_
  rintro e W' ⟨rfl, hrun⟩
  exact ⟨_, rfl, post_law hW' rfl rfl rfl rfl Tryz.underlying4 (trodAll_cons_mk (trod_stays laidOut (by kernel_rfl) (of_decide_eq_true (by kernel_rfl)) hrun.bel l0 h0) trodAll_mk0) hrun.bel⟩
theorem fInp : (Rows.fnExactBenchClausesRow.inPlace == Tryz.pinned.checked.prog.inPlace 4) = true := by kernel_rfl
theorem fUnf : (Rows.fnExactBenchClausesRow.unfollowed == Tryz.pinned.checked.prog.unfollowed 4) = true := by kernel_rfl
theorem fRec : (Rows.fnExactBenchClausesRow.recurses == Tryz.pinned.checked.prog.recurses 4) = true := by kernel_rfl
theorem fNam : (Rows.fnExactBenchClausesRow.named == Tryz.pinned.checked.prog.varsNamed 4) = true := by kernel_rfl
theorem fAll : joinedFacts Tryz.pinned.checked.prog 4 Tryz.f4 Rows.fnExactBenchClausesSpec Rows.fnExactBenchClausesRow = true := by
  unfold joinedFacts
  rw [fMay, fHeard, fLift, fInp, fUnf, fRec, fNam]
  kernel_rfl
theorem over : Rows.fnExactBenchClausesRow.holds Tryz.pinned (OpenSpec.ofChange Rows.fnExactBenchClausesSpec) :=
  OpenClaim.holds_of_wide 4 Tryz.f4 rfl rfl rfl rfl rfl rfl rfl ⟨rfl, rfl, rfl, rfl, rfl⟩ rfl rfl rfl rfl rfl (by kernel_rfl) Tryz.func4 fAll
    (of_decide_eq_true (by kernel_rfl)) (by unfold Func.isWrapper; first | (rw [if_pos (by decide +kernel)]; kernel_rfl) | (rw [if_neg (by decide +kernel)]; exact ⟨rfl, rfl⟩))
    (fun os started H enc _ => lifted os started H enc)
/-- the statement -/
theorem proved : Rows.FnExactBenchClausesSaid := over
#print axioms proved

end Go.Proofs.YtmpfnnkmplkfoaaGreat
