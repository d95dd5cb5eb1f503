/- The given statement FnExactShortestRunSaid is proved: for all arguments that can be read as data the law returns true and leaves them as they were. No condition. -/
import Derived.Test.YtjfiedidpiopbaaGreatSrWk6
import Derived.Test.YtjfiedidpiopbaaGreatSrLA
import Derived.Test.YtjfiedidpiopbaaGreatSrLB
import Derived.Test.YtjfiedidpiopbaaGreatSrPC
import Derived.Test.YtjfiedidpiopbaaGreatSrRf
import Derived.Test.YtjfiedidpiopbaaGreatRows
set_option linter.unusedVariables false
namespace Go.Proofs.YtjfiedidpiopbaaGreat
open Go.Mr Go.Pu Go.PF Go.RowKit Go.ChangeShapes Go.WideShapes Go.ChangeAt Go.Proofs
theorem cof24 : Tryz.prog.cellsOf 24 = 2 := by kernel_rfl
theorem cof3 : Tryz.prog.cellsOf 3 = 1 := by kernel_rfl
theorem cof22 : Tryz.prog.cellsOf 22 = 1 := by kernel_rfl
theorem cof45 : Tryz.prog.cellsOf 45 = 1 := by kernel_rfl
set_option maxRecDepth 100000 in
theorem rd24 {w : World} : RdT Tryz.prog w 24 eCnf okCnf := fun {H enc base spare held fuel cs x} h => by
  obtain ⟨xs, n, rfl, _, hl, hn, hf⟩ := DataW.trod_struct Tryz.underlying24 h
  rw [cof24] at hl
  match cs, hl, hf with
  | [c0, c1], _, hf =>
  have g0 := hf 0 _ rfl
  rw [List.getElem?_eq_getElem (by rw [hn]; decide)] at g0
  obtain ⟨y0, r0, o0⟩ := (RdT.int Tryz.underlying3) g0
  have r0 : eI.rel (hpOf w) (List.take (Tryz.prog.cellsOf 3) (List.drop 0 [c0, c1])) y0 := r0
  rw [cof3] at r0
  have r0 : eI.rel (hpOf w) [c0] y0 := r0
  have e0 := eI_open r0
  have g1 := hf 1 _ rfl
  rw [List.getElem?_eq_getElem (by rw [hn]; decide)] at g1
  obtain ⟨y1, r1, o1⟩ := (RdT.slice Tryz.underlying22 (cof45) (by decide) (RdT.slice Tryz.underlying45 (cof3) (by decide) (RdT.int Tryz.underlying3))) g1
  have r1 : (eL (eL eI 1) 1).rel (hpOf w) (List.take (Tryz.prog.cellsOf 22) (List.drop 1 [c0, c1])) y1 := r1
  rw [cof22] at r1
  have r1 : (eL (eL eI 1) 1).rel (hpOf w) [c1] y1 := r1
  obtain ⟨v1, e1, k1⟩ := eL_open r1
  cases e0
  cases e1
  exact ⟨⟨y0, y1⟩, ⟨_, rfl, k1⟩, o0, o1⟩
set_option maxRecDepth 100000 in
theorem lifted (os : Os) (started : os.Started) (H : Type) (enc : TypeId × Value → H) :
    ReturnsInHanded {} Tryz.checked os 5 .any (Rows.fnExactShortestRunSpec.pre6 enc Tryz.prog Tryz.f5 Rows.fnExactShortestRunRow.domain false) (Rows.fnExactShortestRunSpec.post enc Tryz.prog Tryz.f5 false true false false) := by
  refine returnsInHanded_of_change (C := Tryz.checked) own started (by kernel_rfl) Tryz.func5
    (ChangeSpec.witness6 (enc := enc) (C := Tryz.checked) false ⟨#[], #[.agg #[.int .i64 0, .slice none 0 0], .int .i64 0], []⟩ 8 (by kernel_rfl) (by kernel_rfl) (by kernel_rfl) (by kernel_rfl)) ?_
  intro W base args ds gs before hval0 hW _ _
  have hval : ∀ (j : Nat) t v, Tryz.f5.params[j]? = some t → args[j]? = some v → Value.okWide Tryz.prog W .any base t v := hval0
  have hW' := hW
  obtain ⟨p, q, hA0, hV, rfl, _, _⟩ := hW
  have hA : DataW.TrodAll enc Tryz.prog W 0 (fun _ => true) true Tryz.f5.params.toList args.toList ds p := hA0
  rw [Tryz.params5] at hA hval
  obtain ⟨v0, vs0, d0, ds0, p0, q0, hargs, rfl, rfl, h0, r0⟩ := trodAll_cons hA
  obtain ⟨v1, vs1, d1, ds1, p1, q1, rfl, rfl, rfl, h1, r1⟩ := trodAll_cons r0
  obtain ⟨rfl, rfl, rfl⟩ := trodAll_nil r1
  obtain rfl : args = #[v0, v1] := by cases args; simp_all
  obtain ⟨rfl, rfl⟩ := trodVars_none hV
  have l0 : ∀ x ∈ p0, x.block < W.heap.size := fun x hx => hW'.lt x (by simp [hx])
  have l1 : ∀ x ∈ p1, x.block < W.heap.size := fun x hx => hW'.lt x (by simp [hx])
  obtain ⟨a0, cs0, rfl, e0, o0⟩ := arg_struct Tryz.underlying24 rd24 (hval 0 24 v0 rfl rfl) h0
  obtain ⟨u0_0, rfl, k0_0⟩ := eCnf_open e0
  obtain ⟨a1, rfl, rfl, rfl, w1⟩ := open_int Tryz.underlying3 (hval 1 3 v1 rfl rfl) h1
  have o1 : okI a1 := okI_wf w1
  refine (w_laws_FnExactShortestRun (sl_hpOf W) a0 u0_0 k0_0 a1 (plain_ShortestRun a0 a1 o0 o1)).mono ?_
  rintro e W' ⟨rfl, hrun⟩
  exact ⟨_, rfl, post_law hW' rfl rfl rfl rfl Tryz.underlying4 (trodAll_cons_mk (trod_stays laidOut (by kernel_rfl) (of_decide_eq_true (by kernel_rfl)) hrun.bel l0 h0) (trodAll_cons_mk (trod_stays laidOut (by kernel_rfl) (of_decide_eq_true (by kernel_rfl)) hrun.bel l1 h1) trodAll_mk0)) hrun.bel⟩
theorem fInp : (Rows.fnExactShortestRunRow.inPlace == Tryz.pinned.checked.prog.inPlace 5) = true := by kernel_rfl
theorem fUnf : (Rows.fnExactShortestRunRow.unfollowed == Tryz.pinned.checked.prog.unfollowed 5) = true := by kernel_rfl
theorem fRec : (Rows.fnExactShortestRunRow.recurses == Tryz.pinned.checked.prog.recurses 5) = true := by kernel_rfl
theorem fNam : (Rows.fnExactShortestRunRow.named == Tryz.pinned.checked.prog.varsNamed 5) = true := by kernel_rfl
theorem fAll : joinedFacts Tryz.pinned.checked.prog 5 Tryz.f5 Rows.fnExactShortestRunSpec Rows.fnExactShortestRunRow = true := by
  unfold joinedFacts
  rw [fMay, fHeard, fLift, fInp, fUnf, fRec, fNam]
  kernel_rfl
theorem over : Rows.fnExactShortestRunRow.holds Tryz.pinned (OpenSpec.ofChange Rows.fnExactShortestRunSpec) :=
  OpenClaim.holds_of_wide 5 Tryz.f5 rfl rfl rfl rfl rfl rfl rfl ⟨rfl, rfl, rfl, rfl, rfl⟩ rfl rfl rfl rfl rfl (by kernel_rfl) Tryz.func5 fAll
    (of_decide_eq_true (by kernel_rfl)) (by unfold Func.isWrapper; first | (rw [if_pos (by decide +kernel)]; kernel_rfl) | (rw [if_neg (by decide +kernel)]; exact ⟨rfl, rfl⟩))
    (fun os started H enc _ => lifted os started H enc)
/-- the statement -/
theorem proved : Rows.FnExactShortestRunSaid := over
#print axioms proved

end Go.Proofs.YtjfiedidpiopbaaGreat
