/- The given statement FnExactEnterResolutionSaid is proved: for all arguments that can be read as data the law returns true and leaves them as they were. No condition. -/
import Derived.Test.YtikmcenkjiebmaaGreatDoorErWk3
import Derived.Test.YtikmcenkjiebmaaGreatDoorErLA
import Derived.Test.YtikmcenkjiebmaaGreatDoorErLB
import Derived.Test.YtikmcenkjiebmaaGreatDoorErPA
import Derived.Test.YtikmcenkjiebmaaGreatDoorErRf
import Derived.Test.YtikmcenkjiebmaaGreatDoorTie
import Derived.Test.YtikmcenkjiebmaaGreatDoorCards
import Derived.Stop.LaidErr
import Derived.Lay
import Derived.SevenTiedAt
import Derived.MakeChecks
import Derived.Lib.LaidTab
import Derived.Test.YtikmcenkjiebmaaGreatDoorRows
set_option linter.unusedVariables false
namespace Go.Proofs.YtikmcenkjiebmaaGreatDoor
open Go.Mr Go.Pu Go.PF Go.RowKit Go.ChangeShapes Go.WideShapes Go.ChangeAt Go.Proofs
theorem cof22 : Tryz.prog.cellsOf 22 = 1 := by kernel_rfl
theorem cof47 : Tryz.prog.cellsOf 47 = 4 := by kernel_rfl
theorem cof9 : Tryz.prog.cellsOf 9 = 1 := by kernel_rfl
theorem cof3 : Tryz.prog.cellsOf 3 = 1 := by kernel_rfl
set_option maxRecDepth 100000 in
theorem rd47 {w : World} : RdT Tryz.prog w 47 eRecord okRecord := fun {H enc base spare held fuel cs x} h => by
  obtain ⟨xs, n, rfl, _, hl, hn, hf⟩ := DataW.trod_struct Tryz.underlying47 h
  rw [cof47] at hl
  match cs, hl, hf with
  | [c0, c1, c2, c3], _, hf =>
  have g0 := hf 0 _ rfl
  rw [List.getElem?_eq_getElem (by rw [hn]; decide)] at g0
  obtain ⟨y0, r0, o0⟩ := (RdT.stringS Tryz.underlying9) g0
  have r0 : eS.rel (hpOf w) (List.take (Tryz.prog.cellsOf 9) (List.drop 0 [c0, c1, c2, c3])) y0 := r0
  rw [cof9] at r0
  have r0 : eS.rel (hpOf w) [c0] y0 := r0
  have e0 := eS_open r0
  have g1 := hf 1 _ rfl
  rw [List.getElem?_eq_getElem (by rw [hn]; decide)] at g1
  obtain ⟨y1, r1, o1⟩ := (RdT.int Tryz.underlying3) g1
  have r1 : eI.rel (hpOf w) (List.take (Tryz.prog.cellsOf 3) (List.drop 1 [c0, c1, c2, c3])) y1 := r1
  rw [cof3] at r1
  have r1 : eI.rel (hpOf w) [c1] y1 := r1
  have e1 := eI_open r1
  have g2 := hf 2 _ rfl
  rw [List.getElem?_eq_getElem (by rw [hn]; decide)] at g2
  obtain ⟨y2, r2, o2⟩ := (RdT.int Tryz.underlying3) g2
  have r2 : eI.rel (hpOf w) (List.take (Tryz.prog.cellsOf 3) (List.drop 2 [c0, c1, c2, c3])) y2 := r2
  rw [cof3] at r2
  have r2 : eI.rel (hpOf w) [c2] y2 := r2
  have e2 := eI_open r2
  have g3 := hf 3 _ rfl
  rw [List.getElem?_eq_getElem (by rw [hn]; decide)] at g3
  obtain ⟨y3, r3, o3⟩ := (RdT.int Tryz.underlying3) g3
  have r3 : eI.rel (hpOf w) (List.take (Tryz.prog.cellsOf 3) (List.drop 3 [c0, c1, c2, c3])) y3 := r3
  rw [cof3] at r3
  have r3 : eI.rel (hpOf w) [c3] y3 := r3
  have e3 := eI_open r3
  cases e0
  cases e1
  cases e2
  cases e3
  exact ⟨⟨y0, y1, y2, y3⟩, rfl, o0, o1, o2, o3⟩
theorem cof25 : Tryz.prog.cellsOf 25 = 2 := by kernel_rfl
theorem cof23 : Tryz.prog.cellsOf 23 = 1 := by kernel_rfl
theorem cof50 : Tryz.prog.cellsOf 50 = 1 := by kernel_rfl
set_option maxRecDepth 100000 in
theorem rd25 {w : World} : RdT Tryz.prog w 25 eCnf okCnf := fun {H enc base spare held fuel cs x} h => by
  obtain ⟨xs, n, rfl, _, hl, hn, hf⟩ := DataW.trod_struct Tryz.underlying25 h
  rw [cof25] at hl
  match cs, hl, hf with
  | [c0, c1], _, hf =>
  have g0 := hf 0 _ rfl
  rw [List.getElem?_eq_getElem (by rw [hn]; decide)] at g0
  obtain ⟨y0, r0, o0⟩ := (RdT.int Tryz.underlying3) g0
  have r0 : eI.rel (hpOf w) (List.take (Tryz.prog.cellsOf 3) (List.drop 0 [c0, c1])) y0 := r0
  rw [cof3] at r0
  have r0 : eI.rel (hpOf w) [c0] y0 := r0
  have e0 := eI_open r0
  have g1 := hf 1 _ rfl
  rw [List.getElem?_eq_getElem (by rw [hn]; decide)] at g1
  obtain ⟨y1, r1, o1⟩ := (RdT.slice Tryz.underlying23 (cof50) (by decide) (RdT.slice Tryz.underlying50 (cof3) (by decide) (RdT.int Tryz.underlying3))) g1
  have r1 : (eL (eL eI 1) 1).rel (hpOf w) (List.take (Tryz.prog.cellsOf 23) (List.drop 1 [c0, c1])) y1 := r1
  rw [cof23] at r1
  have r1 : (eL (eL eI 1) 1).rel (hpOf w) [c1] y1 := r1
  obtain ⟨v1, e1, k1⟩ := eL_open r1
  cases e0
  cases e1
  exact ⟨⟨y0, y1⟩, ⟨_, rfl, k1⟩, o0, o1⟩
theorem cof26 : Tryz.prog.cellsOf 26 = 1 := by kernel_rfl
theorem cof52 : Tryz.prog.cellsOf 52 = 4 := by kernel_rfl
set_option maxRecDepth 100000 in
theorem rd52 {w : World} : RdT Tryz.prog w 52 eResStep okResStep := fun {H enc base spare held fuel cs x} h => by
  obtain ⟨xs, n, rfl, _, hl, hn, hf⟩ := DataW.trod_struct Tryz.underlying52 h
  rw [cof52] at hl
  match cs, hl, hf with
  | [c0, c1, c2, c3], _, hf =>
  have g0 := hf 0 _ rfl
  rw [List.getElem?_eq_getElem (by rw [hn]; decide)] at g0
  obtain ⟨y0, r0, o0⟩ := (RdT.slice Tryz.underlying50 (cof3) (by decide) (RdT.int Tryz.underlying3)) g0
  have r0 : (eL eI 1).rel (hpOf w) (List.take (Tryz.prog.cellsOf 50) (List.drop 0 [c0, c1, c2, c3])) y0 := r0
  rw [cof50] at r0
  have r0 : (eL eI 1).rel (hpOf w) [c0] y0 := r0
  obtain ⟨v0, e0, k0⟩ := eL_open r0
  have g1 := hf 1 _ rfl
  rw [List.getElem?_eq_getElem (by rw [hn]; decide)] at g1
  obtain ⟨y1, r1, o1⟩ := (RdT.int Tryz.underlying3) g1
  have r1 : eI.rel (hpOf w) (List.take (Tryz.prog.cellsOf 3) (List.drop 1 [c0, c1, c2, c3])) y1 := r1
  rw [cof3] at r1
  have r1 : eI.rel (hpOf w) [c1] y1 := r1
  have e1 := eI_open r1
  have g2 := hf 2 _ rfl
  rw [List.getElem?_eq_getElem (by rw [hn]; decide)] at g2
  obtain ⟨y2, r2, o2⟩ := (RdT.int Tryz.underlying3) g2
  have r2 : eI.rel (hpOf w) (List.take (Tryz.prog.cellsOf 3) (List.drop 2 [c0, c1, c2, c3])) y2 := r2
  rw [cof3] at r2
  have r2 : eI.rel (hpOf w) [c2] y2 := r2
  have e2 := eI_open r2
  have g3 := hf 3 _ rfl
  rw [List.getElem?_eq_getElem (by rw [hn]; decide)] at g3
  obtain ⟨y3, r3, o3⟩ := (RdT.int Tryz.underlying3) g3
  have r3 : eI.rel (hpOf w) (List.take (Tryz.prog.cellsOf 3) (List.drop 3 [c0, c1, c2, c3])) y3 := r3
  rw [cof3] at r3
  have r3 : eI.rel (hpOf w) [c3] y3 := r3
  have e3 := eI_open r3
  cases e0
  cases e1
  cases e2
  cases e3
  exact ⟨⟨y0, y1, y2, y3⟩, ⟨_, rfl, k0⟩, o0, o1, o2, o3⟩
theorem errStar : "*" ++ "errors.errorString" = "*errors.errorString" := by decide
theorem errRow (u : TypeId) (h : Tryz.prog.typeName? 3 u = some "*errors.errorString") : u = 152 :=
  typeName_ptr_named (nm := "errors.errorString") (by rw [errStar]; kernel_rfl) (by kernel_rfl) (by decide) u (by rw [errStar]; exact h)
theorem laidTab {W : World} (hL : laidMet Tryz.prog Rows.fnExactEnterResolutionRow.laid W) : laidMet Tryz.prog [("loop.example/g01080/impl.errBook", .iface "*errors.errorString" (.ptr (.agg [.lit (.string [110, 111, 116, 32, 97, 32, 98, 111, 111, 107])])))] W := by
  have h := hL
  have e : (Rows.laid_loop_example_g01080_impl_errBook : DataW Unit) = .iface "*errors.errorString" (.ptr (.agg [.lit (.string [110, 111, 116, 32, 97, 32, 98, 111, 111, 107])])) := by kernel_rfl
  rw [← e]; exact h
set_option maxRecDepth 100000 in
theorem lifted (os : Os) (started : os.Started) (H : Type) (enc : TypeId × Value → H) :
    ReturnsInHanded {} Tryz.checked os 3 .any (fun w args => (Rows.fnExactEnterResolutionSpec.pre enc Tryz.prog Tryz.f3 Rows.fnExactEnterResolutionRow.domain false w args ∧ laidMetH Tryz.prog Rows.fnExactEnterResolutionRow.laid w) ∧ sizedMet enc Tryz.prog Tryz.f3 (OpenSpec.ofChange Rows.fnExactEnterResolutionSpec) false w args) (Rows.fnExactEnterResolutionSpec.post enc Tryz.prog Tryz.f3 false true false false) := by
  refine returnsInHanded_of_change_and (C := Tryz.checked) (X := fun w _ => laidMetH Tryz.prog Rows.fnExactEnterResolutionRow.laid w) (fun _ _ _ hh h => h.of_heap hh) own started (by kernel_rfl) Tryz.func3
    (ChangeSpec.witness_shaped (enc := enc) (C := Tryz.checked) (os := os) (X := fun w _ => laidMetH Tryz.prog Rows.fnExactEnterResolutionRow.laid w) false (World.laidAll Tryz.prog os Rows.fnExactEnterResolutionRow.laid) #[.slice none 0 0, .string ByteArray.empty, .agg #[.int .i64 0, .slice none 0 0], .slice none 0 0] 8 (World.laidAll_os _ _ _)
      (World.shaped_of_ZipB (by kernel_rfl) (by kernel_rfl)) (by kernel_rfl) (by kernel_rfl) (by kernel_rfl)
      (by rw [MakeChecks.laidMetH_plain _ _ _ (by kernel_rfl)]; exact laidMet_laidAll _ (by kernel_rfl) (by kernel_rfl))) ?_
  intro W base args ds gs before hval0 hW _ _ hL0 _
  have hL := (MakeChecks.laidMetH_plain Tryz.prog Rows.fnExactEnterResolutionRow.laid W (by kernel_rfl)) ▸ hL0
  obtain ⟨ea, _, hvar, _, _, _⟩ := laid_sentinel (g := 0) (ti := 78) (tp := 152) (te := 177) (ts := 9) (laidTab hL) (by kernel_rfl) (by kernel_rfl) Tryz.underlying78 errRow Tryz.underlying152 Tryz.underlying177 rfl rfl Tryz.underlying9 (by kernel_rfl) (by kernel_rfl)
  have hT : TabE 0 152 ea (hpOf W) := tabE_of_var (nm := "loop.example/g01080/impl.errBook") (by kernel_rfl) hvar
  have hval : ∀ (j : Nat) t v, Tryz.f3.params[j]? = some t → args[j]? = some v → Value.okWide Tryz.prog W .any base t v := hval0
  have hW' := hW
  obtain ⟨p, q, hA0, hV, rfl, _, _⟩ := hW
  have hA : DataW.TrodAll enc Tryz.prog W 0 (fun _ => true) true Tryz.f3.params.toList args.toList ds p := hA0
  rw [Tryz.params3] at hA hval
  obtain ⟨v0, vs0, d0, ds0, p0, q0, hargs, rfl, rfl, h0, r0⟩ := trodAll_cons hA
  obtain ⟨v1, vs1, d1, ds1, p1, q1, rfl, rfl, rfl, h1, r1⟩ := trodAll_cons r0
  obtain ⟨v2, vs2, d2, ds2, p2, q2, rfl, rfl, rfl, h2, r2⟩ := trodAll_cons r1
  obtain ⟨v3, vs3, d3, ds3, p3, q3, rfl, rfl, rfl, h3, r3⟩ := trodAll_cons r2
  obtain ⟨rfl, rfl, rfl⟩ := trodAll_nil r3
  obtain rfl : args = #[v0, v1, v2, v3] := by cases args; simp_all
  obtain ⟨_, _, _, _, gd, _, rfl, _, _, _, _, _⟩ := trodVars_one hV
  have hq : ∀ x ∈ q, x.block < W.heap.size := fun x hx => hW'.lt x (by simp [hx])
  have l0 : ∀ x ∈ p0, x.block < W.heap.size := fun x hx => hW'.lt x (by simp [hx])
  have l1 : ∀ x ∈ p1, x.block < W.heap.size := fun x hx => hW'.lt x (by simp [hx])
  have l2 : ∀ x ∈ p2, x.block < W.heap.size := fun x hx => hW'.lt x (by simp [hx])
  have l3 : ∀ x ∈ p3, x.block < W.heap.size := fun x hx => hW'.lt x (by simp [hx])
  obtain ⟨a0, k0, o0⟩ := arg_slice Tryz.underlying22 cof47 (by decide) rd47 (hval 0 22 v0 rfl rfl) h0
  obtain ⟨a1, rfl, o1⟩ := arg_string Tryz.underlying9 (hval 1 9 v1 rfl rfl) h1
  obtain ⟨a2, cs2, rfl, e2, o2⟩ := arg_struct Tryz.underlying25 rd25 (hval 2 25 v2 rfl rfl) h2
  obtain ⟨u2_0, rfl, k2_0⟩ := eCnf_open e2
  obtain ⟨a3, k3, o3⟩ := arg_slice Tryz.underlying26 cof52 (by decide) rd52 (hval 3 26 v3 rfl rfl) h3
  refine (w_laws_FnExactEnterResolution (sl_hpOf W) v0 a0 k0 a1 a2 u2_0 k2_0 v3 a3 k3 hT (plain_EnterResolution a0 a1 a2 a3 o0 o1 o2 o3)).mono ?_
  rintro e W' ⟨rfl, hrun⟩
  exact ⟨_, rfl, post_law1 hW' rfl rfl rfl rfl Tryz.underlying4 (trodAll_cons_mk (trod_stays laidOut (by kernel_rfl) (of_decide_eq_true (by kernel_rfl)) hrun.bel l0 h0) (trodAll_cons_mk (trod_stays laidOut (by kernel_rfl) (of_decide_eq_true (by kernel_rfl)) hrun.bel l1 h1) (trodAll_cons_mk (trod_stays laidOut (by kernel_rfl) (of_decide_eq_true (by kernel_rfl)) hrun.bel l2 h2) (trodAll_cons_mk (trod_stays laidOut (by kernel_rfl) (of_decide_eq_true (by kernel_rfl)) hrun.bel l3 h3) trodAll_mk0)))) (vars_stay (g := 0) (gt := 78) laidOut (by kernel_rfl) (by kernel_rfl) (by kernel_rfl) (of_decide_eq_true (by kernel_rfl)) hrun.bel hq hV) hrun.bel⟩
theorem fInp : (Rows.fnExactEnterResolutionRow.inPlace == Tryz.pinned.checked.prog.inPlace 3) = true := by kernel_rfl
theorem fUnf : (Rows.fnExactEnterResolutionRow.unfollowed == Tryz.pinned.checked.prog.unfollowed 3) = true := by kernel_rfl
theorem fRec : (Rows.fnExactEnterResolutionRow.recurses == Tryz.pinned.checked.prog.recurses 3) = true := by kernel_rfl
theorem fNam : (Rows.fnExactEnterResolutionRow.named == Tryz.pinned.checked.prog.varsNamed 3) = true := by kernel_rfl
theorem fAll : joinedFacts Tryz.pinned.checked.prog 3 Tryz.f3 Rows.fnExactEnterResolutionSpec Rows.fnExactEnterResolutionRow = true := by
  unfold joinedFacts
  rw [fMay, fHeard, fLift, fInp, fUnf, fRec, fNam]
  kernel_rfl
theorem over : Rows.fnExactEnterResolutionRow.holds Tryz.pinned (OpenSpec.ofChange Rows.fnExactEnterResolutionSpec) :=
  OpenClaim.holds_of_wide 3 Tryz.f3 rfl rfl rfl rfl rfl rfl rfl ⟨rfl, rfl, rfl, rfl, rfl⟩ rfl rfl rfl rfl rfl (by kernel_rfl) Tryz.func3 fAll
    (of_decide_eq_true (by kernel_rfl)) (by unfold Func.isWrapper; first | (rw [if_pos (by decide +kernel)]; kernel_rfl) | (rw [if_neg (by decide +kernel)]; exact ⟨rfl, rfl⟩))
    (fun os started H enc _ => lifted os started H enc)
/-- the statement: the card -/
theorem proved : Rows.FnExactEnterResolutionCardSaid :=
  Claim7.holds_tied_plain_at .later [] [.sentinel] true (true, "fc83719e429f9f4b35181a2def45be40b995b2d02fc2faa03f347054e23a9a1a") true over (fun _ h => by cases h) (by kernel_rfl) (fun _ h => by cases h) fnExactEnterResolution_row_tie rfl ⟨rfl, rfl⟩ (by kernel_rfl) rfl
    (fun f fn hf hfn => by
      obtain rfl : f = 3 := Option.some.inj ((show Tryz.prog.funcNamed "loop.example/g01080/laws.FnExactEnterResolution" = some 3 by kernel_rfl).symm.trans hf) |>.symm
      obtain rfl : fn = Tryz.f3 := (Option.some.inj (Tryz.func3.symm.trans hfn)).symm
      exact ⟨by kernel_rfl, fun j t ht => by
        rw [Tryz.params3] at ht
        have hm : t ∈ [22, 9, 25, 26] := by simpa using Array.mem_of_getElem? ht
        have hall : ([22, 9, 25, 26].all fun u => !Tryz.prog.wantsStandIn u) = true := by kernel_rfl
        exact (show Tryz.prog.wantsStandIn t = false by simpa using List.all_eq_true.1 hall t hm)⟩)
    (by kernel_rfl)
#print axioms proved

end Go.Proofs.YtikmcenkjiebmaaGreatDoor
