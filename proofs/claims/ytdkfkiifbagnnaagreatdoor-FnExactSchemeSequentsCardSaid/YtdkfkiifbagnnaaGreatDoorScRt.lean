/- The given statement FnExactSchemeSequentsSaid is proved: for all arguments that can be read as data the law returns true and leaves them as they were. No condition. -/
import Derived.Test.YtdkfkiifbagnnaaGreatDoorScWk3
import Derived.Test.YtdkfkiifbagnnaaGreatDoorScLA
import Derived.Test.YtdkfkiifbagnnaaGreatDoorScLB
import Derived.Test.YtdkfkiifbagnnaaGreatDoorScPA
import Derived.Test.YtdkfkiifbagnnaaGreatDoorScRf
import Derived.Test.YtdkfkiifbagnnaaGreatDoorTie
import Derived.Test.YtdkfkiifbagnnaaGreatDoorCards
import Derived.Stop.LaidErr
import Derived.Lay
import Derived.SevenTiedAt
import Derived.MakeChecks
import Derived.Lib.LaidTab
import Derived.Test.YtdkfkiifbagnnaaGreatDoorRows
set_option linter.unusedVariables false
namespace Go.Proofs.YtdkfkiifbagnnaaGreatDoor
open Go.Mr Go.Pu Go.PF Go.RowKit Go.ChangeShapes Go.WideShapes Go.ChangeAt Go.Proofs
theorem cof3 : Tryz.prog.cellsOf 3 = 1 := by kernel_rfl
theorem cof9 : Tryz.prog.cellsOf 9 = 1 := by kernel_rfl
theorem laidTab {W : World} (hL : laidMet Tryz.prog Rows.fnExactSchemeSequentsRow.laid W) : laidMet Tryz.prog [("loop.example/g01080/impl.schemes", dataS PF.glob0)] W := by
  have h := hL
  have e : (Rows.laid_loop_example_g01080_impl_schemes : DataW Unit) = dataS PF.glob0 := by kernel_rfl
  rw [← e]; exact h
set_option maxRecDepth 100000 in
theorem lifted (os : Os) (started : os.Started) (H : Type) (enc : TypeId × Value → H) :
    ReturnsInHanded {} Tryz.checked os 3 .any (fun w args => (Rows.fnExactSchemeSequentsSpec.pre enc Tryz.prog Tryz.f3 Rows.fnExactSchemeSequentsRow.domain false w args ∧ laidMetH Tryz.prog Rows.fnExactSchemeSequentsRow.laid w) ∧ sizedMet enc Tryz.prog Tryz.f3 (OpenSpec.ofChange Rows.fnExactSchemeSequentsSpec) false w args) (Rows.fnExactSchemeSequentsSpec.post enc Tryz.prog Tryz.f3 false true false false) := by
  refine returnsInHanded_of_change_and (C := Tryz.checked) (X := fun w _ => laidMetH Tryz.prog Rows.fnExactSchemeSequentsRow.laid w) (fun _ _ _ hh h => h.of_heap hh) own started (by kernel_rfl) Tryz.func3
    (ChangeSpec.witness_shaped (enc := enc) (C := Tryz.checked) (os := os) (X := fun w _ => laidMetH Tryz.prog Rows.fnExactSchemeSequentsRow.laid w) false (World.laidAll Tryz.prog os Rows.fnExactSchemeSequentsRow.laid) #[.int .i64 0, .string ByteArray.empty, .string ByteArray.empty, .string ByteArray.empty] 8 (World.laidAll_os _ _ _)
      (World.shaped_of_ZipB (by kernel_rfl) (by kernel_rfl)) (by kernel_rfl) (by kernel_rfl) (by kernel_rfl)
      (by rw [MakeChecks.laidMetH_plain _ _ _ (by kernel_rfl)]; exact laidMet_laidAll _ (by kernel_rfl) (by kernel_rfl))) ?_
  intro W base args ds gs before hval0 hW _ _ hL0 _
  have hL := (MakeChecks.laidMetH_plain Tryz.prog Rows.fnExactSchemeSequentsRow.laid W (by kernel_rfl)) ▸ hL0
  have hT : TabS 0 PF.glob0 (hpOf W) := tabS_of_head (g := 0) (t := 113) (e := 9) (n := 10) (rest := []) (by kernel_rfl) (by kernel_rfl) (by kernel_rfl) (by kernel_rfl) (by kernel_rfl) (by kernel_rfl) (laidTab hL)
  have hval : ∀ (j : Nat) t v, Tryz.f3.params[j]? = some t → args[j]? = some v → Value.okWide Tryz.prog W .any base t v := hval0
  have hW' := hW
  obtain ⟨p, q, hA0, hV, rfl, _, _⟩ := hW
  have hA : DataW.TrodAll enc Tryz.prog W 0 (fun _ => true) true Tryz.f3.params.toList args.toList ds p := hA0
  rw [Tryz.params3] at hA hval
  obtain ⟨v0, vs0, d0, ds0, p0, q0, hargs, rfl, rfl, h0, r0⟩ := trodAll_cons hA
  obtain ⟨v1, vs1, d1, ds1, p1, q1, rfl, rfl, rfl, h1, r1⟩ := trodAll_cons r0
  obtain ⟨v2, vs2, d2, ds2, p2, q2, rfl, rfl, rfl, h2, r2⟩ := trodAll_cons r1
  obtain ⟨v3, vs3, d3, ds3, p3, q3, rfl, rfl, rfl, h3, r3⟩ := trodAll_cons r2
  obtain ⟨rfl, rfl, rfl⟩ := trodAll_nil r3
  obtain rfl : args = #[v0, v1, v2, v3] := by cases args; simp_all
  obtain ⟨_, _, _, _, gd, _, rfl, _, _, _, _, _⟩ := trodVars_one hV
  have hq : ∀ x ∈ q, x.block < W.heap.size := fun x hx => hW'.lt x (by simp [hx])
  have l0 : ∀ x ∈ p0, x.block < W.heap.size := fun x hx => hW'.lt x (by simp [hx])
  have l1 : ∀ x ∈ p1, x.block < W.heap.size := fun x hx => hW'.lt x (by simp [hx])
  have l2 : ∀ x ∈ p2, x.block < W.heap.size := fun x hx => hW'.lt x (by simp [hx])
  have l3 : ∀ x ∈ p3, x.block < W.heap.size := fun x hx => hW'.lt x (by simp [hx])
  obtain ⟨a0, rfl, rfl, rfl, w0⟩ := open_int Tryz.underlying3 (hval 0 3 v0 rfl rfl) h0
  have o0 : okI a0 := okI_wf w0
  obtain ⟨a1, rfl, o1⟩ := arg_string Tryz.underlying9 (hval 1 9 v1 rfl rfl) h1
  obtain ⟨a2, rfl, o2⟩ := arg_string Tryz.underlying9 (hval 2 9 v2 rfl rfl) h2
  obtain ⟨a3, rfl, o3⟩ := arg_string Tryz.underlying9 (hval 3 9 v3 rfl rfl) h3
  refine (w_laws_FnExactSchemeSequents (sl_hpOf W) a0 a1 a2 a3 hT (plain_SchemeSequents a0 a1 a2 a3 o0 o1 o2 o3)).mono ?_
  rintro e W' ⟨rfl, hrun⟩
  exact ⟨_, rfl, post_law1 hW' rfl rfl rfl rfl Tryz.underlying4 (trodAll_cons_mk (trod_stays laidOut (by kernel_rfl) (of_decide_eq_true (by kernel_rfl)) hrun.bel l0 h0) (trodAll_cons_mk (trod_stays laidOut (by kernel_rfl) (of_decide_eq_true (by kernel_rfl)) hrun.bel l1 h1) (trodAll_cons_mk (trod_stays laidOut (by kernel_rfl) (of_decide_eq_true (by kernel_rfl)) hrun.bel l2 h2) (trodAll_cons_mk (trod_stays laidOut (by kernel_rfl) (of_decide_eq_true (by kernel_rfl)) hrun.bel l3 h3) trodAll_mk0)))) (vars_stay (g := 0) (gt := 113) laidOut (by kernel_rfl) (by kernel_rfl) (by kernel_rfl) (of_decide_eq_true (by kernel_rfl)) hrun.bel hq hV) hrun.bel⟩
theorem fInp : (Rows.fnExactSchemeSequentsRow.inPlace == Tryz.pinned.checked.prog.inPlace 3) = true := by kernel_rfl
theorem fUnf : (Rows.fnExactSchemeSequentsRow.unfollowed == Tryz.pinned.checked.prog.unfollowed 3) = true := by kernel_rfl
theorem fRec : (Rows.fnExactSchemeSequentsRow.recurses == Tryz.pinned.checked.prog.recurses 3) = true := by kernel_rfl
theorem fNam : (Rows.fnExactSchemeSequentsRow.named == Tryz.pinned.checked.prog.varsNamed 3) = true := by kernel_rfl
theorem fAll : joinedFacts Tryz.pinned.checked.prog 3 Tryz.f3 Rows.fnExactSchemeSequentsSpec Rows.fnExactSchemeSequentsRow = true := by
  unfold joinedFacts
  rw [fMay, fHeard, fLift, fInp, fUnf, fRec, fNam]
  kernel_rfl
theorem over : Rows.fnExactSchemeSequentsRow.holds Tryz.pinned (OpenSpec.ofChange Rows.fnExactSchemeSequentsSpec) :=
  OpenClaim.holds_of_wide 3 Tryz.f3 rfl rfl rfl rfl rfl rfl rfl ⟨rfl, rfl, rfl, rfl, rfl⟩ rfl rfl rfl rfl rfl (by kernel_rfl) Tryz.func3 fAll
    (of_decide_eq_true (by kernel_rfl)) (by unfold Func.isWrapper; first | (rw [if_pos (by decide +kernel)]; kernel_rfl) | (rw [if_neg (by decide +kernel)]; exact ⟨rfl, rfl⟩))
    (fun os started H enc _ => lifted os started H enc)
/-- the statement: the card -/
theorem proved : Rows.FnExactSchemeSequentsCardSaid :=
  Claim7.holds_tied_plain_at .later [] [.data] true (true, "d46be2101d96a10d5d519d8f84fb68394c10c1fd2139e92c09f6b65e994b4c0a") false over (fun _ h => by cases h) (by kernel_rfl) (fun _ h => by cases h) fnExactSchemeSequents_row_tie rfl ⟨rfl, rfl⟩ (by kernel_rfl) rfl
    (fun f fn hf hfn => by
      obtain rfl : f = 3 := Option.some.inj ((show Tryz.prog.funcNamed "loop.example/g01080/laws.FnExactSchemeSequents" = some 3 by kernel_rfl).symm.trans hf) |>.symm
      obtain rfl : fn = Tryz.f3 := (Option.some.inj (Tryz.func3.symm.trans hfn)).symm
      exact ⟨by kernel_rfl, fun j t ht => by
        rw [Tryz.params3] at ht
        have hm : t ∈ [3, 9, 9, 9] := by simpa using Array.mem_of_getElem? ht
        have hall : ([3, 9, 9, 9].all fun u => !Tryz.prog.wantsStandIn u) = true := by kernel_rfl
        exact (show Tryz.prog.wantsStandIn t = false by simpa using List.all_eq_true.1 hall t hm)⟩)
    (by kernel_rfl)
#print axioms proved

end Go.Proofs.YtdkfkiifbagnnaaGreatDoor
