/- The given statement FnExactDerivationTextSaid is proved: for all arguments that can be read as data the law returns true and leaves them as they were. No condition. -/
import Derived.Test.YtjkhehplbjempaaGreatDoorDtWk2
import Derived.Test.YtjkhehplbjempaaGreatDoorMr15
import Derived.Test.YtjkhehplbjempaaGreatDoorDtPlDt
import Derived.Test.YtjkhehplbjempaaGreatDoorDtRf
import Derived.Test.YtjkhehplbjempaaGreatDoorTie
import Derived.Test.YtjkhehplbjempaaGreatDoorCards
import Derived.Stop.LaidErr
import Derived.Lay
import Derived.SevenTiedAt
import Derived.MakeChecks
import Derived.Lib.LaidTab
import Derived.Test.YtjkhehplbjempaaGreatDoorRows
set_option linter.unusedVariables false
namespace Go.Proofs.YtjkhehplbjempaaGreatDoor
open Go.Mr Go.Pu Go.PF Go.RowKit Go.ChangeShapes Go.WideShapes Go.ChangeAt Go.Proofs
theorem cof24 : Tryz.prog.cellsOf 24 = 2 := by kernel_rfl
theorem cof3 : Tryz.prog.cellsOf 3 = 1 := by kernel_rfl
theorem cof22 : Tryz.prog.cellsOf 22 = 1 := by kernel_rfl
theorem cof48 : Tryz.prog.cellsOf 48 = 1 := by kernel_rfl
set_option maxRecDepth 100000 in
theorem rd24 {w : World} : RdT Tryz.prog w 24 eCnf okCnf := fun {H enc base spare held fuel cs x} h => by
  obtain ⟨xs, n, rfl, _, hl, hn, hf⟩ := DataW.trod_struct Tryz.underlying24 h
  rw [cof24] at hl
  match cs, hl, hf with
  | [c0, c1], _, hf =>
  have g0 := hf 0 _ rfl
  rw [List.getElem?_eq_getElem (by rw [hn]; decide)] at g0
  obtain ⟨y0, r0, o0⟩ := (RdT.int Tryz.underlying3) g0
  have r0 : eI.rel (hpOf w) (List.take (Tryz.prog.cellsOf 3) (List.drop 0 [c0, c1])) y0 := r0
  rw [cof3] at r0
  have r0 : eI.rel (hpOf w) [c0] y0 := r0
  have e0 := eI_open r0
  have g1 := hf 1 _ rfl
  rw [List.getElem?_eq_getElem (by rw [hn]; decide)] at g1
  obtain ⟨y1, r1, o1⟩ := (RdT.slice Tryz.underlying22 (cof48) (by decide) (RdT.slice Tryz.underlying48 (cof3) (by decide) (RdT.int Tryz.underlying3))) g1
  have r1 : (eL (eL eI 1) 1).rel (hpOf w) (List.take (Tryz.prog.cellsOf 22) (List.drop 1 [c0, c1])) y1 := r1
  rw [cof22] at r1
  have r1 : (eL (eL eI 1) 1).rel (hpOf w) [c1] y1 := r1
  obtain ⟨v1, e1, k1⟩ := eL_open r1
  cases e0
  cases e1
  exact ⟨⟨y0, y1⟩, ⟨_, rfl, k1⟩, o0, o1⟩
theorem cof25 : Tryz.prog.cellsOf 25 = 1 := by kernel_rfl
theorem cof50 : Tryz.prog.cellsOf 50 = 4 := by kernel_rfl
set_option maxRecDepth 100000 in
theorem rd50 {w : World} : RdT Tryz.prog w 50 eResStep okResStep := fun {H enc base spare held fuel cs x} h => by
  obtain ⟨xs, n, rfl, _, hl, hn, hf⟩ := DataW.trod_struct Tryz.underlying50 h
  rw [cof50] at hl
  match cs, hl, hf with
  | [c0, c1, c2, c3], _, hf =>
  have g0 := hf 0 _ rfl
  rw [List.getElem?_eq_getElem (by rw [hn]; decide)] at g0
  obtain ⟨y0, r0, o0⟩ := (RdT.slice Tryz.underlying48 (cof3) (by decide) (RdT.int Tryz.underlying3)) g0
  have r0 : (eL eI 1).rel (hpOf w) (List.take (Tryz.prog.cellsOf 48) (List.drop 0 [c0, c1, c2, c3])) y0 := r0
  rw [cof48] at r0
  have r0 : (eL eI 1).rel (hpOf w) [c0] y0 := r0
  obtain ⟨v0, e0, k0⟩ := eL_open r0
  have g1 := hf 1 _ rfl
  rw [List.getElem?_eq_getElem (by rw [hn]; decide)] at g1
  obtain ⟨y1, r1, o1⟩ := (RdT.int Tryz.underlying3) g1
  have r1 : eI.rel (hpOf w) (List.take (Tryz.prog.cellsOf 3) (List.drop 1 [c0, c1, c2, c3])) y1 := r1
  rw [cof3] at r1
  have r1 : eI.rel (hpOf w) [c1] y1 := r1
  have e1 := eI_open r1
  have g2 := hf 2 _ rfl
  rw [List.getElem?_eq_getElem (by rw [hn]; decide)] at g2
  obtain ⟨y2, r2, o2⟩ := (RdT.int Tryz.underlying3) g2
  have r2 : eI.rel (hpOf w) (List.take (Tryz.prog.cellsOf 3) (List.drop 2 [c0, c1, c2, c3])) y2 := r2
  rw [cof3] at r2
  have r2 : eI.rel (hpOf w) [c2] y2 := r2
  have e2 := eI_open r2
  have g3 := hf 3 _ rfl
  rw [List.getElem?_eq_getElem (by rw [hn]; decide)] at g3
  obtain ⟨y3, r3, o3⟩ := (RdT.int Tryz.underlying3) g3
  have r3 : eI.rel (hpOf w) (List.take (Tryz.prog.cellsOf 3) (List.drop 3 [c0, c1, c2, c3])) y3 := r3
  rw [cof3] at r3
  have r3 : eI.rel (hpOf w) [c3] y3 := r3
  have e3 := eI_open r3
  cases e0
  cases e1
  cases e2
  cases e3
  exact ⟨⟨y0, y1, y2, y3⟩, ⟨_, rfl, k0⟩, o0, o1, o2, o3⟩
theorem laidTab {W : World} (hL : laidMet Tryz.prog Rows.fnExactDerivationTextRow.laid W) : laidMet Tryz.prog [("internal/strconv.uint64pow10", Lib.tabData .u64 Lib.pow10Tab)] W := by
  have h := hL.tail.tail
  have e : (Rows.laid_internal_strconv_uint64pow10 : DataW Unit) = Lib.tabData .u64 Lib.pow10Tab := by kernel_rfl
  rw [← e]; exact h
set_option maxRecDepth 100000 in
theorem lifted (os : Os) (started : os.Started) (H : Type) (enc : TypeId × Value → H) :
    ReturnsInHanded {} Tryz.checked os 3 .any (fun w args => (Rows.fnExactDerivationTextSpec.pre enc Tryz.prog Tryz.f3 Rows.fnExactDerivationTextRow.domain false w args ∧ laidMetH Tryz.prog Rows.fnExactDerivationTextRow.laid w) ∧ sizedMet enc Tryz.prog Tryz.f3 (OpenSpec.ofChange Rows.fnExactDerivationTextSpec) false w args) (Rows.fnExactDerivationTextSpec.post enc Tryz.prog Tryz.f3 false true false false) := by
  refine returnsInHanded_of_change_and (C := Tryz.checked) (X := fun w _ => laidMetH Tryz.prog Rows.fnExactDerivationTextRow.laid w) (fun _ _ _ hh h => h.of_heap hh) own started (by kernel_rfl) Tryz.func3
    (ChangeSpec.witness_shaped (enc := enc) (C := Tryz.checked) (os := os) (X := fun w _ => laidMetH Tryz.prog Rows.fnExactDerivationTextRow.laid w) false (World.laidAll Tryz.prog os Rows.fnExactDerivationTextRow.laid) #[.agg #[.int .i64 0, .slice none 0 0], .slice none 0 0] 8 (World.laidAll_os _ _ _)
      (World.shaped_of_ZipB (by kernel_rfl) (by kernel_rfl)) (by kernel_rfl) (by kernel_rfl) (by kernel_rfl)
      (by rw [MakeChecks.laidMetH_plain _ _ _ (by kernel_rfl)]; exact laidMet_laidAll _ (by kernel_rfl) (by kernel_rfl))) ?_
  intro W base args ds gs before hval0 hW _ _ hL0 _
  have hL := (MakeChecks.laidMetH_plain Tryz.prog Rows.fnExactDerivationTextRow.laid W (by kernel_rfl)) ▸ hL0
  have hT : TabI Tryz.prog (hpOf W) := tabH_of (Lib.tabIs_of_head (g := 1) (t := 119) (e := 109) (n := 20) (rest := []) (by kernel_rfl) (by kernel_rfl) (by kernel_rfl) (by kernel_rfl) (by kernel_rfl) (by kernel_rfl) (laidTab hL))
  have hval : ∀ (j : Nat) t v, Tryz.f3.params[j]? = some t → args[j]? = some v → Value.okWide Tryz.prog W .any base t v := hval0
  have hW' := hW
  obtain ⟨p, q, hA0, hV, rfl, _, _⟩ := hW
  have hA : DataW.TrodAll enc Tryz.prog W 0 (fun _ => true) true Tryz.f3.params.toList args.toList ds p := hA0
  rw [Tryz.params3] at hA hval
  obtain ⟨v0, vs0, d0, ds0, p0, q0, hargs, rfl, rfl, h0, r0⟩ := trodAll_cons hA
  obtain ⟨v1, vs1, d1, ds1, p1, q1, rfl, rfl, rfl, h1, r1⟩ := trodAll_cons r0
  obtain ⟨rfl, rfl, rfl⟩ := trodAll_nil r1
  obtain rfl : args = #[v0, v1] := by cases args; simp_all
  obtain ⟨rfl, rfl⟩ := trodVars_none hV
  have l0 : ∀ x ∈ p0, x.block < W.heap.size := fun x hx => hW'.lt x (by simp [hx])
  have l1 : ∀ x ∈ p1, x.block < W.heap.size := fun x hx => hW'.lt x (by simp [hx])
  obtain ⟨a0, cs0, rfl, e0, o0⟩ := arg_struct Tryz.underlying24 rd24 (hval 0 24 v0 rfl rfl) h0
  obtain ⟨u0_0, rfl, k0_0⟩ := eCnf_open e0
  obtain ⟨a1, k1, o1⟩ := arg_slice Tryz.underlying25 cof50 (by decide) rd50 (hval 1 25 v1 rfl rfl) h1
  refine (w_laws_FnExactDerivationText (sl_hpOf W) a0 u0_0 k0_0 v1 a1 k1 hT (plain_DerivationText a0 a1 o0 o1)).mono ?_
  rintro e W' ⟨rfl, hrun⟩
  exact ⟨_, rfl, post_law hW' rfl rfl rfl rfl Tryz.underlying4 (trodAll_cons_mk (trod_stays laidOut (by kernel_rfl) (of_decide_eq_true (by kernel_rfl)) (below_z (w := W) hrun.bel) l0 h0) (trodAll_cons_mk (trod_stays laidOut (by kernel_rfl) (of_decide_eq_true (by kernel_rfl)) (below_z (w := W) hrun.bel) l1 h1) trodAll_mk0)) (below_z (w := W) hrun.bel)⟩
theorem fInp : (Rows.fnExactDerivationTextRow.inPlace == Tryz.pinned.checked.prog.inPlace 3) = true := by kernel_rfl
theorem fUnf : (Rows.fnExactDerivationTextRow.unfollowed == Tryz.pinned.checked.prog.unfollowed 3) = true := by kernel_rfl
theorem fRec : (Rows.fnExactDerivationTextRow.recurses == Tryz.pinned.checked.prog.recurses 3) = true := by kernel_rfl
theorem fNam : (Rows.fnExactDerivationTextRow.named == Tryz.pinned.checked.prog.varsNamed 3) = true := by kernel_rfl
theorem fAll : joinedFacts Tryz.pinned.checked.prog 3 Tryz.f3 Rows.fnExactDerivationTextSpec Rows.fnExactDerivationTextRow = true := by
  unfold joinedFacts
  rw [fMay, fHeard, fLift, fInp, fUnf, fRec, fNam]
  kernel_rfl
theorem over : Rows.fnExactDerivationTextRow.holds Tryz.pinned (OpenSpec.ofChange Rows.fnExactDerivationTextSpec) :=
  OpenClaim.holds_of_wide 3 Tryz.f3 rfl rfl rfl rfl rfl rfl rfl ⟨rfl, rfl, rfl, rfl, rfl⟩ rfl rfl rfl rfl rfl (by kernel_rfl) Tryz.func3 fAll
    (of_decide_eq_true (by kernel_rfl)) (by unfold Func.isWrapper; first | (rw [if_pos (by decide +kernel)]; kernel_rfl) | (rw [if_neg (by decide +kernel)]; exact ⟨rfl, rfl⟩))
    (fun os started H enc _ => lifted os started H enc)
/-- the statement: the card -/
theorem proved : Rows.FnExactDerivationTextCardSaid :=
  Claim7.holds_tied_plain_at .later [] [.data, .data, .data] true (true, "8a77922764f4fbfcc34cab59e244afdbd741b99a6b0c4a9fd0342d8390558ca9") false over (fun _ h => by cases h) (by kernel_rfl) (fun _ h => by cases h) fnExactDerivationText_row_tie rfl ⟨rfl, rfl⟩ (by kernel_rfl) rfl
    (fun f fn hf hfn => by
      obtain rfl : f = 3 := Option.some.inj ((show Tryz.prog.funcNamed "loop.example/g01080/laws.FnExactDerivationText" = some 3 by kernel_rfl).symm.trans hf) |>.symm
      obtain rfl : fn = Tryz.f3 := (Option.some.inj (Tryz.func3.symm.trans hfn)).symm
      exact ⟨by kernel_rfl, fun j t ht => by
        rw [Tryz.params3] at ht
        have hm : t ∈ [24, 25] := by simpa using Array.mem_of_getElem? ht
        have hall : ([24, 25].all fun u => !Tryz.prog.wantsStandIn u) = true := by kernel_rfl
        exact (show Tryz.prog.wantsStandIn t = false by simpa using List.all_eq_true.1 hall t hm)⟩)
    (by kernel_rfl)
#print axioms proved

end Go.Proofs.YtjkhehplbjempaaGreatDoor
