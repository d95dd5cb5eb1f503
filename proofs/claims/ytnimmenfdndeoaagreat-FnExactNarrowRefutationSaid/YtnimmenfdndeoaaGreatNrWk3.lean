/- Part of the walks and plain laws behind the claim: it proves helpers, under no condition beyond their own. -/
import Derived.Test.YtnimmenfdndeoaaGreatNrWk2
set_option linter.unusedVariables false
set_option maxRecDepth 100000
namespace Go.Proofs
open Go.Mr Go.Pu Go.PF Go.RowKit

@[reducible] def p_spec_l10Closure (Ha : GH) (wa : World) (r : l10Work) : Ending → World → Prop :=
 fun e w' => ∃ H' : GH, ∃ v0_0 : Value, ∃ v0_1 : Value, ∃ v0_2 : Value, ∃ v0_3 : Value, ∃ v0_4 : Value, ∃ v0_5 : Value, e = .returned (Value.agg #[v0_0, v0_1, v0_2, v0_3, v0_4, v0_5]) ∧ Run wa.heap.size Ha wa H' w' ∧ RSl H' (eL eI 1) 1 v0_0 r.list ∧ RSl (up wa.heap.size H') eI 1 v0_1 r.rounds ∧ RSl (up wa.heap.size H') eI 1 v0_2 r.left ∧ RSl (up wa.heap.size H') eI 1 v0_3 r.right ∧ RSl (up wa.heap.size H') eI 1 v0_4 r.pivots ∧ RSl H' (eL eI 1) 1 v0_5 r.sorted
set_option maxHeartbeats 4000000 in
theorem w_spec_l10Closure {Ha : GH} {wa : World} (hs : Sl Ha wa) (a0 : Cnf) (v0_1 : Value) (p0_1 : RSl Ha (eL eI 1) 1 v0_1 a0.clauses) (a1 : Int) {r : l10Work} (hp : (PF.spec_l10Closure a0 a1) = some r) :
  Calls Tryz.prog 167 #[Value.agg #[Value.int .i64 a0.vars, v0_1], Value.int .i64 a1] wa (p_spec_l10Closure Ha wa r) := by
 unfold PF.spec_l10Closure at hp
 have S0 := St.init hs
 refine calls_go (N := 86) (args := [Value.agg #[Value.int .i64 a0.vars, v0_1], Value.int .i64 a1]) Tryz.func167 rfl rfl rfl ?_
 refine FW.seq (FW.region ?_)
 obtain ⟨b21, w22, run23, S24⟩ := S0.box (P := Tryz.prog) 30 [Value.int .i64 a0.vars, v0_1] (v := Value.agg #[Value.int .i64 a0.vars, v0_1]) rfl (ones_cons rfl (ones_cons p0_1.one ones_nil))
 refine FL.v (E.box rfl run23) ?_
 obtain ⟨H25, S26, i27, at28⟩ := S24.sealBox (i := 0) (l' := []) rfl rfl
 have S33 := S26.nil 25 1
 have els34 : Els (up wa.heap.size H25) (eL eI 1) 1 [] [] := Els.nil
 have S35 := S33.nil 3 1
 have els36 : Els (up wa.heap.size H25) eI 1 [] [] := Els.nil
 have S37 := S35.nil 3 1
 have els38 : Els (up wa.heap.size H25) eI 1 [] [] := Els.nil
 have S39 := S37.nil 3 1
 have els40 : Els (up wa.heap.size H25) eI 1 [] [] := Els.nil
 have S41 := S39.nil 3 1
 have els42 : Els (up wa.heap.size H25) eI 1 [] [] := Els.nil
 obtain ⟨b29, w30, run31, S32⟩ := S41.alloc (P := Tryz.prog) 163 [Value.slice none 0 0, Value.slice none 0 0, Value.slice none 0 0, Value.slice none 0 0, Value.slice none 0 0, Value.slice none 0 0] Tryz.zeroValue163 rfl (ones_cons rfl (ones_cons rfl (ones_cons rfl (ones_cons rfl (ones_cons rfl (ones_cons rfl ones_nil))))))
 refine FL.v (E.alloc run31) ?_
 refine FL.nil (FW.seq (FW.region ?_))
 refine FL.v (E.build (B0) (run_build _ 163 #[] #[Value.slice none 0 0, Value.slice none 0 0, Value.slice none 0 0, Value.slice none 0 0, Value.slice none 0 0, Value.slice none 0 0] (by rfl))) ?_
 obtain ⟨v43, w44, run45, S46⟩ := S32.buildSlice (P := Tryz.prog) te22 [] (parts := #[]) (cells := []) rfl szs_nil fc_nil ones_nil (Nat.le_of_ble_eq_true rfl)
 have els47 : Els (up wa.heap.size H25) (eL eI 1) 1 [] [] := Els.nil
 refine FL.v (E.buildSlice (B0) run45) ?_
 have S52 := S46.nil 25 1
 have els53 : Els (up wa.heap.size H25) (eL eI 1) 1 [] [] := Els.nil
 have S54 := S52.nil 3 1
 have els55 : Els (up wa.heap.size H25) eI 1 [] [] := Els.nil
 have S56 := S54.nil 3 1
 have els57 : Els (up wa.heap.size H25) eI 1 [] [] := Els.nil
 have S58 := S56.nil 3 1
 have els59 : Els (up wa.heap.size H25) eI 1 [] [] := Els.nil
 have S60 := S58.nil 3 1
 have els61 : Els (up wa.heap.size H25) eI 1 [] [] := Els.nil
 obtain ⟨b48, w49, run50, S51⟩ := S60.alloc (P := Tryz.prog) 163 [Value.slice none 0 0, Value.slice none 0 0, Value.slice none 0 0, Value.slice none 0 0, Value.slice none 0 0, Value.slice none 0 0] Tryz.zeroValue163 rfl (ones_cons rfl (ones_cons rfl (ones_cons rfl (ones_cons rfl (ones_cons rfl (ones_cons rfl ones_nil))))))
 refine FL.v (E.alloc run50) ?_
 have S62 := S51.nil 25 1
 have els63 : Els (up wa.heap.size H25) (eL eI 1) 1 [] [] := Els.nil
 have S64 := S62.nil 3 1
 have els65 : Els (up wa.heap.size H25) eI 1 [] [] := Els.nil
 have S66 := S64.nil 3 1
 have els67 : Els (up wa.heap.size H25) eI 1 [] [] := Els.nil
 have S68 := S66.nil 3 1
 have els69 : Els (up wa.heap.size H25) eI 1 [] [] := Els.nil
 have S70 := S68.nil 3 1
 have els71 : Els (up wa.heap.size H25) eI 1 [] [] := Els.nil
 obtain ⟨w72, run73, S74⟩ := S70.store0 (P := Tryz.prog) (t := 163) (i := 5) (cs' := [(Value.slice none 0 0), (Value.slice none 0 0), (Value.slice none 0 0), (Value.slice none 0 0), (Value.slice none 0 0), Value.slice none 0 0]) (l' := [.row 3 1 (Value.slice none 0 0) 0 [], .row 3 1 (Value.slice none 0 0) 0 [], .row 3 1 (Value.slice none 0 0) 0 [], .row 3 1 (Value.slice none 0 0) 0 [], .row 25 1 (Value.slice none 0 0) 0 [], .box b48 163 [(Value.slice none 0 0), (Value.slice none 0 0), (Value.slice none 0 0), (Value.slice none 0 0), (Value.slice none 0 0), Value.slice none 0 0], .row 3 1 (Value.slice none 0 0) 0 [], .row 3 1 (Value.slice none 0 0) 0 [], .row 3 1 (Value.slice none 0 0) 0 [], .row 3 1 (Value.slice none 0 0) 0 [], .row 25 1 (Value.slice none 0 0) 0 [], .row 25 1 v43 0 [], .box b29 163 [(Value.slice none 0 0), (Value.slice none 0 0), (Value.slice none 0 0), (Value.slice none 0 0), (Value.slice none 0 0), Value.slice none 0 0], .row 3 1 (Value.slice none 0 0) 0 [], .row 3 1 (Value.slice none 0 0) 0 [], .row 3 1 (Value.slice none 0 0) 0 [], .row 3 1 (Value.slice none 0 0) 0 [], .row 25 1 (Value.slice none 0 0) 0 []]) (v := Value.agg #[(Value.slice none 0 0), (Value.slice none 0 0), (Value.slice none 0 0), (Value.slice none 0 0), (Value.slice none 0 0), Value.slice none 0 0]) (c := [(Value.slice none 0 0), (Value.slice none 0 0), (Value.slice none 0 0), (Value.slice none 0 0), (Value.slice none 0 0), Value.slice none 0 0]) rfl Tryz.sizeOf163 rfl rfl (ones_cons (Ln.one (S70.row_ln (i := 4) rfl)) (ones_cons (Ln.one (S70.row_ln (i := 3) rfl)) (ones_cons (Ln.one (S70.row_ln (i := 2) rfl)) (ones_cons (Ln.one (S70.row_ln (i := 1) rfl)) (ones_cons (Ln.one (S70.row_ln (i := 0) rfl)) (ones_cons rfl ones_nil)))))) (Nat.le_of_ble_eq_true rfl) rfl rfl
 refine FL.act rfl rfl (E.store rfl rfl run73) ?_
 refine FL.v (E.assign (v := v43) rfl) ?_
 refine FL.nil (FW.seq (FW.seq (FW.region ?_)))
 refine FL.v (E.assign (v := Value.int .i64 0) rfl) ?_
 refine FL.nil ?_
 obtain ⟨H75, S76, i77, ns80, nv79⟩ := S74.sealRowN (i := 11) (l' := [.row 3 1 (Value.slice none 0 0) 0 [], .row 3 1 (Value.slice none 0 0) 0 [], .row 3 1 (Value.slice none 0 0) 0 [], .row 3 1 (Value.slice none 0 0) 0 [], .row 25 1 (Value.slice none 0 0) 0 [], .box b48 163 [(Value.slice none 0 0), (Value.slice none 0 0), (Value.slice none 0 0), (Value.slice none 0 0), (Value.slice none 0 0), Value.slice none 0 0], .row 3 1 (Value.slice none 0 0) 0 [], .row 3 1 (Value.slice none 0 0) 0 [], .row 3 1 (Value.slice none 0 0) 0 [], .row 3 1 (Value.slice none 0 0) 0 [], .row 25 1 (Value.slice none 0 0) 0 [], .box b29 163 [(Value.slice none 0 0), (Value.slice none 0 0), (Value.slice none 0 0), (Value.slice none 0 0), (Value.slice none 0 0), Value.slice none 0 0], .row 3 1 (Value.slice none 0 0) 0 [], .row 3 1 (Value.slice none 0 0) 0 [], .row 3 1 (Value.slice none 0 0) 0 [], .row 3 1 (Value.slice none 0 0) 0 [], .row 25 1 (Value.slice none 0 0) 0 []]) rfl els47 (show (bl []).Nodup from List.nodup_nil) (by decide) rfl
 have h78 := ns80.rsl
 obtain ⟨q81, hq, hp⟩ := bndR hp
 refine FW.block ?_
 refine FW.mono (FW.iter (S := ((List (List Int)) × Int)) (X := Empty) (fun (s81 : ((List (List Int)) × Int)) f w => ∃ H : GH, ∃ v82 : Value, St Ha wa H w [.row 3 1 (Value.slice none 0 0) 0 [], .row 3 1 (Value.slice none 0 0) 0 [], .row 3 1 (Value.slice none 0 0) 0 [], .row 3 1 (Value.slice none 0 0) 0 [], .row 25 1 (Value.slice none 0 0) 0 [], .box b48 163 [(Value.slice none 0 0), (Value.slice none 0 0), (Value.slice none 0 0), (Value.slice none 0 0), (Value.slice none 0 0), Value.slice none 0 0], .box b29 163 [(Value.slice none 0 0), (Value.slice none 0 0), (Value.slice none 0 0), (Value.slice none 0 0), (Value.slice none 0 0), Value.slice none 0 0], .row 3 1 (Value.slice none 0 0) 0 [], .row 3 1 (Value.slice none 0 0) 0 [], .row 3 1 (Value.slice none 0 0) 0 [], .row 3 1 (Value.slice none 0 0) 0 [], .row 25 1 (Value.slice none 0 0) 0 []] ∧ Inc H75 H ∧ RSl H (eL eI 1) 1 v82 s81.1 ∧ f 1 = Value.int .i64 a1 ∧ f 2 = Value.pointer (some ⟨b21, 0, none⟩) ∧ f 4 = Value.pointer (some (⟨b29, 0, none⟩ : Addr)) ∧ f 5 = Value.pointer (some (⟨b48, 0, none⟩ : Addr)) ∧ f 6 = v82 ∧ f 7 = Value.int .i64 s81.2) (fun (q : Rs ((List (List Int)) × Int) Empty) e f w => match q with | .go s81 => e = Exit.exit 0 ∧ (∃ H : GH, ∃ v82 : Value, St Ha wa H w [.row 3 1 (Value.slice none 0 0) 0 [], .row 3 1 (Value.slice none 0 0) 0 [], .row 3 1 (Value.slice none 0 0) 0 [], .row 3 1 (Value.slice none 0 0) 0 [], .row 25 1 (Value.slice none 0 0) 0 [], .box b48 163 [(Value.slice none 0 0), (Value.slice none 0 0), (Value.slice none 0 0), (Value.slice none 0 0), (Value.slice none 0 0), Value.slice none 0 0], .box b29 163 [(Value.slice none 0 0), (Value.slice none 0 0), (Value.slice none 0 0), (Value.slice none 0 0), (Value.slice none 0 0), Value.slice none 0 0], .row 3 1 (Value.slice none 0 0) 0 [], .row 3 1 (Value.slice none 0 0) 0 [], .row 3 1 (Value.slice none 0 0) 0 [], .row 3 1 (Value.slice none 0 0) 0 [], .row 25 1 (Value.slice none 0 0) 0 []] ∧ Inc H75 H ∧ RSl H (eL eI 1) 1 v82 s81.1 ∧ f 1 = Value.int .i64 a1 ∧ f 2 = Value.pointer (some ⟨b21, 0, none⟩) ∧ f 4 = Value.pointer (some (⟨b29, 0, none⟩ : Addr)) ∧ f 5 = Value.pointer (some (⟨b48, 0, none⟩ : Addr)) ∧ f 6 = v82) | .rt x => x.elim) hq ⟨_, _, (S76.sel [0, 1, 2, 3, 4, 5, 11, 12, 13, 14, 15, 16] (by decide) rfl), (Inc.rfl _), (h78.mono upI), rfl, rfl, rfl, rfl, rfl, rfl⟩ ?_) ?_
 ·
  clear hp hq
  rintro s81 f144 w143 ⟨H140, v82, S141, i142, h83, k145, k146, k147, k148, k149, k150⟩ o196 hp
  refine FW.seq (FW.seq (FW.region ?_))
  refine FL.v (E.move k150) ?_
  refine FL.v (E.fieldAddr tf30_1 k146) ?_
  refine FL.v (E.load rfl (run_load1 Tryz.isAgg22 ((at28.mono (i77.tr i142)).now S141.sl) rfl)) ?_
  refine FL.v (E.lenP te22 rfl p0_1) ?_
  refine FL.v (E.lss rfl rfl) ?_
  refine FL.nil ?_
  rcases ifB hp with ⟨c151, hp⟩ | ⟨c151, hp⟩
  ·
   refine FW.condT rfl c151 ?_
   refine FW.skip (FW.seq (FW.block (FW.seq (FW.region ?_))))
   refine FL.v (E.fieldAddr tf30_1 k146) ?_
   refine FL.v (E.load rfl (run_load1 Tryz.isAgg22 ((at28.mono (i77.tr i142)).now S141.sl) rfl)) ?_
   refine FL.v (E.move k150) ?_
   obtain ⟨x158, hx159, hp⟩ := bnd hp
   obtain ⟨p152, cs153, pt154, l155, at156, rel157⟩ := p0_1.at hx159
   obtain ⟨v160, rfl, h161⟩ := eL_open rel157
   refine FL.v (E.indexAddr te22 rfl rfl pt154) ?_
   refine FL.v (E.load rfl (run_load0 Tryz.isAgg25 ((at156.mono ((i27.tr i77).tr i142)).now S141.sl) rfl)) ?_
   refine FL.v (E.lenP te25 rfl h161) ?_
   refine FL.v (E.move k145) ?_
   refine FL.v (E.leq rfl rfl) ?_
   refine FL.nil ?_
   rcases ifB hp with ⟨c162, hp⟩ | ⟨c162, hp⟩
   ·
    refine FW.condT rfl c162 ?_
    refine FW.region ?_
    refine FL.v (E.move k149) ?_
    refine FL.v (E.fieldAddr tf30_1 k146) ?_
    refine FL.v (E.load rfl (run_load1 Tryz.isAgg22 ((at28.mono (i77.tr i142)).now S141.sl) rfl)) ?_
    refine FL.v (E.move k150) ?_
    obtain ⟨x169, hx170, hp⟩ := bnd hp
    obtain ⟨p163, cs164, pt165, l166, at167, rel168⟩ := p0_1.at hx170
    obtain ⟨v171, rfl, h172⟩ := eL_open rel168
    refine FL.v (E.indexAddr te22 rfl rfl pt165) ?_
    refine FL.v (E.load rfl (run_load0 Tryz.isAgg25 ((at167.mono ((i27.tr i77).tr i142)).now S141.sl) rfl)) ?_
    obtain ⟨r173, hr174, hp⟩ := bnd hp
    refine FL.call rfl rfl rfl (E.call Tryz.call214 (A1 rfl)) (w_spec_l1Own S141.sl v171 x169 (h172.mono ((i27.tr i77).tr i142)) hr174) ?_
    rintro e w176 ⟨H175, v179, n180, cs181, rfl, r178, els182⟩
    refine ⟨_, rfl, ?_⟩
    have els182 := els182.mono (up_le S141.size)
    have S177 := S141.join (l' := [.row 3 1 v179 n180 cs181, .row 3 1 (Value.slice none 0 0) 0 [], .row 3 1 (Value.slice none 0 0) 0 [], .row 3 1 (Value.slice none 0 0) 0 [], .row 3 1 (Value.slice none 0 0) 0 [], .row 25 1 (Value.slice none 0 0) 0 [], .box b48 163 [(Value.slice none 0 0), (Value.slice none 0 0), (Value.slice none 0 0), (Value.slice none 0 0), (Value.slice none 0 0), Value.slice none 0 0], .box b29 163 [(Value.slice none 0 0), (Value.slice none 0 0), (Value.slice none 0 0), (Value.slice none 0 0), (Value.slice none 0 0), Value.slice none 0 0], .row 3 1 (Value.slice none 0 0) 0 [], .row 3 1 (Value.slice none 0 0) 0 [], .row 3 1 (Value.slice none 0 0) 0 [], .row 3 1 (Value.slice none 0 0) 0 [], .row 25 1 (Value.slice none 0 0) 0 []]) r178 rfl
    obtain ⟨H183, S184, i185, h186, nv187⟩ := S177.sealRowU (i := 0) (l' := [.row 3 1 (Value.slice none 0 0) 0 [], .row 3 1 (Value.slice none 0 0) 0 [], .row 3 1 (Value.slice none 0 0) 0 [], .row 3 1 (Value.slice none 0 0) 0 [], .row 25 1 (Value.slice none 0 0) 0 [], .box b48 163 [(Value.slice none 0 0), (Value.slice none 0 0), (Value.slice none 0 0), (Value.slice none 0 0), (Value.slice none 0 0), Value.slice none 0 0], .box b29 163 [(Value.slice none 0 0), (Value.slice none 0 0), (Value.slice none 0 0), (Value.slice none 0 0), (Value.slice none 0 0), Value.slice none 0 0], .row 3 1 (Value.slice none 0 0) 0 [], .row 3 1 (Value.slice none 0 0) 0 [], .row 3 1 (Value.slice none 0 0) 0 [], .row 3 1 (Value.slice none 0 0) 0 [], .row 25 1 (Value.slice none 0 0) 0 []]) rfl els182 (by decide) rfl
    obtain ⟨r188, hr189, hp⟩ := bnd hp
    refine FL.call rfl rfl rfl (E.call Tryz.call195 (A2 rfl rfl)) (w_spec_l2Insert S184.sl v82 s81.1 (h83.mono (r178.run.inc.tr i185)) v179 r173 (h186.mono upI) hr189) ?_
    rintro e w191 ⟨H190, v194, rfl, r193, h195⟩
    refine ⟨_, rfl, ?_⟩
    have S192 := S184.call r193
    refine FL.v (E.assign (v := v194) rfl) ?_
    refine FL.nil (FW.region ?_)
    refine FL.v (E.move k150) ?_
    refine FL.v (E.add rfl rfl) ?_
    refine FL.v (E.assign (v := Value.int .i64 (wr (s81.2 + 1))) rfl) ?_
    refine FL.nil ?_
    obtain rfl := Option.some.inj hp
    exact ⟨rfl, ⟨_, _, S192, (((i142.tr r178.run.inc).tr i185).tr r193.inc), h195, k145, k146, k147, k148, rfl, rfl⟩⟩
   ·
    refine FW.condF rfl c162 ?_
    refine FW.skip (FW.region ?_)
    refine FL.v (E.move k150) ?_
    refine FL.v (E.add rfl rfl) ?_
    refine FL.v (E.assign (v := Value.int .i64 (wr (s81.2 + 1))) rfl) ?_
    refine FL.nil ?_
    obtain rfl := Option.some.inj hp
    exact ⟨rfl, ⟨_, _, S141, i142, h83, k145, k146, k147, k148, k149, rfl⟩⟩
  ·
   refine FW.condF rfl c151 ?_
   refine FW.exit ?_
   obtain rfl := Option.some.inj hp
   exact ⟨nofun, rfl, ⟨_, _, S141, i142, h83, k145, k146, k147, k148, k149⟩⟩
 ·
  clear hq
  intro e f201 w200 hD
  rcases q81 with s81 | x81
  ·
   obtain ⟨rfl, hD⟩ := hD
   obtain ⟨H197, v82, S198, i199, h83, k202, k203, k204, k205, k206⟩ := hD
   replace hp := el_go hp
   refine FW.seq (FW.seq (FW.region ?_))
   refine FL.v (E.assign (v := Value.int .i64 0) rfl) ?_
   refine FL.nil ?_
   obtain ⟨q208, hq, hp⟩ := bndR hp
   refine FW.block ?_
   refine FW.mono (FW.forL (S := ((List Int) × (List Int) × (List Int) × (List Int) × (List (List Int)) × (List (List Int)))) (X := Empty) (fun (i208 : Nat) (s208 : ((List Int) × (List Int) × (List Int) × (List Int) × (List (List Int)) × (List (List Int)))) f w => ∃ H : GH, ∃ v84 : Value, ∃ n85 : Nat, ∃ cs86 : List Value, ∃ v88 : Value, ∃ n89 : Nat, ∃ cs90 : List Value, ∃ v92 : Value, ∃ n93 : Nat, ∃ cs94 : List Value, ∃ v96 : Value, ∃ n97 : Nat, ∃ cs98 : List Value, ∃ v100 : Value, ∃ n101 : Nat, ∃ cs102 : List Value, ∃ v104 : Value, St Ha wa H w [.row 3 1 v84 n85 cs86, .row 3 1 v88 n89 cs90, .row 3 1 v92 n93 cs94, .row 3 1 v96 n97 cs98, .row 25 1 v100 n101 cs102, .box b48 163 [v100, v96, v92, v88, v84, v104], .box b29 163 [(Value.slice none 0 0), (Value.slice none 0 0), (Value.slice none 0 0), (Value.slice none 0 0), (Value.slice none 0 0), Value.slice none 0 0], .row 3 1 (Value.slice none 0 0) 0 [], .row 3 1 (Value.slice none 0 0) 0 [], .row 3 1 (Value.slice none 0 0) 0 [], .row 3 1 (Value.slice none 0 0) 0 [], .row 25 1 (Value.slice none 0 0) 0 []] ∧ Inc H197 H ∧ Els (up wa.heap.size H) eI 1 cs86 s208.1 ∧ Els (up wa.heap.size H) eI 1 cs90 s208.2.1 ∧ Els (up wa.heap.size H) eI 1 cs94 s208.2.2.1 ∧ Els (up wa.heap.size H) eI 1 cs98 s208.2.2.2.1 ∧ Els H (eL eI 1) 1 cs102 s208.2.2.2.2.1 ∧ RSl H (eL eI 1) 1 v104 s208.2.2.2.2.2 ∧ f 8 = Value.int .i64 ((i208 : Nat) : Int) ∧ f 1 = Value.int .i64 a1 ∧ f 2 = Value.pointer (some ⟨b21, 0, none⟩) ∧ f 4 = Value.pointer (some (⟨b29, 0, none⟩ : Addr)) ∧ f 5 = Value.pointer (some (⟨b48, 0, none⟩ : Addr)) ∧ f 6 = v82) (fun (q : Rs ((List Int) × (List Int) × (List Int) × (List Int) × (List (List Int)) × (List (List Int))) Empty) e f w => match q with | .go s208 => e = Exit.exit 2 ∧ (∃ H : GH, ∃ v84 : Value, ∃ n85 : Nat, ∃ cs86 : List Value, ∃ v88 : Value, ∃ n89 : Nat, ∃ cs90 : List Value, ∃ v92 : Value, ∃ n93 : Nat, ∃ cs94 : List Value, ∃ v96 : Value, ∃ n97 : Nat, ∃ cs98 : List Value, ∃ v100 : Value, ∃ n101 : Nat, ∃ cs102 : List Value, ∃ v104 : Value, St Ha wa H w [.row 3 1 v84 n85 cs86, .row 3 1 v88 n89 cs90, .row 3 1 v92 n93 cs94, .row 3 1 v96 n97 cs98, .row 25 1 v100 n101 cs102, .box b48 163 [v100, v96, v92, v88, v84, v104], .box b29 163 [(Value.slice none 0 0), (Value.slice none 0 0), (Value.slice none 0 0), (Value.slice none 0 0), (Value.slice none 0 0), Value.slice none 0 0], .row 3 1 (Value.slice none 0 0) 0 [], .row 3 1 (Value.slice none 0 0) 0 [], .row 3 1 (Value.slice none 0 0) 0 [], .row 3 1 (Value.slice none 0 0) 0 [], .row 25 1 (Value.slice none 0 0) 0 []] ∧ Inc H197 H ∧ Els (up wa.heap.size H) eI 1 cs86 s208.1 ∧ Els (up wa.heap.size H) eI 1 cs90 s208.2.1 ∧ Els (up wa.heap.size H) eI 1 cs94 s208.2.2.1 ∧ Els (up wa.heap.size H) eI 1 cs98 s208.2.2.2.1 ∧ Els H (eL eI 1) 1 cs102 s208.2.2.2.2.1 ∧ RSl H (eL eI 1) 1 v104 s208.2.2.2.2.2 ∧ f 1 = Value.int .i64 a1 ∧ f 2 = Value.pointer (some ⟨b21, 0, none⟩) ∧ f 4 = Value.pointer (some (⟨b29, 0, none⟩ : Addr)) ∧ f 5 = Value.pointer (some (⟨b48, 0, none⟩ : Addr)) ∧ f 6 = v82) | .rt x => x.elim) hq ⟨_, _, _, _, _, _, _, _, _, _, _, _, _, _, _, _, _, S198, (Inc.rfl _), (els71.mono (up_mono (i77.tr i199))), (els69.mono (up_mono (i77.tr i199))), (els67.mono (up_mono (i77.tr i199))), (els65.mono (up_mono (i77.tr i199))), (els63.mono (upI.tr (i77.tr i199))), (RSl.nil _ _ _), rfl, k202, k203, k204, k205, k206⟩ ?_ ?_) ?_
   ·
    clear hp hq
    rintro i208 y207 s208 f110 w109 ⟨H106, v84, n85, cs86, v88, n89, cs90, v92, n93, cs94, v96, n97, cs98, v100, n101, cs102, v104, S107, i108, els87, els91, els95, els99, els103, h105, k111, k112, k113, k114, k115, k116⟩ hx208 o309 hp
    refine FW.seq (FW.seq (FW.region ?_))
    refine FL.v (E.move k111) ?_
    refine FL.v (E.move k116) ?_
    refine FL.v (E.lenP te22 rfl h83) ?_
    refine FL.v (E.lssT rfl rfl (lss_len hx208)) ?_
    refine FL.nil ?_
    refine FW.condT rfl rfl ?_
    refine FW.skip (FW.seq (FW.block (FW.seq ?_)))
    obtain ⟨xs133, hz134, hp⟩ := bnd hp
    refine FW.drawB (Sl H106) (fun f w => ∃ H : GH, ∃ v216 : Value, ∃ n217 : Nat, ∃ cs218 : List Value, ∃ v220 : Value, St Ha wa H w [.row 3 1 v84 n85 cs86, .row 3 1 v88 n89 cs90, .row 3 1 v92 n93 cs94, .row 3 1 v96 n97 cs98, .row 25 1 v216 n217 cs218, .box b48 163 [v216, v96, v92, v88, v84, v220], .box b29 163 [(Value.slice none 0 0), (Value.slice none 0 0), (Value.slice none 0 0), (Value.slice none 0 0), (Value.slice none 0 0), Value.slice none 0 0], .row 3 1 (Value.slice none 0 0) 0 [], .row 3 1 (Value.slice none 0 0) 0 [], .row 3 1 (Value.slice none 0 0) 0 [], .row 3 1 (Value.slice none 0 0) 0 [], .row 25 1 (Value.slice none 0 0) 0 []] ∧ Inc H106 H ∧ Els H (eL eI 1) 1 cs218 xs133 ∧ RSl H (eL eI 1) 1 v220 s208.2.2.2.2.2 ∧ f 1 = Value.int .i64 a1 ∧ f 2 = Value.pointer (some ⟨b21, 0, none⟩) ∧ f 4 = Value.pointer (some (⟨b29, 0, none⟩ : Addr)) ∧ f 5 = Value.pointer (some (⟨b48, 0, none⟩ : Addr)) ∧ f 6 = v82 ∧ f 8 = Value.int .i64 ((i208 : Nat) : Int)) (by kernel_rfl) S107.sl ?_ ?_
    ·
     intro w117 r118
     have S119 := S107.call r118
     refine FB.phase [9] (fun w => WAt w (Addr.add ⟨b48, 0, none⟩ 0) [v100]) ?_
     refine FB.t (i := 0) (bs 10 1) rfl (SP.on ((S119.box_now (i := 5) rfl).sub (j := 0) (n := 1) (c := [v100]) rfl) (SP.nil S119.sl)) rfl (fun w' hw' => (E.fieldAddr tf163_0 k115)) ?_
     refine FB.p (i := 1) (bs 10 3) 0 [7, 8, 9] rfl (SP.on ((S119.box_now (i := 5) rfl).sub (j := 0) (n := 1) (c := [v100]) rfl) (SP.nil S119.sl)) rfl rfl (fun w' hw' => (E.load rfl (run_load0 Tryz.isAgg22 hw' rfl))) ?_
     refine FB.t (i := 2) (bs 10 7) rfl (SP.on ((S119.box_now (i := 5) rfl).sub (j := 0) (n := 1) (c := [v100]) rfl) (SP.nil S119.sl)) rfl (fun w' hw' => (E.move k116)) ?_
     refine FB.t (i := 3) (bs 10 15) rfl (SP.on ((S119.box_now (i := 5) rfl).sub (j := 0) (n := 1) (c := [v100]) rfl) (SP.nil S119.sl)) rfl (fun w' hw' => (E.move k111)) ?_
     obtain ⟨p120, cs121, pt122, l123, at124, rel125⟩ := h83.at (ix_nat hx208)
     obtain ⟨v126, rfl, h127⟩ := eL_open rel125
     refine FB.t (i := 4) (bs 10 31) rfl (SP.on ((S119.box_now (i := 5) rfl).sub (j := 0) (n := 1) (c := [v100]) rfl) (SP.nil S119.sl)) rfl (fun w' hw' => (E.indexAddr te22 rfl rfl pt122)) ?_
     refine FB.t (i := 5) (bs 10 63) rfl (SP.on ((S119.box_now (i := 5) rfl).sub (j := 0) (n := 1) (c := [v100]) rfl) (SP.nil S119.sl)) rfl (fun w' hw' => (E.load rfl (run_load0 Tryz.isAgg25 ((at124.mono i108).now hw') rfl))) ?_
     refine FB.all1 (i := 6) (by kernel_rfl) ?_
     ·
      obtain ⟨v128, w129, run130, S131⟩ := S119.buildSlice (P := Tryz.prog) te22 [v126] (parts := #[(0, v126)]) (cells := [v126]) rfl (szs_cons (cells_size h127.cells) szs_nil) (fc_cons h127.cells fc_nil) (ones_cons h127.one ones_nil) (Nat.le_of_ble_eq_true rfl)
      have els132 : Els H106 (eL eI 1) 1 [v126] [y207] := (Els.snoc (H := H106) (E := (eL eI 1)) (k := 1) (c := [v126]) (x := y207) Els.nil rfl ⟨_, rfl, (h127.mono i108)⟩)
      refine FC.val (l' := (bs 10 127)) rfl (by kernel_rfl) rfl rfl rfl (E.buildSlice (B1 rfl) run130) ?_
      refine ⟨(SP.on ((S131.box_now (i := 6) rfl).sub (j := 0) (n := 1) (c := [v100]) rfl) (SP.nil S131.sl)), ?_⟩
      refine FB.all1 (i := 7) (by kernel_rfl) ?_
      ·
       obtain ⟨v135, w138, n136, cs137, run139, S209, els210, ce211⟩ := S131.appendO (P := Tryz.prog) te22 (i := 5) (j := 0) rfl els103 rfl els132 hz134
       have S209 : St Ha wa H106 w138 [.row 25 1 v128 1 [v126], .row 3 1 v84 n85 cs86, .row 3 1 v88 n89 cs90, .row 3 1 v92 n93 cs94, .row 3 1 v96 n97 cs98, .row 25 1 v135 n136 cs137, .box b48 163 [v100, v96, v92, v88, v84, v104], .box b29 163 [(Value.slice none 0 0), (Value.slice none 0 0), (Value.slice none 0 0), (Value.slice none 0 0), (Value.slice none 0 0), Value.slice none 0 0], .row 3 1 (Value.slice none 0 0) 0 [], .row 3 1 (Value.slice none 0 0) 0 [], .row 3 1 (Value.slice none 0 0) 0 [], .row 3 1 (Value.slice none 0 0) 0 [], .row 25 1 (Value.slice none 0 0) 0 []] := S209
       have S212 : St Ha wa H106 w138 [.row 3 1 v84 n85 cs86, .row 3 1 v88 n89 cs90, .row 3 1 v92 n93 cs94, .row 3 1 v96 n97 cs98, .row 25 1 v135 n136 cs137, .box b48 163 [v100, v96, v92, v88, v84, v104], .box b29 163 [(Value.slice none 0 0), (Value.slice none 0 0), (Value.slice none 0 0), (Value.slice none 0 0), (Value.slice none 0 0), Value.slice none 0 0], .row 3 1 (Value.slice none 0 0) 0 [], .row 3 1 (Value.slice none 0 0) 0 [], .row 3 1 (Value.slice none 0 0) 0 [], .row 3 1 (Value.slice none 0 0) 0 [], .row 25 1 (Value.slice none 0 0) 0 []] := S209.drop 0
       refine FC.val (l' := (bs 10 255)) rfl (by kernel_rfl) rfl rfl rfl (E.append rfl rfl run139) ?_
       refine ⟨(SP.on ((S212.box_now (i := 5) rfl).sub (j := 0) (n := 1) (c := [v100]) rfl) (SP.nil S212.sl)), ?_⟩
       refine FB.t (i := 8) (bs 10 511) rfl (SP.on ((S212.box_now (i := 5) rfl).sub (j := 0) (n := 1) (c := [v100]) rfl) (SP.nil S212.sl)) rfl (fun w' hw' => (E.fieldAddr tf163_0 k115)) ?_
       refine FB.all1 (i := 9) (by kernel_rfl) ?_
       ·
        obtain ⟨w213, run214, S215⟩ := S212.store (P := Tryz.prog) (t := 22) (i := 5) (j := 0) (cs' := [v135, v96, v92, v88, v84, v104]) (l' := [.row 3 1 v84 n85 cs86, .row 3 1 v88 n89 cs90, .row 3 1 v92 n93 cs94, .row 3 1 v96 n97 cs98, .row 25 1 v135 n136 cs137, .box b48 163 [v135, v96, v92, v88, v84, v104], .box b29 163 [(Value.slice none 0 0), (Value.slice none 0 0), (Value.slice none 0 0), (Value.slice none 0 0), (Value.slice none 0 0), Value.slice none 0 0], .row 3 1 (Value.slice none 0 0) 0 [], .row 3 1 (Value.slice none 0 0) 0 [], .row 3 1 (Value.slice none 0 0) 0 [], .row 3 1 (Value.slice none 0 0) 0 [], .row 25 1 (Value.slice none 0 0) 0 []]) (v := v135) (c := [v135]) rfl Tryz.sizeOf22 (Ln.cells (S212.row_ln (i := 4) rfl)) rfl (ones_cons (Ln.one (S212.row_ln (i := 4) rfl)) ones_nil) (Nat.le_of_ble_eq_true rfl) rfl rfl
        refine FC.act (l' := (bs 10 1023)) rfl (by kernel_rfl) rfl rfl (E.store rfl rfl run214) ?_
        refine ⟨(SP.o (SP.nil S215.sl)), ?_⟩
        exact FB.done (by kernel_rfl) ⟨_, _, _, _, _, S215, (Inc.rfl _), els210, h105, k112, k113, k114, k115, k116, k111⟩
    ·
     rintro f226 w225 ⟨H222, v216, n217, cs218, v220, S223, i224, els219, h221, k227, k228, k229, k230, k231, k232⟩
     refine FW.seq (FW.region ?_)
     refine FL.v (E.fieldAddr tf163_1 k230) ?_
     refine FL.v (E.load rfl (run_load1 Tryz.isAgg25 (S223.box_now (i := 5) rfl) rfl)) ?_
     obtain ⟨v233, w234, run235, S236, els237⟩ := S223.ints (P := Tryz.prog) te25 (up wa.heap.size H222) 1 [0]
     refine FL.v (E.buildSlice (B1 rfl) run235) ?_
     obtain ⟨xs238, hz239, hp⟩ := bnd hp
     obtain ⟨v240, w243, n241, cs242, run244, S245, els246, ce247⟩ := S236.appendO (P := Tryz.prog) te25 (i := 4) (j := 0) rfl (els99.mono (up_mono i224)) rfl els237 hz239
     have S245 : St Ha wa H222 w243 [.row 3 1 v233 1 (iC [0]), .row 3 1 v84 n85 cs86, .row 3 1 v88 n89 cs90, .row 3 1 v92 n93 cs94, .row 3 1 v240 n241 cs242, .row 25 1 v216 n217 cs218, .box b48 163 [v216, v96, v92, v88, v84, v220], .box b29 163 [(Value.slice none 0 0), (Value.slice none 0 0), (Value.slice none 0 0), (Value.slice none 0 0), (Value.slice none 0 0), Value.slice none 0 0], .row 3 1 (Value.slice none 0 0) 0 [], .row 3 1 (Value.slice none 0 0) 0 [], .row 3 1 (Value.slice none 0 0) 0 [], .row 3 1 (Value.slice none 0 0) 0 [], .row 25 1 (Value.slice none 0 0) 0 []] := S245
     have S248 : St Ha wa H222 w243 [.row 3 1 v84 n85 cs86, .row 3 1 v88 n89 cs90, .row 3 1 v92 n93 cs94, .row 3 1 v240 n241 cs242, .row 25 1 v216 n217 cs218, .box b48 163 [v216, v96, v92, v88, v84, v220], .box b29 163 [(Value.slice none 0 0), (Value.slice none 0 0), (Value.slice none 0 0), (Value.slice none 0 0), (Value.slice none 0 0), Value.slice none 0 0], .row 3 1 (Value.slice none 0 0) 0 [], .row 3 1 (Value.slice none 0 0) 0 [], .row 3 1 (Value.slice none 0 0) 0 [], .row 3 1 (Value.slice none 0 0) 0 [], .row 25 1 (Value.slice none 0 0) 0 []] := S245.drop 0
     refine FL.v (E.append rfl rfl run244) ?_
     refine FL.v (E.fieldAddr tf163_1 k230) ?_
     obtain ⟨w249, run250, S251⟩ := S248.store (P := Tryz.prog) (t := 25) (i := 5) (j := 1) (cs' := [v216, v240, v92, v88, v84, v220]) (l' := [.row 3 1 v84 n85 cs86, .row 3 1 v88 n89 cs90, .row 3 1 v92 n93 cs94, .row 3 1 v240 n241 cs242, .row 25 1 v216 n217 cs218, .box b48 163 [v216, v240, v92, v88, v84, v220], .box b29 163 [(Value.slice none 0 0), (Value.slice none 0 0), (Value.slice none 0 0), (Value.slice none 0 0), (Value.slice none 0 0), Value.slice none 0 0], .row 3 1 (Value.slice none 0 0) 0 [], .row 3 1 (Value.slice none 0 0) 0 [], .row 3 1 (Value.slice none 0 0) 0 [], .row 3 1 (Value.slice none 0 0) 0 [], .row 25 1 (Value.slice none 0 0) 0 []]) (v := v240) (c := [v240]) rfl Tryz.sizeOf25 (Ln.cells (S248.row_ln (i := 3) rfl)) rfl (ones_cons (Ln.one (S248.row_ln (i := 3) rfl)) ones_nil) (Nat.le_of_ble_eq_true rfl) rfl rfl
     refine FL.act rfl rfl (E.store rfl rfl run250) ?_
     refine FL.nil (FW.seq (FW.region ?_))
     refine FL.v (E.fieldAddr tf163_2 k230) ?_
     refine FL.v (E.load rfl (run_load1 Tryz.isAgg25 (S251.box_now (i := 5) rfl) rfl)) ?_
     obtain ⟨v252, w253, run254, S255, els256⟩ := S251.ints (P := Tryz.prog) te25 (up wa.heap.size H222) 1 [(-1)]
     refine FL.v (E.buildSlice (B1 rfl) run254) ?_
     obtain ⟨xs257, hz258, hp⟩ := bnd hp
     obtain ⟨v259, w262, n260, cs261, run263, S264, els265, ce266⟩ := S255.appendO (P := Tryz.prog) te25 (i := 3) (j := 0) rfl (els95.mono (up_mono i224)) rfl els256 hz258
     have S264 : St Ha wa H222 w262 [.row 3 1 v252 1 (iC [(-1)]), .row 3 1 v84 n85 cs86, .row 3 1 v88 n89 cs90, .row 3 1 v259 n260 cs261, .row 3 1 v240 n241 cs242, .row 25 1 v216 n217 cs218, .box b48 163 [v216, v240, v92, v88, v84, v220], .box b29 163 [(Value.slice none 0 0), (Value.slice none 0 0), (Value.slice none 0 0), (Value.slice none 0 0), (Value.slice none 0 0), Value.slice none 0 0], .row 3 1 (Value.slice none 0 0) 0 [], .row 3 1 (Value.slice none 0 0) 0 [], .row 3 1 (Value.slice none 0 0) 0 [], .row 3 1 (Value.slice none 0 0) 0 [], .row 25 1 (Value.slice none 0 0) 0 []] := S264
     have S267 : St Ha wa H222 w262 [.row 3 1 v84 n85 cs86, .row 3 1 v88 n89 cs90, .row 3 1 v259 n260 cs261, .row 3 1 v240 n241 cs242, .row 25 1 v216 n217 cs218, .box b48 163 [v216, v240, v92, v88, v84, v220], .box b29 163 [(Value.slice none 0 0), (Value.slice none 0 0), (Value.slice none 0 0), (Value.slice none 0 0), (Value.slice none 0 0), Value.slice none 0 0], .row 3 1 (Value.slice none 0 0) 0 [], .row 3 1 (Value.slice none 0 0) 0 [], .row 3 1 (Value.slice none 0 0) 0 [], .row 3 1 (Value.slice none 0 0) 0 [], .row 25 1 (Value.slice none 0 0) 0 []] := S264.drop 0
     refine FL.v (E.append rfl rfl run263) ?_
     refine FL.v (E.fieldAddr tf163_2 k230) ?_
     obtain ⟨w268, run269, S270⟩ := S267.store (P := Tryz.prog) (t := 25) (i := 5) (j := 2) (cs' := [v216, v240, v259, v88, v84, v220]) (l' := [.row 3 1 v84 n85 cs86, .row 3 1 v88 n89 cs90, .row 3 1 v259 n260 cs261, .row 3 1 v240 n241 cs242, .row 25 1 v216 n217 cs218, .box b48 163 [v216, v240, v259, v88, v84, v220], .box b29 163 [(Value.slice none 0 0), (Value.slice none 0 0), (Value.slice none 0 0), (Value.slice none 0 0), (Value.slice none 0 0), Value.slice none 0 0], .row 3 1 (Value.slice none 0 0) 0 [], .row 3 1 (Value.slice none 0 0) 0 [], .row 3 1 (Value.slice none 0 0) 0 [], .row 3 1 (Value.slice none 0 0) 0 [], .row 25 1 (Value.slice none 0 0) 0 []]) (v := v259) (c := [v259]) rfl Tryz.sizeOf25 (Ln.cells (S267.row_ln (i := 2) rfl)) rfl (ones_cons (Ln.one (S267.row_ln (i := 2) rfl)) ones_nil) (Nat.le_of_ble_eq_true rfl) rfl rfl
     refine FL.act rfl rfl (E.store rfl rfl run269) ?_
     refine FL.nil (FW.seq (FW.region ?_))
     refine FL.v (E.fieldAddr tf163_3 k230) ?_
     refine FL.v (E.load rfl (run_load1 Tryz.isAgg25 (S270.box_now (i := 5) rfl) rfl)) ?_
     obtain ⟨v271, w272, run273, S274, els275⟩ := S270.ints (P := Tryz.prog) te25 (up wa.heap.size H222) 1 [(-1)]
     refine FL.v (E.buildSlice (B1 rfl) run273) ?_
     obtain ⟨xs276, hz277, hp⟩ := bnd hp
     obtain ⟨v278, w281, n279, cs280, run282, S283, els284, ce285⟩ := S274.appendO (P := Tryz.prog) te25 (i := 2) (j := 0) rfl (els91.mono (up_mono i224)) rfl els275 hz277
     have S283 : St Ha wa H222 w281 [.row 3 1 v271 1 (iC [(-1)]), .row 3 1 v84 n85 cs86, .row 3 1 v278 n279 cs280, .row 3 1 v259 n260 cs261, .row 3 1 v240 n241 cs242, .row 25 1 v216 n217 cs218, .box b48 163 [v216, v240, v259, v88, v84, v220], .box b29 163 [(Value.slice none 0 0), (Value.slice none 0 0), (Value.slice none 0 0), (Value.slice none 0 0), (Value.slice none 0 0), Value.slice none 0 0], .row 3 1 (Value.slice none 0 0) 0 [], .row 3 1 (Value.slice none 0 0) 0 [], .row 3 1 (Value.slice none 0 0) 0 [], .row 3 1 (Value.slice none 0 0) 0 [], .row 25 1 (Value.slice none 0 0) 0 []] := S283
     have S286 : St Ha wa H222 w281 [.row 3 1 v84 n85 cs86, .row 3 1 v278 n279 cs280, .row 3 1 v259 n260 cs261, .row 3 1 v240 n241 cs242, .row 25 1 v216 n217 cs218, .box b48 163 [v216, v240, v259, v88, v84, v220], .box b29 163 [(Value.slice none 0 0), (Value.slice none 0 0), (Value.slice none 0 0), (Value.slice none 0 0), (Value.slice none 0 0), Value.slice none 0 0], .row 3 1 (Value.slice none 0 0) 0 [], .row 3 1 (Value.slice none 0 0) 0 [], .row 3 1 (Value.slice none 0 0) 0 [], .row 3 1 (Value.slice none 0 0) 0 [], .row 25 1 (Value.slice none 0 0) 0 []] := S283.drop 0
     refine FL.v (E.append rfl rfl run282) ?_
     refine FL.v (E.fieldAddr tf163_3 k230) ?_
     obtain ⟨w287, run288, S289⟩ := S286.store (P := Tryz.prog) (t := 25) (i := 5) (j := 3) (cs' := [v216, v240, v259, v278, v84, v220]) (l' := [.row 3 1 v84 n85 cs86, .row 3 1 v278 n279 cs280, .row 3 1 v259 n260 cs261, .row 3 1 v240 n241 cs242, .row 25 1 v216 n217 cs218, .box b48 163 [v216, v240, v259, v278, v84, v220], .box b29 163 [(Value.slice none 0 0), (Value.slice none 0 0), (Value.slice none 0 0), (Value.slice none 0 0), (Value.slice none 0 0), Value.slice none 0 0], .row 3 1 (Value.slice none 0 0) 0 [], .row 3 1 (Value.slice none 0 0) 0 [], .row 3 1 (Value.slice none 0 0) 0 [], .row 3 1 (Value.slice none 0 0) 0 [], .row 25 1 (Value.slice none 0 0) 0 []]) (v := v278) (c := [v278]) rfl Tryz.sizeOf25 (Ln.cells (S286.row_ln (i := 1) rfl)) rfl (ones_cons (Ln.one (S286.row_ln (i := 1) rfl)) ones_nil) (Nat.le_of_ble_eq_true rfl) rfl rfl
     refine FL.act rfl rfl (E.store rfl rfl run288) ?_
     refine FL.nil (FW.region ?_)
     refine FL.v (E.fieldAddr tf163_4 k230) ?_
     refine FL.v (E.load rfl (run_load1 Tryz.isAgg25 (S289.box_now (i := 5) rfl) rfl)) ?_
     obtain ⟨v290, w291, run292, S293, els294⟩ := S289.ints (P := Tryz.prog) te25 (up wa.heap.size H222) 1 [0]
     refine FL.v (E.buildSlice (B1 rfl) run292) ?_
     obtain ⟨xs295, hz296, hp⟩ := bnd hp
     obtain ⟨v297, w300, n298, cs299, run301, S302, els303, ce304⟩ := S293.appendO (P := Tryz.prog) te25 (i := 1) (j := 0) rfl (els87.mono (up_mono i224)) rfl els294 hz296
     have S302 : St Ha wa H222 w300 [.row 3 1 v290 1 (iC [0]), .row 3 1 v297 n298 cs299, .row 3 1 v278 n279 cs280, .row 3 1 v259 n260 cs261, .row 3 1 v240 n241 cs242, .row 25 1 v216 n217 cs218, .box b48 163 [v216, v240, v259, v278, v84, v220], .box b29 163 [(Value.slice none 0 0), (Value.slice none 0 0), (Value.slice none 0 0), (Value.slice none 0 0), (Value.slice none 0 0), Value.slice none 0 0], .row 3 1 (Value.slice none 0 0) 0 [], .row 3 1 (Value.slice none 0 0) 0 [], .row 3 1 (Value.slice none 0 0) 0 [], .row 3 1 (Value.slice none 0 0) 0 [], .row 25 1 (Value.slice none 0 0) 0 []] := S302
     have S305 : St Ha wa H222 w300 [.row 3 1 v297 n298 cs299, .row 3 1 v278 n279 cs280, .row 3 1 v259 n260 cs261, .row 3 1 v240 n241 cs242, .row 25 1 v216 n217 cs218, .box b48 163 [v216, v240, v259, v278, v84, v220], .box b29 163 [(Value.slice none 0 0), (Value.slice none 0 0), (Value.slice none 0 0), (Value.slice none 0 0), (Value.slice none 0 0), Value.slice none 0 0], .row 3 1 (Value.slice none 0 0) 0 [], .row 3 1 (Value.slice none 0 0) 0 [], .row 3 1 (Value.slice none 0 0) 0 [], .row 3 1 (Value.slice none 0 0) 0 [], .row 25 1 (Value.slice none 0 0) 0 []] := S302.drop 0
     refine FL.v (E.append rfl rfl run301) ?_
     refine FL.v (E.fieldAddr tf163_4 k230) ?_
     obtain ⟨w306, run307, S308⟩ := S305.store (P := Tryz.prog) (t := 25) (i := 5) (j := 4) (cs' := [v216, v240, v259, v278, v297, v220]) (l' := [.row 3 1 v297 n298 cs299, .row 3 1 v278 n279 cs280, .row 3 1 v259 n260 cs261, .row 3 1 v240 n241 cs242, .row 25 1 v216 n217 cs218, .box b48 163 [v216, v240, v259, v278, v297, v220], .box b29 163 [(Value.slice none 0 0), (Value.slice none 0 0), (Value.slice none 0 0), (Value.slice none 0 0), (Value.slice none 0 0), Value.slice none 0 0], .row 3 1 (Value.slice none 0 0) 0 [], .row 3 1 (Value.slice none 0 0) 0 [], .row 3 1 (Value.slice none 0 0) 0 [], .row 3 1 (Value.slice none 0 0) 0 [], .row 25 1 (Value.slice none 0 0) 0 []]) (v := v297) (c := [v297]) rfl Tryz.sizeOf25 (Ln.cells (S305.row_ln (i := 0) rfl)) rfl (ones_cons (Ln.one (S305.row_ln (i := 0) rfl)) ones_nil) (Nat.le_of_ble_eq_true rfl) rfl rfl
     refine FL.act rfl rfl (E.store rfl rfl run307) ?_
     refine FL.nil (FW.region ?_)
     refine FL.v (E.move k232) ?_
     refine FL.v (E.add rfl rfl) ?_
     refine FL.v (E.assign (v := Value.int .i64 (wr (((i208 : Nat) : Int) + 1))) rfl) ?_
     refine FL.nil ?_
     obtain rfl := Option.some.inj hp
     exact ⟨rfl, ⟨_, _, _, _, _, _, _, _, _, _, _, _, _, _, _, _, _, S308, (i108.tr i224), els303, els284, els265, els246, els219, h221, (nat_succ rfl (lt_of_get hx208) (h83.mono (i108.tr i224)).le), k227, k228, k229, k230, k231⟩⟩
   ·
    clear hp hq
    rintro s208 f436 w435 ⟨H432, v84, n85, cs86, v88, n89, cs90, v92, n93, cs94, v96, n97, cs98, v100, n101, cs102, v104, S433, i434, els87, els91, els95, els99, els103, h105, k437, k438, k439, k440, k441, k442⟩
    refine FW.seq (FW.seq (FW.region ?_))
    refine FL.v (E.move k437) ?_
    refine FL.v (E.move k442) ?_
    refine FL.v (E.lenP te22 rfl h83) ?_
    refine FL.v (E.lss rfl rfl) ?_
    refine FL.nil ?_
    refine FW.condF rfl dlt_len ?_
    refine FW.exit ?_
    exact ⟨nofun, rfl, ⟨_, _, _, _, _, _, _, _, _, _, _, _, _, _, _, _, _, S433, i434, els87, els91, els95, els99, els103, h105, k438, k439, k440, k441, k442⟩⟩
   ·
    clear hq
    intro e f314 w313 hD
    rcases q208 with s208 | x208
    ·
     obtain ⟨rfl, hD⟩ := hD
     obtain ⟨H310, v84, n85, cs86, v88, n89, cs90, v92, n93, cs94, v96, n97, cs98, v100, n101, cs102, v104, S311, i312, els87, els91, els95, els99, els103, h105, k315, k316, k317, k318, k319⟩ := hD
     replace hp := el_go hp
     refine FW.seq (FW.region ?_)
     refine FL.v (E.move k319) ?_
     refine FL.v (E.fieldAddr tf163_5 k318) ?_
     obtain ⟨w320, run321, S322⟩ := S311.store (P := Tryz.prog) (t := 22) (i := 5) (j := 5) (cs' := [v100, v96, v92, v88, v84, v82]) (l' := [.row 3 1 v84 n85 cs86, .row 3 1 v88 n89 cs90, .row 3 1 v92 n93 cs94, .row 3 1 v96 n97 cs98, .row 25 1 v100 n101 cs102, .box b48 163 [v100, v96, v92, v88, v84, v82], .box b29 163 [(Value.slice none 0 0), (Value.slice none 0 0), (Value.slice none 0 0), (Value.slice none 0 0), (Value.slice none 0 0), Value.slice none 0 0], .row 3 1 (Value.slice none 0 0) 0 [], .row 3 1 (Value.slice none 0 0) 0 [], .row 3 1 (Value.slice none 0 0) 0 [], .row 3 1 (Value.slice none 0 0) 0 [], .row 25 1 (Value.slice none 0 0) 0 []]) (v := v82) (c := [v82]) rfl Tryz.sizeOf22 h83.cells rfl (ones_cons h83.one ones_nil) (Nat.le_of_ble_eq_true rfl) rfl rfl
     refine FL.act rfl rfl (E.store rfl rfl run321) ?_
     refine FL.nil (FW.seq (FW.seq (FW.region ?_)))
     refine FL.v (E.assign (v := Value.int .i64 1) rfl) ?_
     refine FL.v (E.assign (v := Value.bool true) rfl) ?_
     refine FL.nil ?_
     obtain ⟨q323, hq, hp⟩ := bndR hp
     refine FW.block ?_
     refine FW.mono (FW.iter (S := ((List Int) × (List Int) × (List Int) × (List Int) × (List (List Int)) × (List (List Int)) × Int × Bool)) (X := Empty) (fun (s323 : ((List Int) × (List Int) × (List Int) × (List Int) × (List (List Int)) × (List (List Int)) × Int × Bool)) f w => ∃ H : GH, ∃ v324 : Value, ∃ n325 : Nat, ∃ cs326 : List Value, ∃ v328 : Value, ∃ n329 : Nat, ∃ cs330 : List Value, ∃ v332 : Value, ∃ n333 : Nat, ∃ cs334 : List Value, ∃ v336 : Value, ∃ n337 : Nat, ∃ cs338 : List Value, ∃ v340 : Value, ∃ n341 : Nat, ∃ cs342 : List Value, ∃ v344 : Value, St Ha wa H w [.row 3 1 v324 n325 cs326, .row 3 1 v328 n329 cs330, .row 3 1 v332 n333 cs334, .row 3 1 v336 n337 cs338, .row 25 1 v340 n341 cs342, .box b48 163 [v340, v336, v332, v328, v324, v344], .box b29 163 [(Value.slice none 0 0), (Value.slice none 0 0), (Value.slice none 0 0), (Value.slice none 0 0), (Value.slice none 0 0), Value.slice none 0 0], .row 3 1 (Value.slice none 0 0) 0 [], .row 3 1 (Value.slice none 0 0) 0 [], .row 3 1 (Value.slice none 0 0) 0 [], .row 3 1 (Value.slice none 0 0) 0 [], .row 25 1 (Value.slice none 0 0) 0 []] ∧ Inc H310 H ∧ Els (up wa.heap.size H) eI 1 cs326 s323.1 ∧ Els (up wa.heap.size H) eI 1 cs330 s323.2.1 ∧ Els (up wa.heap.size H) eI 1 cs334 s323.2.2.1 ∧ Els (up wa.heap.size H) eI 1 cs338 s323.2.2.2.1 ∧ Els H (eL eI 1) 1 cs342 s323.2.2.2.2.1 ∧ RSl H (eL eI 1) 1 v344 s323.2.2.2.2.2.1 ∧ f 1 = Value.int .i64 a1 ∧ f 2 = Value.pointer (some ⟨b21, 0, none⟩) ∧ f 4 = Value.pointer (some (⟨b29, 0, none⟩ : Addr)) ∧ f 5 = Value.pointer (some (⟨b48, 0, none⟩ : Addr)) ∧ f 9 = Value.int .i64 s323.2.2.2.2.2.2.1 ∧ f 10 = Value.bool s323.2.2.2.2.2.2.2) (fun (q : Rs ((List Int) × (List Int) × (List Int) × (List Int) × (List (List Int)) × (List (List Int)) × Int × Bool) Empty) e f w => match q with | .go s323 => e = Exit.exit 4 ∧ (∃ H : GH, ∃ v324 : Value, ∃ n325 : Nat, ∃ cs326 : List Value, ∃ v328 : Value, ∃ n329 : Nat, ∃ cs330 : List Value, ∃ v332 : Value, ∃ n333 : Nat, ∃ cs334 : List Value, ∃ v336 : Value, ∃ n337 : Nat, ∃ cs338 : List Value, ∃ v340 : Value, ∃ n341 : Nat, ∃ cs342 : List Value, ∃ v344 : Value, St Ha wa H w [.row 3 1 v324 n325 cs326, .row 3 1 v328 n329 cs330, .row 3 1 v332 n333 cs334, .row 3 1 v336 n337 cs338, .row 25 1 v340 n341 cs342, .box b48 163 [v340, v336, v332, v328, v324, v344], .box b29 163 [(Value.slice none 0 0), (Value.slice none 0 0), (Value.slice none 0 0), (Value.slice none 0 0), (Value.slice none 0 0), Value.slice none 0 0], .row 3 1 (Value.slice none 0 0) 0 [], .row 3 1 (Value.slice none 0 0) 0 [], .row 3 1 (Value.slice none 0 0) 0 [], .row 3 1 (Value.slice none 0 0) 0 [], .row 25 1 (Value.slice none 0 0) 0 []] ∧ Inc H310 H ∧ Els (up wa.heap.size H) eI 1 cs326 s323.1 ∧ Els (up wa.heap.size H) eI 1 cs330 s323.2.1 ∧ Els (up wa.heap.size H) eI 1 cs334 s323.2.2.1 ∧ Els (up wa.heap.size H) eI 1 cs338 s323.2.2.2.1 ∧ Els H (eL eI 1) 1 cs342 s323.2.2.2.2.1 ∧ RSl H (eL eI 1) 1 v344 s323.2.2.2.2.2.1 ∧ f 4 = Value.pointer (some (⟨b29, 0, none⟩ : Addr)) ∧ f 5 = Value.pointer (some (⟨b48, 0, none⟩ : Addr))) | .rt x => x.elim) hq ⟨_, _, _, _, _, _, _, _, _, _, _, _, _, _, _, _, _, S322, (Inc.rfl _), els87, els91, els95, els99, els103, (h83.mono i312), k315, k316, k317, k318, rfl, rfl⟩ ?_) ?_
     ·
      clear hp hq
      rintro s323 f350 w349 ⟨H346, v324, n325, cs326, v328, n329, cs330, v332, n333, cs334, v336, n337, cs338, v340, n341, cs342, v344, S347, i348, els327, els331, els335, els339, els343, h345, k351, k352, k353, k354, k355, k356⟩ o393 hp
      refine FW.seq (FW.seq (FW.region ?_))
      refine FL.v (E.move k356) ?_
      refine FL.nil ?_
      rcases ifB hp with ⟨c357, hp⟩ | ⟨c357, hp⟩
      ·
       refine FW.condT rfl c357 ?_
       refine FW.skip (FW.seq (FW.block (FW.region ?_)))
       refine FL.v (E.fieldAddr tf30_0 k352) ?_
       refine FL.v (E.load rfl (run_load1 Tryz.isAgg3 ((at28.mono (((i77.tr i199).tr i312).tr i348)).now S347.sl) rfl)) ?_
       refine FL.v (E.load k354 (run_loadA Tryz.isAgg163 Tryz.sizeOf163 (S347.box_now (i := 5) rfl) rfl)) ?_
       refine FL.v (E.move k351) ?_
       refine FL.v (E.move k355) ?_
       obtain ⟨r358, hr359, hp⟩ := bnd hp
       have S360 : St Ha wa H346 w349 [.row 3 1 v328 n329 cs330, .row 3 1 v324 n325 cs326, .row 3 1 v332 n333 cs334, .row 3 1 v336 n337 cs338, .row 25 1 v340 n341 cs342, .box b48 163 [v340, v336, v332, v328, v324, v344], .box b29 163 [(Value.slice none 0 0), (Value.slice none 0 0), (Value.slice none 0 0), (Value.slice none 0 0), (Value.slice none 0 0), Value.slice none 0 0], .row 3 1 (Value.slice none 0 0) 0 [], .row 3 1 (Value.slice none 0 0) 0 [], .row 3 1 (Value.slice none 0 0) 0 [], .row 3 1 (Value.slice none 0 0) 0 [], .row 25 1 (Value.slice none 0 0) 0 []] := S347.front 1 rfl rfl
       have S361 : St Ha wa H346 w349 [.row 3 1 v332 n333 cs334, .row 3 1 v328 n329 cs330, .row 3 1 v324 n325 cs326, .row 3 1 v336 n337 cs338, .row 25 1 v340 n341 cs342, .box b48 163 [v340, v336, v332, v328, v324, v344], .box b29 163 [(Value.slice none 0 0), (Value.slice none 0 0), (Value.slice none 0 0), (Value.slice none 0 0), (Value.slice none 0 0), Value.slice none 0 0], .row 3 1 (Value.slice none 0 0) 0 [], .row 3 1 (Value.slice none 0 0) 0 [], .row 3 1 (Value.slice none 0 0) 0 [], .row 3 1 (Value.slice none 0 0) 0 [], .row 25 1 (Value.slice none 0 0) 0 []] := S360.front 2 rfl rfl
       have S362 : St Ha wa H346 w349 [.row 3 1 v336 n337 cs338, .row 3 1 v332 n333 cs334, .row 3 1 v328 n329 cs330, .row 3 1 v324 n325 cs326, .row 25 1 v340 n341 cs342, .box b48 163 [v340, v336, v332, v328, v324, v344], .box b29 163 [(Value.slice none 0 0), (Value.slice none 0 0), (Value.slice none 0 0), (Value.slice none 0 0), (Value.slice none 0 0), Value.slice none 0 0], .row 3 1 (Value.slice none 0 0) 0 [], .row 3 1 (Value.slice none 0 0) 0 [], .row 3 1 (Value.slice none 0 0) 0 [], .row 3 1 (Value.slice none 0 0) 0 [], .row 25 1 (Value.slice none 0 0) 0 []] := S361.front 3 rfl rfl
       have S363 : St Ha wa H346 w349 [.row 25 1 v340 n341 cs342, .row 3 1 v336 n337 cs338, .row 3 1 v332 n333 cs334, .row 3 1 v328 n329 cs330, .row 3 1 v324 n325 cs326, .box b48 163 [v340, v336, v332, v328, v324, v344], .box b29 163 [(Value.slice none 0 0), (Value.slice none 0 0), (Value.slice none 0 0), (Value.slice none 0 0), (Value.slice none 0 0), Value.slice none 0 0], .row 3 1 (Value.slice none 0 0) 0 [], .row 3 1 (Value.slice none 0 0) 0 [], .row 3 1 (Value.slice none 0 0) 0 [], .row 3 1 (Value.slice none 0 0) 0 [], .row 25 1 (Value.slice none 0 0) 0 []] := S362.front 4 rfl rfl
       refine FL.call rfl rfl rfl (E.call Tryz.call254 (A4 rfl rfl rfl rfl)) (w_spec_l10Round (L := [.box b48 163 [v340, v336, v332, v328, v324, v344], .box b29 163 [(Value.slice none 0 0), (Value.slice none 0 0), (Value.slice none 0 0), (Value.slice none 0 0), (Value.slice none 0 0), Value.slice none 0 0], .row 3 1 (Value.slice none 0 0) 0 [], .row 3 1 (Value.slice none 0 0) 0 [], .row 3 1 (Value.slice none 0 0) 0 [], .row 3 1 (Value.slice none 0 0) 0 [], .row 25 1 (Value.slice none 0 0) 0 []]) S363 a0.vars (a1 := (l10Work.mk s323.2.2.2.2.1 s323.2.2.2.1 s323.2.2.1 s323.2.1 s323.1 s323.2.2.2.2.2.1)) els343 els339 els335 els331 els327 h345 a1 s323.2.2.2.2.2.2.1 hr359) ?_
       rintro e w365 ⟨H364, v368, n369, cs370, v372, n373, cs374, v376, n377, cs378, v380, n381, cs382, v384, n385, cs386, v388, rfl, ⟨S366, i367⟩, els371, els375, els379, els383, els387, h389⟩
       refine ⟨_, rfl, ?_⟩
       have S366 : St Ha wa H364 w365 [.row 25 1 v368 n369 cs370, .row 3 1 v372 n373 cs374, .row 3 1 v376 n377 cs378, .row 3 1 v380 n381 cs382, .row 3 1 v384 n385 cs386, .box b48 163 [v340, v336, v332, v328, v324, v344], .box b29 163 [(Value.slice none 0 0), (Value.slice none 0 0), (Value.slice none 0 0), (Value.slice none 0 0), (Value.slice none 0 0), Value.slice none 0 0], .row 3 1 (Value.slice none 0 0) 0 [], .row 3 1 (Value.slice none 0 0) 0 [], .row 3 1 (Value.slice none 0 0) 0 [], .row 3 1 (Value.slice none 0 0) 0 [], .row 25 1 (Value.slice none 0 0) 0 []] := S366
       refine FL.v (E.move (v := Value.tuple #[Value.agg #[v368, v372, v376, v380, v384, v388], Value.bool r358.2]) rfl) ?_
       refine FL.v (E.extract (i := 0) rfl rfl) ?_
       refine FL.v (E.extract (i := 1) rfl rfl) ?_
       obtain ⟨w390, run391, S392⟩ := S366.store0 (P := Tryz.prog) (t := 163) (i := 5) (cs' := [v368, v372, v376, v380, v384, v388]) (l' := [.row 25 1 v368 n369 cs370, .row 3 1 v372 n373 cs374, .row 3 1 v376 n377 cs378, .row 3 1 v380 n381 cs382, .row 3 1 v384 n385 cs386, .box b48 163 [v368, v372, v376, v380, v384, v388], .box b29 163 [(Value.slice none 0 0), (Value.slice none 0 0), (Value.slice none 0 0), (Value.slice none 0 0), (Value.slice none 0 0), Value.slice none 0 0], .row 3 1 (Value.slice none 0 0) 0 [], .row 3 1 (Value.slice none 0 0) 0 [], .row 3 1 (Value.slice none 0 0) 0 [], .row 3 1 (Value.slice none 0 0) 0 [], .row 25 1 (Value.slice none 0 0) 0 []]) (v := Value.agg #[v368, v372, v376, v380, v384, v388]) (c := [v368, v372, v376, v380, v384, v388]) rfl Tryz.sizeOf163 rfl rfl (ones_cons (Ln.one (S366.row_ln (i := 0) rfl)) (ones_cons (Ln.one (S366.row_ln (i := 1) rfl)) (ones_cons (Ln.one (S366.row_ln (i := 2) rfl)) (ones_cons (Ln.one (S366.row_ln (i := 3) rfl)) (ones_cons (Ln.one (S366.row_ln (i := 4) rfl)) (ones_cons h389.one ones_nil)))))) (Nat.le_of_ble_eq_true rfl) rfl rfl
       refine FL.act rfl rfl (E.store k354 rfl run391) ?_
       refine FL.v (E.assign (v := Value.bool r358.2) rfl) ?_
       refine FL.nil (FW.region ?_)
       refine FL.v (E.move k355) ?_
       refine FL.v (E.add rfl rfl) ?_
       refine FL.v (E.assign (v := Value.int .i64 (wr (s323.2.2.2.2.2.2.1 + 1))) rfl) ?_
       refine FL.nil ?_
       obtain rfl := Option.some.inj hp
       exact ⟨rfl, ⟨_, _, _, _, _, _, _, _, _, _, _, _, _, _, _, _, _, (S392.sel [4, 3, 2, 1, 0, 5, 6, 7, 8, 9, 10, 11] (by decide) rfl), (i348.tr i367), els387, els383, els379, els375, els371, h389, k351, k352, k353, k354, rfl, rfl⟩⟩
      ·
       refine FW.condF rfl c357 ?_
       refine FW.exit ?_
       obtain rfl := Option.some.inj hp
       exact ⟨nofun, rfl, ⟨_, _, _, _, _, _, _, _, _, _, _, _, _, _, _, _, _, S347, i348, els327, els331, els335, els339, els343, h345, k353, k354⟩⟩
     ·
      clear hq
      intro e f398 w397 hD
      rcases q323 with s323 | x323
      ·
       obtain ⟨rfl, hD⟩ := hD
       obtain ⟨H394, v324, n325, cs326, v328, n329, cs330, v332, n333, cs334, v336, n337, cs338, v340, n341, cs342, v344, S395, i396, els327, els331, els335, els339, els343, h345, k399, k400⟩ := hD
       replace hp := el_go hp
       refine FW.seq (FW.region ?_)
       refine FL.v (E.load k400 (run_loadA Tryz.isAgg163 Tryz.sizeOf163 (S395.box_now (i := 5) rfl) rfl)) ?_
       obtain ⟨w401, run402, S403⟩ := S395.store0 (P := Tryz.prog) (t := 163) (i := 6) (cs' := [v340, v336, v332, v328, v324, v344]) (l' := [.row 3 1 v324 n325 cs326, .row 3 1 v328 n329 cs330, .row 3 1 v332 n333 cs334, .row 3 1 v336 n337 cs338, .row 25 1 v340 n341 cs342, .box b48 163 [v340, v336, v332, v328, v324, v344], .box b29 163 [v340, v336, v332, v328, v324, v344], .row 3 1 (Value.slice none 0 0) 0 [], .row 3 1 (Value.slice none 0 0) 0 [], .row 3 1 (Value.slice none 0 0) 0 [], .row 3 1 (Value.slice none 0 0) 0 [], .row 25 1 (Value.slice none 0 0) 0 []]) (v := Value.agg #[v340, v336, v332, v328, v324, v344]) (c := [v340, v336, v332, v328, v324, v344]) rfl Tryz.sizeOf163 rfl rfl (ones_cons (Ln.one (S395.row_ln (i := 4) rfl)) (ones_cons (Ln.one (S395.row_ln (i := 3) rfl)) (ones_cons (Ln.one (S395.row_ln (i := 2) rfl)) (ones_cons (Ln.one (S395.row_ln (i := 1) rfl)) (ones_cons (Ln.one (S395.row_ln (i := 0) rfl)) (ones_cons h345.one ones_nil)))))) (Nat.le_of_ble_eq_true rfl) rfl rfl
       refine FL.act rfl rfl (E.store k399 rfl run402) ?_
       obtain ⟨H404, S405, i406, h407⟩ := S403.sealRow (i := 4) (l' := [.row 3 1 v324 n325 cs326, .row 3 1 v328 n329 cs330, .row 3 1 v332 n333 cs334, .row 3 1 v336 n337 cs338, .box b48 163 [v340, v336, v332, v328, v324, v344], .box b29 163 [v340, v336, v332, v328, v324, v344], .row 3 1 (Value.slice none 0 0) 0 [], .row 3 1 (Value.slice none 0 0) 0 [], .row 3 1 (Value.slice none 0 0) 0 [], .row 3 1 (Value.slice none 0 0) 0 [], .row 25 1 (Value.slice none 0 0) 0 []]) rfl els343 (by decide) rfl
       obtain ⟨H408, S409, i410, h411, nv412⟩ := S405.sealRowU (i := 3) (l' := [.row 3 1 v324 n325 cs326, .row 3 1 v328 n329 cs330, .row 3 1 v332 n333 cs334, .box b48 163 [v340, v336, v332, v328, v324, v344], .box b29 163 [v340, v336, v332, v328, v324, v344], .row 3 1 (Value.slice none 0 0) 0 [], .row 3 1 (Value.slice none 0 0) 0 [], .row 3 1 (Value.slice none 0 0) 0 [], .row 3 1 (Value.slice none 0 0) 0 [], .row 25 1 (Value.slice none 0 0) 0 []]) rfl (els339.mono (up_mono i406)) (by decide) rfl
       obtain ⟨H413, S414, i415, h416, nv417⟩ := S409.sealRowU (i := 2) (l' := [.row 3 1 v324 n325 cs326, .row 3 1 v328 n329 cs330, .box b48 163 [v340, v336, v332, v328, v324, v344], .box b29 163 [v340, v336, v332, v328, v324, v344], .row 3 1 (Value.slice none 0 0) 0 [], .row 3 1 (Value.slice none 0 0) 0 [], .row 3 1 (Value.slice none 0 0) 0 [], .row 3 1 (Value.slice none 0 0) 0 [], .row 25 1 (Value.slice none 0 0) 0 []]) rfl (els335.mono (up_mono (i406.tr i410))) (by decide) rfl
       obtain ⟨H418, S419, i420, h421, nv422⟩ := S414.sealRowU (i := 1) (l' := [.row 3 1 v324 n325 cs326, .box b48 163 [v340, v336, v332, v328, v324, v344], .box b29 163 [v340, v336, v332, v328, v324, v344], .row 3 1 (Value.slice none 0 0) 0 [], .row 3 1 (Value.slice none 0 0) 0 [], .row 3 1 (Value.slice none 0 0) 0 [], .row 3 1 (Value.slice none 0 0) 0 [], .row 25 1 (Value.slice none 0 0) 0 []]) rfl (els331.mono (up_mono ((i406.tr i410).tr i415))) (by decide) rfl
       obtain ⟨H423, S424, i425, h426, nv427⟩ := S419.sealRowU (i := 0) (l' := [.box b48 163 [v340, v336, v332, v328, v324, v344], .box b29 163 [v340, v336, v332, v328, v324, v344], .row 3 1 (Value.slice none 0 0) 0 [], .row 3 1 (Value.slice none 0 0) 0 [], .row 3 1 (Value.slice none 0 0) 0 [], .row 3 1 (Value.slice none 0 0) 0 [], .row 25 1 (Value.slice none 0 0) 0 []]) rfl (els327.mono (up_mono (((i406.tr i410).tr i415).tr i420))) (by decide) rfl
       obtain ⟨H428, S429, i430, at431⟩ := S424.sealBox (i := 1) (l' := [.box b48 163 [v340, v336, v332, v328, v324, v344], .row 3 1 (Value.slice none 0 0) 0 [], .row 3 1 (Value.slice none 0 0) 0 [], .row 3 1 (Value.slice none 0 0) 0 [], .row 3 1 (Value.slice none 0 0) 0 [], .row 25 1 (Value.slice none 0 0) 0 []]) rfl rfl
       refine FL.nil ?_
       refine FW.ret ?_
       obtain rfl := Option.some.inj hp
       exact ⟨.inr rfl, resC rfl k399 (loadVar_A Tryz.isAgg163 Tryz.sizeOf163 (at431.now S429.sl) rfl) ⟨_, _, _, _, _, _, _, rfl, S429.run, (h407.mono ((((i410.tr i415).tr i420).tr i425).tr i430)), (h411.mono (up_mono (((i415.tr i420).tr i425).tr i430))), (h416.mono (up_mono ((i420.tr i425).tr i430))), (h421.mono (up_mono (i425.tr i430))), (h426.mono (up_mono i430)), (h345.mono (((((i406.tr i410).tr i415).tr i420).tr i425).tr i430))⟩⟩
      ·
       exact x323.elim
    ·
     exact x208.elim
  ·
   exact x81.elim

theorem w_spec_l10Empty {Ha : GH} {wa : World} (hs : Sl Ha wa) (v0 : Value) (a0 : List (List Int)) (p0 : RSl Ha (eL eI 1) 1 v0 a0) {r : Bool} (hp : (PF.spec_l10Empty a0) = some r) :
  Calls Tryz.prog 133 #[v0] wa (Sc Ha wa (Value.bool r)) := by
 unfold PF.spec_l10Empty at hp
 have S0 := St.init hs
 refine calls_go (N := 13) (args := [v0]) Tryz.func133 rfl rfl rfl ?_
 refine FW.seq (FW.region ?_)
 refine FL.v (E.assign (v := Value.bool false) rfl) ?_
 refine FL.nil (FW.seq (FW.region ?_))
 refine FL.v (E.move (v := v0) rfl) ?_
 refine FL.v (E.lenP te22 rfl p0) ?_
 refine FL.v (E.gtr rfl rfl) ?_
 refine FL.v (E.move (v := Value.bool (decide (0 < (len a0)))) rfl) ?_
 obtain ⟨t31, hqt31, hp⟩ := bnd hp
 refine FL.cut 6 (fun f w => ∃ H : GH, St Ha wa H w [] ∧ Inc Ha H ∧ f 12 = Value.bool t31) ?_ ?_
 ·
  clear hp; have hp := hqt31; clear hqt31
  rcases ifB hp with ⟨c37, hp⟩ | ⟨c37, hp⟩
  ·
   refine FL.val (wF_yes rfl rfl rfl c37) rfl rfl (E.move (v := v0) rfl) ?_
   obtain ⟨x44, hx45, hp⟩ := bnd hp
   obtain ⟨p38, cs39, pt40, l41, at42, rel43⟩ := p0.at hx45
   obtain ⟨v46, rfl, h47⟩ := eL_open rel43
   refine FL.val (wF_yes rfl rfl rfl c37) rfl rfl (E.indexAddr te22 rfl rfl pt40) ?_
   refine FL.val (wF_yes rfl rfl rfl c37) rfl rfl (E.load rfl (run_load0 Tryz.isAgg25 (at42.now S0.sl) rfl)) ?_
   refine FL.val (wF_yes rfl rfl rfl c37) rfl rfl (E.lenP te25 rfl h47) ?_
   refine FL.val (wF_yes rfl rfl rfl c37) rfl rfl (E.eql rfl rfl) ?_
   obtain rfl := Option.some.inj hp
   refine FL.v (E.pickT rfl c37 rfl) ?_
   exact FL.nil ⟨rfl, _, S0, (Inc.rfl _), rfl⟩
  ·
   refine FL.skip (wF_no rfl rfl rfl c37) rfl ?_
   refine FL.skip (wF_no rfl rfl rfl c37) rfl ?_
   refine FL.skip (wF_no rfl rfl rfl c37) rfl ?_
   refine FL.skip (wF_no rfl rfl rfl c37) rfl ?_
   refine FL.skip (wF_no rfl rfl rfl c37) rfl ?_
   obtain rfl := Option.some.inj hp
   refine FL.v (E.pickF rfl c37 rfl) ?_
   exact FL.nil ⟨rfl, _, S0, (Inc.rfl _), rfl⟩
 rintro f36 w35 ⟨H32, S33, i34, k48⟩
 refine FL.v (E.assign k48) ?_
 refine FL.nil ?_
 refine FW.ret ?_
 obtain rfl := Option.some.inj hp
 exact ⟨.inr rfl, res1 rfl rfl ⟨rfl, S33.back⟩⟩

set_option maxHeartbeats 4000000 in
theorem w_spec_l10Least {Ha : GH} {wa : World} (hs : Sl Ha wa) (a0 : Cnf) (v0_1 : Value) (p0_1 : RSl Ha (eL eI 1) 1 v0_1 a0.clauses) {r : Int} (hp : (PF.spec_l10Least a0) = some r) :
  Calls Tryz.prog 92 #[Value.agg #[Value.int .i64 a0.vars, v0_1]] wa (Sc Ha wa (Value.int .i64 r)) := by
 unfold PF.spec_l10Least at hp
 have S0 := St.init hs
 refine calls_go (N := 14) (args := [Value.agg #[Value.int .i64 a0.vars, v0_1]]) Tryz.func92 rfl rfl rfl ?_
 refine FW.seq (FW.region ?_)
 obtain ⟨b21, w22, run23, S24⟩ := S0.box (P := Tryz.prog) 30 [Value.int .i64 a0.vars, v0_1] (v := Value.agg #[Value.int .i64 a0.vars, v0_1]) rfl (ones_cons rfl (ones_cons p0_1.one ones_nil))
 refine FL.v (E.box rfl run23) ?_
 obtain ⟨H25, S26, i27, at28⟩ := S24.sealBox (i := 0) (l' := []) rfl rfl
 refine FL.v (E.assign (v := Value.int .i64 0) rfl) ?_
 refine FL.nil (FW.seq (FW.seq (FW.region ?_)))
 refine FL.v (E.assign (v := Value.int .i64 0) rfl) ?_
 refine FL.nil ?_
 obtain ⟨q29, hq, hp⟩ := bndR hp
 refine FW.block ?_
 refine FW.mono (FW.iter (S := Int) (X := Int) (fun (s29 : Int) f w => ∃ H : GH, St Ha wa H w [] ∧ Inc H25 H ∧ f 1 = Value.pointer (some ⟨b21, 0, none⟩) ∧ f 3 = Value.int .i64 s29) (fun q e f w => match q with | .go s29 => e = Exit.exit 0 ∧ (∃ H : GH, St Ha wa H w [] ∧ Inc H25 H) | .rt x => ((e = Exit.ret) ∧ (fun e f w => (e = Exit.normal ∨ e = Exit.ret) ∧ ∀ a, Fr (δ := []) 14 a f → ∃ v, (results Tryz.f92 a.tmps).run Tryz.prog w = .ok v w ∧ (Sc Ha wa (Value.int .i64 x)) (.returned v) w) e f w)) hq ⟨_, S26, (Inc.rfl _), rfl, rfl⟩ ?_) ?_
 ·
  clear hp hq
  rintro s29 f70 w69 ⟨H66, S67, i68, k71, k72⟩ o102 hp
  refine FW.seq (FW.seq (FW.region ?_))
  refine FL.v (E.move k72) ?_
  refine FL.v (E.leq rfl rfl) ?_
  refine FL.nil ?_
  rcases ifB hp with ⟨c73, hp⟩ | ⟨c73, hp⟩
  ·
   refine FW.condT rfl c73 ?_
   refine FW.skip (FW.seq (FW.block (FW.seq (FW.region ?_))))
   refine FL.v (E.load k71 (run_loadA Tryz.isAgg30 Tryz.sizeOf30 ((at28.mono i68).now S67.sl) rfl)) ?_
   refine FL.v (E.move k72) ?_
   obtain ⟨r74, hr75, hp⟩ := bnd hp
   refine FL.call rfl rfl rfl (E.call Tryz.call167 (A2 rfl rfl)) (w_spec_l10Closure S67.sl a0 v0_1 (p0_1.mono (i27.tr i68)) s29 hr75) ?_
   rintro e w77 ⟨H76, v80, v82, v85, v88, v91, v94, rfl, r79, h81, h83, h86, h89, h92, h95⟩
   refine ⟨_, rfl, ?_⟩
   have nv84 : New H66 [v82] := New.of_up S67.sl h83.dom
   have h83 := h83.mono (up_le S67.size)
   have nv87 : New H66 [v85] := New.of_up S67.sl h86.dom
   have h86 := h86.mono (up_le S67.size)
   have nv90 : New H66 [v88] := New.of_up S67.sl h89.dom
   have h89 := h89.mono (up_le S67.size)
   have nv93 : New H66 [v91] := New.of_up S67.sl h92.dom
   have h92 := h92.mono (up_le S67.size)
   have S78 := S67.call r79
   refine FL.v (E.field (fd163_5 rfl) rfl) ?_
   obtain ⟨r96, hr97, hp⟩ := bnd hp
   refine FL.call rfl rfl rfl (E.call Tryz.call133 (A1 rfl)) (w_spec_l10Empty S78.sl v94 r74.sorted h95 hr97) ?_
   rintro e w98 ⟨rfl, r99⟩
   refine ⟨_, rfl, ?_⟩
   have S100 := S78.call r99
   refine FL.nil ?_
   rcases ifB hp with ⟨c101, hp⟩ | ⟨c101, hp⟩
   ·
    refine FW.condT rfl c101 ?_
    refine FW.seq (FW.region ?_)
    refine FL.v (E.move k72) ?_
    refine FL.v (E.assign (v := Value.int .i64 s29) rfl) ?_
    refine FL.nil ?_
    refine FW.ret ?_
    obtain rfl := Option.some.inj hp
    exact ⟨nofun, rfl, ⟨.inr rfl, res1 rfl rfl ⟨rfl, S100.back⟩⟩⟩
   ·
    refine FW.condF rfl c101 ?_
    refine FW.skip (FW.region ?_)
    refine FL.v (E.move k72) ?_
    refine FL.v (E.add rfl rfl) ?_
    refine FL.v (E.assign (v := Value.int .i64 (wr (s29 + 1))) rfl) ?_
    refine FL.nil ?_
    obtain rfl := Option.some.inj hp
    exact ⟨rfl, ⟨_, S100, (i68.tr r79.inc), k71, rfl⟩⟩
  ·
   refine FW.condF rfl c73 ?_
   refine FW.exit ?_
   obtain rfl := Option.some.inj hp
   exact ⟨nofun, rfl, ⟨_, S67, i68⟩⟩
 ·
  clear hq
  intro e f107 w106 hD
  rcases q29 with s29 | x29
  ·
   obtain ⟨rfl, hD⟩ := hD
   obtain ⟨H103, S104, i105⟩ := hD
   replace hp := el_go hp
   refine FW.seq (FW.region ?_)
   refine FL.v (E.assign (v := Value.int .i64 (-1)) rfl) ?_
   refine FL.nil ?_
   refine FW.ret ?_
   obtain rfl := Option.some.inj hp
   exact ⟨.inr rfl, res1 rfl rfl ⟨rfl, S104.back⟩⟩
  ·
   obtain ⟨he, hL⟩ := hD
   replace hp := el_rt hp
   obtain rfl := Option.some.inj hp
   subst he
   exact hL

theorem w_spec_l10Find {Ha : GH} {wa : World} (hs : Sl Ha wa) (a0 : l10Work) (v0_0 : Value) (p0_0 : RSl Ha (eL eI 1) 1 v0_0 a0.list) (v0_1 : Value) (p0_1 : RSl Ha eI 1 v0_1 a0.rounds) (v0_2 : Value) (p0_2 : RSl Ha eI 1 v0_2 a0.left) (v0_3 : Value) (p0_3 : RSl Ha eI 1 v0_3 a0.right) (v0_4 : Value) (p0_4 : RSl Ha eI 1 v0_4 a0.pivots) (v0_5 : Value) (p0_5 : RSl Ha (eL eI 1) 1 v0_5 a0.sorted) (v1 : Value) (a1 : List Int) (p1 : RSl Ha eI 1 v1 a1) {r : Int} (hp : (PF.spec_l10Find a0 a1) = some r) :
  Calls Tryz.prog 168 #[Value.agg #[v0_0, v0_1, v0_2, v0_3, v0_4, v0_5], v1] wa (Sc Ha wa (Value.int .i64 r)) := by
 unfold PF.spec_l10Find at hp
 have S0 := St.init hs
 refine calls_go (N := 21) (args := [Value.agg #[v0_0, v0_1, v0_2, v0_3, v0_4, v0_5], v1]) Tryz.func168 rfl rfl rfl ?_
 refine FW.seq (FW.region ?_)
 obtain ⟨b21, w22, run23, S24⟩ := S0.box (P := Tryz.prog) 163 [v0_0, v0_1, v0_2, v0_3, v0_4, v0_5] (v := Value.agg #[v0_0, v0_1, v0_2, v0_3, v0_4, v0_5]) rfl (ones_cons p0_0.one (ones_cons p0_1.one (ones_cons p0_2.one (ones_cons p0_3.one (ones_cons p0_4.one (ones_cons p0_5.one ones_nil))))))
 refine FL.v (E.box rfl run23) ?_
 obtain ⟨H25, S26, i27, at28⟩ := S24.sealBox (i := 0) (l' := []) rfl rfl
 refine FL.v (E.assign (v := Value.int .i64 0) rfl) ?_
 refine FL.nil (FW.seq (FW.seq (FW.region ?_)))
 refine FL.v (E.assign (v := Value.int .i64 0) rfl) ?_
 refine FL.nil ?_
 obtain ⟨q29, hq, hp⟩ := bndR hp
 refine FW.block ?_
 refine FW.mono (FW.iter (S := Int) (X := Int) (fun (s29 : Int) f w => ∃ H : GH, St Ha wa H w [] ∧ Inc H25 H ∧ f 1 = v1 ∧ f 2 = Value.pointer (some ⟨b21, 0, none⟩) ∧ f 5 = Value.int .i64 s29) (fun q e f w => match q with | .go s29 => e = Exit.exit 0 ∧ (∃ H : GH, St Ha wa H w [] ∧ Inc H25 H) | .rt x => ((e = Exit.ret) ∧ (fun e f w => (e = Exit.normal ∨ e = Exit.ret) ∧ ∀ a, Fr (δ := []) 21 a f → ∃ v, (results Tryz.f168 a.tmps).run Tryz.prog w = .ok v w ∧ (Sc Ha wa (Value.int .i64 x)) (.returned v) w) e f w)) hq ⟨_, S26, (Inc.rfl _), rfl, rfl, rfl⟩ ?_) ?_
 ·
  clear hp hq
  rintro s29 f59 w58 ⟨H55, S56, i57, k60, k61, k62⟩ o80 hp
  refine FW.seq (FW.seq (FW.region ?_))
  refine FL.v (E.move k62) ?_
  refine FL.v (E.fieldAddr tf163_0 k61) ?_
  refine FL.v (E.load rfl (run_load1 Tryz.isAgg22 ((at28.mono i57).now S56.sl) rfl)) ?_
  refine FL.v (E.lenP te22 rfl p0_0) ?_
  refine FL.v (E.lss rfl rfl) ?_
  refine FL.nil ?_
  rcases ifB hp with ⟨c63, hp⟩ | ⟨c63, hp⟩
  ·
   refine FW.condT rfl c63 ?_
   refine FW.skip (FW.seq (FW.block (FW.seq (FW.region ?_))))
   refine FL.v (E.fieldAddr tf163_0 k61) ?_
   refine FL.v (E.load rfl (run_load1 Tryz.isAgg22 ((at28.mono i57).now S56.sl) rfl)) ?_
   refine FL.v (E.move k62) ?_
   obtain ⟨x70, hx71, hp⟩ := bnd hp
   obtain ⟨p64, cs65, pt66, l67, at68, rel69⟩ := p0_0.at hx71
   obtain ⟨v72, rfl, h73⟩ := eL_open rel69
   refine FL.v (E.indexAddr te22 rfl rfl pt66) ?_
   refine FL.v (E.load rfl (run_load0 Tryz.isAgg25 ((at68.mono (i27.tr i57)).now S56.sl) rfl)) ?_
   refine FL.v (E.move k60) ?_
   obtain ⟨r74, hr75, hp⟩ := bnd hp
   refine FL.call rfl rfl rfl (E.call Tryz.call255 (A2 rfl rfl)) (w_spec_l1Same S56.sl v72 x70 (h73.mono (i27.tr i57)) v1 a1 (p1.mono (i27.tr i57)) hr75) ?_
   rintro e w76 ⟨rfl, r77⟩
   refine ⟨_, rfl, ?_⟩
   have S78 := S56.call r77
   refine FL.nil ?_
   rcases ifB hp with ⟨c79, hp⟩ | ⟨c79, hp⟩
   ·
    refine FW.condT rfl c79 ?_
    refine FW.seq (FW.region ?_)
    refine FL.v (E.move k62) ?_
    refine FL.v (E.assign (v := Value.int .i64 s29) rfl) ?_
    refine FL.nil ?_
    refine FW.ret ?_
    obtain rfl := Option.some.inj hp
    exact ⟨nofun, rfl, ⟨.inr rfl, res1 rfl rfl ⟨rfl, S78.back⟩⟩⟩
   ·
    refine FW.condF rfl c79 ?_
    refine FW.skip (FW.region ?_)
    refine FL.v (E.move k62) ?_
    refine FL.v (E.add rfl rfl) ?_
    refine FL.v (E.assign (v := Value.int .i64 (wr (s29 + 1))) rfl) ?_
    refine FL.nil ?_
    obtain rfl := Option.some.inj hp
    exact ⟨rfl, ⟨_, S78, i57, k60, k61, rfl⟩⟩
  ·
   refine FW.condF rfl c63 ?_
   refine FW.exit ?_
   obtain rfl := Option.some.inj hp
   exact ⟨nofun, rfl, ⟨_, S56, i57⟩⟩
 ·
  clear hq
  intro e f85 w84 hD
  rcases q29 with s29 | x29
  ·
   obtain ⟨rfl, hD⟩ := hD
   obtain ⟨H81, S82, i83⟩ := hD
   replace hp := el_go hp
   refine FW.seq (FW.region ?_)
   refine FL.v (E.assign (v := Value.int .i64 (-1)) rfl) ?_
   refine FL.nil ?_
   refine FW.ret ?_
   obtain rfl := Option.some.inj hp
   exact ⟨.inr rfl, res1 rfl rfl ⟨rfl, S82.back⟩⟩
  ·
   obtain ⟨he, hL⟩ := hD
   replace hp := el_rt hp
   obtain rfl := Option.some.inj hp
   subst he
   exact hL

@[reducible] def p_spec_l7Axiom (Ha : GH) (wa : World) (r : ResStep) : Ending → World → Prop :=
 fun e w' => ∃ H' : GH, ∃ v0_0 : Value, e = .returned (Value.agg #[v0_0, Value.int .i64 r.left, Value.int .i64 r.right, Value.int .i64 r.pivot]) ∧ Run wa.heap.size Ha wa H' w' ∧ RSl (up wa.heap.size H') eI 1 v0_0 r.clause
theorem w_spec_l7Axiom {Ha : GH} {wa : World} (hs : Sl Ha wa) (a0 : Cnf) (v0_1 : Value) (p0_1 : RSl Ha (eL eI 1) 1 v0_1 a0.clauses) (a1 : Int) {r : ResStep} (hp : (PF.spec_l7Axiom a0 a1) = some r) :
  Calls Tryz.prog 256 #[Value.agg #[Value.int .i64 a0.vars, v0_1], Value.int .i64 a1] wa (p_spec_l7Axiom Ha wa r) := by
 unfold PF.spec_l7Axiom at hp
 have S0 := St.init hs
 refine calls_go (N := 13) (args := [Value.agg #[Value.int .i64 a0.vars, v0_1], Value.int .i64 a1]) Tryz.func256 rfl rfl rfl ?_
 refine FW.seq (FW.region ?_)
 obtain ⟨b21, w22, run23, S24⟩ := S0.box (P := Tryz.prog) 30 [Value.int .i64 a0.vars, v0_1] (v := Value.agg #[Value.int .i64 a0.vars, v0_1]) rfl (ones_cons rfl (ones_cons p0_1.one ones_nil))
 refine FL.v (E.box rfl run23) ?_
 obtain ⟨H25, S26, i27, at28⟩ := S24.sealBox (i := 0) (l' := []) rfl rfl
 obtain ⟨b29, w30, run31, S32⟩ := S26.alloc (P := Tryz.prog) 98 [Value.slice none 0 0, Value.int .i64 0, Value.int .i64 0, Value.int .i64 0] Tryz.zeroValue98 rfl (ones_cons rfl (ones_cons rfl (ones_cons rfl (ones_cons rfl ones_nil))))
 refine FL.v (E.alloc run31) ?_
 refine FL.nil (FW.seq (FW.region ?_))
 refine FL.v (E.fieldAddr tf30_1 rfl) ?_
 refine FL.v (E.load rfl (run_load1 Tryz.isAgg22 (at28.now S32.sl) rfl)) ?_
 refine FL.v (E.move (v := Value.int .i64 a1) rfl) ?_
 obtain ⟨x39, hx40, hp⟩ := bnd hp
 obtain ⟨p33, cs34, pt35, l36, at37, rel38⟩ := p0_1.at hx40
 obtain ⟨v41, rfl, h42⟩ := eL_open rel38
 refine FL.v (E.indexAddr te22 rfl rfl pt35) ?_
 refine FL.v (E.load rfl (run_load0 Tryz.isAgg25 ((at37.mono i27).now S32.sl) rfl)) ?_
 obtain ⟨r43, hr44, hp⟩ := bnd hp
 refine FL.call rfl rfl rfl (E.call Tryz.call214 (A1 rfl)) (w_spec_l1Own S32.sl v41 x39 (h42.mono i27) hr44) ?_
 rintro e w46 ⟨H45, v49, n50, cs51, rfl, r48, els52⟩
 refine ⟨_, rfl, ?_⟩
 have els52 := els52.mono (up_le S32.size)
 have S47 := S32.join (l' := [.row 3 1 v49 n50 cs51, .box b29 98 [Value.slice none 0 0, Value.int .i64 0, Value.int .i64 0, Value.int .i64 0]]) r48 rfl
 refine FL.v (E.move (v := Value.int .i64 a1) rfl) ?_
 refine FL.v (E.build (B3 rfl rfl rfl) (run_build _ 98 #[(0, v49), (1, Value.int .i64 (-1)), (2, Value.int .i64 a1)] #[v49, Value.int .i64 (-1), Value.int .i64 a1, Value.int .i64 0] (by obtain ⟨_, _, rfl⟩ := S47.row_ln (i := 0) rfl; rfl))) ?_
 obtain ⟨w53, run54, S55⟩ := S47.store0 (P := Tryz.prog) (t := 98) (i := 1) (cs' := [v49, Value.int .i64 (-1), Value.int .i64 a1, Value.int .i64 0]) (l' := [.row 3 1 v49 n50 cs51, .box b29 98 [v49, Value.int .i64 (-1), Value.int .i64 a1, Value.int .i64 0]]) (v := Value.agg #[v49, Value.int .i64 (-1), Value.int .i64 a1, Value.int .i64 0]) (c := [v49, Value.int .i64 (-1), Value.int .i64 a1, Value.int .i64 0]) rfl Tryz.sizeOf98 rfl rfl (ones_cons (Ln.one (S47.row_ln (i := 0) rfl)) (ones_cons rfl (ones_cons rfl (ones_cons rfl ones_nil)))) (Nat.le_of_ble_eq_true rfl) rfl rfl
 refine FL.act rfl rfl (E.store rfl rfl run54) ?_
 obtain ⟨H56, S57, i58, h59, nv60⟩ := S55.sealRowU (i := 0) (l' := [.box b29 98 [v49, Value.int .i64 (-1), Value.int .i64 a1, Value.int .i64 0]]) rfl els52 (by decide) rfl
 obtain ⟨H61, S62, i63, at64⟩ := S57.sealBox (i := 0) (l' := []) rfl rfl
 refine FL.nil ?_
 refine FW.ret ?_
 obtain rfl := Option.some.inj hp
 exact ⟨.inr rfl, resC rfl rfl (loadVar_A Tryz.isAgg98 Tryz.sizeOf98 (at64.now S62.sl) rfl) ⟨_, _, rfl, S62.run, (h59.mono (up_mono i63))⟩⟩

@[reducible] def p_spec_l10Derive (Ha : GH) (wa : World) (r : ((List ResStep) × Bool)) : Ending → World → Prop :=
 fun e w' => ∃ H' : GH, ∃ v0 : Value, ∃ n0 : Nat, ∃ c0 : List Value, e = .returned (Value.tuple #[v0, Value.bool r.2]) ∧ St Ha wa H' w' [.row 98 4 v0 n0 c0] ∧ Els (up wa.heap.size H') eResStep 4 c0 r.1 ∧ (bl c0).Nodup
set_option maxHeartbeats 4000000 in
theorem w_spec_l10Derive {Ha : GH} {wa : World} (hs : Sl Ha wa) (a0 : Cnf) (v0_1 : Value) (p0_1 : RSl Ha (eL eI 1) 1 v0_1 a0.clauses) (a1 : l10Work) (v1_0 : Value) (p1_0 : RSl Ha (eL eI 1) 1 v1_0 a1.list) (v1_1 : Value) (p1_1 : RSl Ha eI 1 v1_1 a1.rounds) (v1_2 : Value) (p1_2 : RSl Ha eI 1 v1_2 a1.left) (v1_3 : Value) (p1_3 : RSl Ha eI 1 v1_3 a1.right) (v1_4 : Value) (p1_4 : RSl Ha eI 1 v1_4 a1.pivots) (v1_5 : Value) (p1_5 : RSl Ha (eL eI 1) 1 v1_5 a1.sorted) (a2 : Int) {r : ((List ResStep) × Bool)} (hp : (PF.spec_l10Derive a0 a1 a2) = some r) :
  Calls Tryz.prog 169 #[Value.agg #[Value.int .i64 a0.vars, v0_1], Value.agg #[v1_0, v1_1, v1_2, v1_3, v1_4, v1_5], Value.int .i64 a2] wa (p_spec_l10Derive Ha wa r) := by
 unfold PF.spec_l10Derive at hp
 have S0 := St.init hs
 refine calls_go (N := 133) (args := [Value.agg #[Value.int .i64 a0.vars, v0_1], Value.agg #[v1_0, v1_1, v1_2, v1_3, v1_4, v1_5], Value.int .i64 a2]) Tryz.func169 rfl rfl rfl ?_
 refine FW.seq (FW.region ?_)
 obtain ⟨b21, w22, run23, S24⟩ := S0.box (P := Tryz.prog) 30 [Value.int .i64 a0.vars, v0_1] (v := Value.agg #[Value.int .i64 a0.vars, v0_1]) rfl (ones_cons rfl (ones_cons p0_1.one ones_nil))
 refine FL.v (E.box rfl run23) ?_
 obtain ⟨H25, S26, i27, at28⟩ := S24.sealBox (i := 0) (l' := []) rfl rfl
 obtain ⟨b29, w30, run31, S32⟩ := S26.box (P := Tryz.prog) 163 [v1_0, v1_1, v1_2, v1_3, v1_4, v1_5] (v := Value.agg #[v1_0, v1_1, v1_2, v1_3, v1_4, v1_5]) rfl (ones_cons p1_0.one (ones_cons p1_1.one (ones_cons p1_2.one (ones_cons p1_3.one (ones_cons p1_4.one (ones_cons p1_5.one ones_nil))))))
 refine FL.v (E.box rfl run31) ?_
 obtain ⟨H33, S34, i35, at36⟩ := S32.sealBox (i := 0) (l' := []) rfl rfl
 refine FL.v (E.assign (v := Value.slice none 0 0) rfl) ?_
 refine FL.v (E.assign (v := Value.bool false) rfl) ?_
 refine FL.nil (FW.seq ?_)
 obtain ⟨xs40, hm41, hp⟩ := bnd hp
 obtain ⟨xs50, hm51, hp⟩ := bnd hp
 refine FW.drawB (Sl H33) (fun f w => ∃ H : GH, ∃ v60 : Value, ∃ n61 : Nat, ∃ cs62 : List Value, ∃ v64 : Value, ∃ n65 : Nat, ∃ cs66 : List Value, St Ha wa H w [.row 4 1 v60 n61 cs62, .row 3 1 v64 n65 cs66] ∧ Inc H33 H ∧ Els (up wa.heap.size H) eB 1 cs62 xs40 ∧ Els (up wa.heap.size H) eI 1 cs66 xs50 ∧ f 2 = Value.int .i64 a2 ∧ f 3 = Value.pointer (some ⟨b21, 0, none⟩) ∧ f 4 = Value.pointer (some ⟨b29, 0, none⟩) ∧ f 8 = v60 ∧ f 9 = v64) (by kernel_rfl) S34.sl ?_ ?_
 ·
  intro w37 r38
  have S39 := S34.call r38
  refine FB.t (i := 0) (bs 10 1) rfl (SP.nil S39.sl) rfl (fun w' hw' => (E.fieldAddr tf163_0 rfl)) ?_
  refine FB.t (i := 1) (bs 10 3) rfl (SP.nil S39.sl) rfl (fun w' hw' => (E.load rfl (run_load1 Tryz.isAgg22 (at36.now hw') rfl))) ?_
  refine FB.t (i := 2) (bs 10 7) rfl (SP.nil S39.sl) rfl (fun w' hw' => (E.lenP te22 rfl p1_0)) ?_
  refine FB.t (i := 4) (bs 10 23) rfl (SP.nil S39.sl) rfl (fun w' hw' => (E.fieldAddr tf163_0 rfl)) ?_
  refine FB.t (i := 5) (bs 10 55) rfl (SP.nil S39.sl) rfl (fun w' hw' => (E.load rfl (run_load1 Tryz.isAgg22 (at36.now hw') rfl))) ?_
  refine FB.t (i := 6) (bs 10 119) rfl (SP.nil S39.sl) rfl (fun w' hw' => (E.lenP te22 rfl p1_0)) ?_
  refine FB.all2 (i := 3) (j := 7) (by kernel_rfl) ?_ ?_
  ·
   obtain ⟨v42, w43, n47, cs48, run44, S45, els46, hbl49⟩ := S39.makeEls (P := Tryz.prog) te116 (G := (up wa.heap.size H33)) (En := eB) (x0 := (false : Bool)) hm41 rfl (ones_cons rfl ones_nil) .i64 .i64
   refine FC.val (l' := (bs 10 127)) rfl (by kernel_rfl) rfl rfl rfl (E.makeSlice rfl rfl run44) ?_
   refine ⟨(SP.nil S45.sl), ?_⟩
   refine FB.t (i := 8) (bs 10 383) rfl (SP.nil S45.sl) rfl (fun w' hw' => (E.assign (v := v42) rfl)) ?_
   refine FB.all1 (i := 7) (by kernel_rfl) ?_
   ·
    obtain ⟨v52, w53, n57, cs58, run54, S55, els56, hbl59⟩ := S45.makeEls (P := Tryz.prog) te25 (G := (up wa.heap.size H33)) (En := eI) (x0 := (0 : Int)) hm51 rfl (ones_cons rfl ones_nil) .i64 .i64
    refine FC.val (l' := (bs 10 511)) rfl (by kernel_rfl) rfl rfl rfl (E.makeSlice rfl rfl run54) ?_
    refine ⟨(SP.nil S55.sl), ?_⟩
    refine FB.t (i := 9) (bs 10 1023) rfl (SP.nil S55.sl) rfl (fun w' hw' => (E.assign (v := v52) rfl)) ?_
    exact FB.done (by kernel_rfl) ⟨_, _, _, _, _, _, _, (S55.sel [1, 0] (by decide) rfl), (Inc.rfl _), els46, els56, rfl, rfl, rfl, rfl, rfl⟩
  ·
   obtain ⟨v52, w53, n57, cs58, run54, S55, els56, hbl59⟩ := S39.makeEls (P := Tryz.prog) te25 (G := (up wa.heap.size H33)) (En := eI) (x0 := (0 : Int)) hm51 rfl (ones_cons rfl ones_nil) .i64 .i64
   refine FC.val (l' := (bs 10 247)) rfl (by kernel_rfl) rfl rfl rfl (E.makeSlice rfl rfl run54) ?_
   refine ⟨(SP.nil S55.sl), ?_⟩
   refine FB.all1 (i := 3) (by kernel_rfl) ?_
   ·
    obtain ⟨v42, w43, n47, cs48, run44, S45, els46, hbl49⟩ := S55.makeEls (P := Tryz.prog) te116 (G := (up wa.heap.size H33)) (En := eB) (x0 := (false : Bool)) hm41 rfl (ones_cons rfl ones_nil) .i64 .i64
    refine FC.val (l' := (bs 10 255)) rfl (by kernel_rfl) rfl rfl rfl (E.makeSlice rfl rfl run44) ?_
    refine ⟨(SP.nil S45.sl), ?_⟩
    refine FB.t (i := 8) (bs 10 511) rfl (SP.nil S45.sl) rfl (fun w' hw' => (E.assign (v := v42) rfl)) ?_
    refine FB.t (i := 9) (bs 10 1023) rfl (SP.nil S45.sl) rfl (fun w' hw' => (E.assign (v := v52) rfl)) ?_
    exact FB.done (by kernel_rfl) ⟨_, _, _, _, _, _, _, S45, (Inc.rfl _), els46, els56, rfl, rfl, rfl, rfl, rfl⟩
 ·
  rintro f72 w71 ⟨H68, v60, n61, cs62, v64, n65, cs66, S69, i70, els63, els67, k73, k74, k75, k76, k77⟩
  refine FW.seq (FW.region ?_)
  refine FL.v (E.move k76) ?_
  refine FL.v (E.move k73) ?_
  obtain ⟨x84, hx85, hp⟩ := bnd hp
  obtain ⟨p78, cs79, pt80, l81, at82, rel83⟩ := S69.row_at (i := 0) rfl els63 (by decide) hx85
  obtain rfl := eB_open rel83
  refine FL.v (E.indexAddr te116 rfl rfl pt80) ?_
  obtain ⟨xs89, hput90, hp⟩ := bnd hp
  obtain ⟨w86, cs92, run87, S88, els91, ce93⟩ := S69.putEls (P := Tryz.prog) (t := 4) (i := 0) rfl els63 hput90 pt80 Tryz.sizeOf4 (u := Value.bool true) (c := [Value.bool true]) rfl rfl (ones_cons rfl ones_nil) rfl
  have S88 : St Ha wa H68 w86 [.row 4 1 v60 n61 cs92, .row 3 1 v64 n65 cs66] := S88
  refine FL.act rfl rfl (E.store rfl rfl run87) ?_
  refine FL.nil (FW.seq (FW.seq (FW.region ?_)))
  refine FL.v (E.move k73) ?_
  refine FL.v (E.assign (v := Value.int .i64 a2) rfl) ?_
  refine FL.nil ?_
  obtain ⟨q94, hq, hp⟩ := bndR hp
  refine FW.block ?_
  refine FW.mono (FW.iter (S := ((List Bool) × Int)) (X := Empty) (fun (s94 : ((List Bool) × Int)) f w => ∃ H : GH, ∃ v95 : Value, ∃ n96 : Nat, ∃ cs97 : List Value, St Ha wa H w [.row 4 1 v95 n96 cs97, .row 3 1 v64 n65 cs66] ∧ Inc H68 H ∧ Els (up wa.heap.size H) eB 1 cs97 s94.1 ∧ f 2 = Value.int .i64 a2 ∧ f 3 = Value.pointer (some ⟨b21, 0, none⟩) ∧ f 4 = Value.pointer (some ⟨b29, 0, none⟩) ∧ f 8 = v95 ∧ f 9 = v64 ∧ f 10 = Value.int .i64 s94.2) (fun (q : Rs ((List Bool) × Int) Empty) e f w => match q with | .go s94 => e = Exit.exit 0 ∧ (∃ H : GH, ∃ v95 : Value, ∃ n96 : Nat, ∃ cs97 : List Value, St Ha wa H w [.row 4 1 v95 n96 cs97, .row 3 1 v64 n65 cs66] ∧ Inc H68 H ∧ Els (up wa.heap.size H) eB 1 cs97 s94.1 ∧ f 2 = Value.int .i64 a2 ∧ f 3 = Value.pointer (some ⟨b21, 0, none⟩) ∧ f 4 = Value.pointer (some ⟨b29, 0, none⟩) ∧ f 8 = v95 ∧ f 9 = v64) | .rt x => x.elim) hq ⟨_, _, _, _, S88, (Inc.rfl _), els91, k73, k74, k75, k76, k77, rfl⟩ ?_) ?_
  ·
   clear hp hq
   rintro s94 f103 w102 ⟨H99, v95, n96, cs97, S100, i101, els98, k104, k105, k106, k107, k108, k109⟩ o192 hp
   refine FW.seq (FW.seq (FW.region ?_))
   refine FL.v (E.move k109) ?_
   refine FL.v (E.geq rfl rfl) ?_
   refine FL.nil ?_
   rcases ifB hp with ⟨c110, hp⟩ | ⟨c110, hp⟩
   ·
    refine FW.condT rfl c110 ?_
    refine FW.skip (FW.seq (FW.block (FW.seq (FW.region ?_))))
    refine FL.v (E.move k107) ?_
    refine FL.v (E.move k109) ?_
    obtain ⟨x118, hx119, hp⟩ := bnd hp
    obtain ⟨p111, cs112, pt113, l114, at115, rel117⟩ := S100.row_at (i := 0) rfl els98 (by decide) hx119
    obtain rfl := eB_open rel117
    refine FL.v (E.indexAddr te116 rfl rfl pt113) ?_
    refine FL.v (E.load rfl (run_load0 Tryz.isAgg4 at115 rfl)) ?_
    refine FL.v (E.move (v := Value.bool x118) rfl) ?_
    obtain ⟨t120, hqt120, hp⟩ := bnd hp
    refine FL.cut 7 (fun f w => ∃ H : GH, St Ha wa H w [.row 4 1 v95 n96 cs97, .row 3 1 v64 n65 cs66] ∧ Inc H99 H ∧ f 2 = Value.int .i64 a2 ∧ f 3 = Value.pointer (some ⟨b21, 0, none⟩) ∧ f 4 = Value.pointer (some ⟨b29, 0, none⟩) ∧ f 8 = v95 ∧ f 9 = v64 ∧ f 10 = Value.int .i64 s94.2 ∧ f 41 = Value.bool t120) ?_ ?_
    ·
     clear hp; have hp := hqt120; clear hqt120
     rcases ifB hp with ⟨c126, hp⟩ | ⟨c126, hp⟩
     ·
      refine FL.val (wF_yes rfl rfl rfl c126) rfl rfl (E.fieldAddr tf163_1 k106) ?_
      refine FL.val (wF_yes rfl rfl rfl c126) rfl rfl (E.load rfl (run_load1 Tryz.isAgg25 ((at36.mono (i70.tr i101)).now S100.sl) rfl)) ?_
      refine FL.val (wF_yes rfl rfl rfl c126) rfl rfl (E.move k109) ?_
      obtain ⟨x133, hx134, hp⟩ := bnd hp
      obtain ⟨p127, cs128, pt129, l130, at131, rel132⟩ := p1_1.at hx134
      obtain rfl := eI_open rel132
      refine FL.val (wF_yes rfl rfl rfl c126) rfl rfl (E.indexAddr te25 rfl rfl pt129) ?_
      refine FL.val (wF_yes rfl rfl rfl c126) rfl rfl (E.load rfl (run_load0 Tryz.isAgg3 ((at131.mono (((i27.tr i35).tr i70).tr i101)).now S100.sl) rfl)) ?_
      refine FL.val (wF_yes rfl rfl rfl c126) rfl rfl (E.gtr rfl rfl) ?_
      obtain rfl := Option.some.inj hp
      refine FL.v (E.pickT rfl c126 rfl) ?_
      exact FL.nil ⟨rfl, _, S100, (Inc.rfl _), k104, k105, k106, k107, k108, k109, rfl⟩
     ·
      refine FL.skip (wF_no rfl rfl rfl c126) rfl ?_
      refine FL.skip (wF_no rfl rfl rfl c126) rfl ?_
      refine FL.skip (wF_no rfl rfl rfl c126) rfl ?_
      refine FL.skip (wF_no rfl rfl rfl c126) rfl ?_
      refine FL.skip (wF_no rfl rfl rfl c126) rfl ?_
      refine FL.skip (wF_no rfl rfl rfl c126) rfl ?_
      obtain rfl := Option.some.inj hp
      refine FL.v (E.pickF rfl c126 rfl) ?_
      exact FL.nil ⟨rfl, _, S100, (Inc.rfl _), k104, k105, k106, k107, k108, k109, rfl⟩
    rintro f125 w124 ⟨H121, S122, i123, k135, k136, k137, k138, k139, k140, k141⟩
    refine FL.nil ?_
    rcases ifB hp with ⟨c142, hp⟩ | ⟨c142, hp⟩
    ·
     refine FW.condT k141 c142 ?_
     refine FW.seq (FW.region ?_)
     refine FL.v (E.move k138) ?_
     refine FL.v (E.fieldAddr tf163_2 k137) ?_
     refine FL.v (E.load rfl (run_load1 Tryz.isAgg25 ((at36.mono ((i70.tr i101).tr i123)).now S122.sl) rfl)) ?_
     refine FL.v (E.move k140) ?_
     obtain ⟨x149, hx150, hp⟩ := bnd hp
     obtain ⟨p143, cs144, pt145, l146, at147, rel148⟩ := p1_2.at hx150
     obtain rfl := eI_open rel148
     refine FL.v (E.indexAddr te25 rfl rfl pt145) ?_
     refine FL.v (E.load rfl (run_load0 Tryz.isAgg3 ((at147.mono ((((i27.tr i35).tr i70).tr i101).tr i123)).now S122.sl) rfl)) ?_
     obtain ⟨x157, hx158, hp⟩ := bnd hp
     obtain ⟨p151, cs152, pt153, l154, at155, rel156⟩ := S122.row_at (i := 0) rfl els98 (by decide) hx158
     obtain rfl := eB_open rel156
     refine FL.v (E.indexAddr te116 rfl rfl pt153) ?_
     obtain ⟨xs162, hput164, hp⟩ := bnd hp
     obtain ⟨w159, cs166, run160, S161, els165, ce167⟩ := S122.putEls (P := Tryz.prog) (t := 4) (i := 0) rfl (els98.mono (up_mono i123)) hput164 pt153 Tryz.sizeOf4 (u := Value.bool true) (c := [Value.bool true]) rfl rfl (ones_cons rfl ones_nil) rfl
     have S161 : St Ha wa H121 w159 [.row 4 1 v95 n96 cs166, .row 3 1 v64 n65 cs66] := S161
     refine FL.act rfl rfl (E.store rfl rfl run160) ?_
     refine FL.nil (FW.region ?_)
     refine FL.v (E.move k138) ?_
     refine FL.v (E.fieldAddr tf163_3 k137) ?_
     refine FL.v (E.load rfl (run_load1 Tryz.isAgg25 ((at36.mono ((i70.tr i101).tr i123)).now S161.sl) rfl)) ?_
     refine FL.v (E.move k140) ?_
     obtain ⟨x174, hx175, hp⟩ := bnd hp
     obtain ⟨p168, cs169, pt170, l171, at172, rel173⟩ := p1_3.at hx175
     obtain rfl := eI_open rel173
     refine FL.v (E.indexAddr te25 rfl rfl pt170) ?_
     refine FL.v (E.load rfl (run_load0 Tryz.isAgg3 ((at172.mono ((((i27.tr i35).tr i70).tr i101).tr i123)).now S161.sl) rfl)) ?_
     obtain ⟨x182, hx183, hp⟩ := bnd hp
     obtain ⟨p176, cs177, pt178, l179, at180, rel181⟩ := S161.row_at (i := 0) rfl els165 (by decide) hx183
     obtain rfl := eB_open rel181
     refine FL.v (E.indexAddr te116 rfl rfl pt178) ?_
     obtain ⟨xs187, hput188, hp⟩ := bnd hp
     obtain ⟨w184, cs190, run185, S186, els189, ce191⟩ := S161.putEls (P := Tryz.prog) (t := 4) (i := 0) rfl els165 hput188 pt178 Tryz.sizeOf4 (u := Value.bool true) (c := [Value.bool true]) rfl rfl (ones_cons rfl ones_nil) rfl
     have S186 : St Ha wa H121 w184 [.row 4 1 v95 n96 cs190, .row 3 1 v64 n65 cs66] := S186
     refine FL.act rfl rfl (E.store rfl rfl run185) ?_
     refine FL.nil (FW.region ?_)
     refine FL.v (E.move k140) ?_
     refine FL.v (E.sub rfl rfl) ?_
     refine FL.v (E.assign (v := Value.int .i64 (wr (s94.2 - 1))) rfl) ?_
     refine FL.nil ?_
     obtain rfl := Option.some.inj hp
     exact ⟨rfl, ⟨_, _, _, _, S186, (i101.tr i123), els189, k135, k136, k137, k138, k139, rfl⟩⟩
    ·
     refine FW.condF k141 c142 ?_
     refine FW.skip (FW.region ?_)
     refine FL.v (E.move k140) ?_
     refine FL.v (E.sub rfl rfl) ?_
     refine FL.v (E.assign (v := Value.int .i64 (wr (s94.2 - 1))) rfl) ?_
     refine FL.nil ?_
     obtain rfl := Option.some.inj hp
     exact ⟨rfl, ⟨_, _, _, _, S122, (i101.tr i123), (els98.mono (up_mono i123)), k135, k136, k137, k138, k139, rfl⟩⟩
   ·
    refine FW.condF rfl c110 ?_
    refine FW.exit ?_
    obtain rfl := Option.some.inj hp
    exact ⟨nofun, rfl, ⟨_, _, _, _, S100, i101, els98, k104, k105, k106, k107, k108⟩⟩
  ·
   clear hq
   intro e f197 w196 hD
   rcases q94 with s94 | x94
   ·
    obtain ⟨rfl, hD⟩ := hD
    obtain ⟨H193, v95, n96, cs97, S194, i195, els98, k198, k199, k200, k201, k202⟩ := hD
    replace hp := el_go hp
    refine FW.seq (FW.region ?_)
    obtain ⟨v203, w204, run205, S206⟩ := S194.buildSlice (P := Tryz.prog) te27 [] (parts := #[]) (cells := []) rfl szs_nil fc_nil ones_nil (Nat.le_of_ble_eq_true rfl)
    have els207 : Els (up wa.heap.size H193) eResStep 4 [] [] := Els.nil
    refine FL.v (E.buildSlice (B0) run205) ?_
    refine FL.v (E.assign (v := v203) rfl) ?_
    refine FL.nil (FW.seq (FW.seq (FW.region ?_)))
    refine FL.v (E.assign (v := Value.int .i64 0) rfl) ?_
    refine FL.nil ?_
    obtain ⟨q208, hq, hp⟩ := bndR hp
    refine FW.block ?_
    refine FW.mono (FW.iter (S := ((List ResStep) × (List Int) × Int)) (X := Empty) (fun (s208 : ((List ResStep) × (List Int) × Int)) f w => ∃ H : GH, ∃ v209 : Value, ∃ n210 : Nat, ∃ cs211 : List Value, ∃ v214 : Value, ∃ n215 : Nat, ∃ cs216 : List Value, St Ha wa H w [.row 98 4 v209 n210 cs211, .row 4 1 v95 n96 cs97, .row 3 1 v214 n215 cs216] ∧ Inc H193 H ∧ Els (up wa.heap.size H) eResStep 4 cs211 s208.1 ∧ Els (up wa.heap.size H) eI 1 cs216 s208.2.1 ∧ (bl cs211).Nodup ∧ f 2 = Value.int .i64 a2 ∧ f 3 = Value.pointer (some ⟨b21, 0, none⟩) ∧ f 4 = Value.pointer (some ⟨b29, 0, none⟩) ∧ f 8 = v95 ∧ f 9 = v214 ∧ f 11 = v209 ∧ f 12 = Value.int .i64 s208.2.2) (fun (q : Rs ((List ResStep) × (List Int) × Int) Empty) e f w => match q with | .go s208 => e = Exit.exit 2 ∧ (∃ H : GH, ∃ v209 : Value, ∃ n210 : Nat, ∃ cs211 : List Value, ∃ v214 : Value, ∃ n215 : Nat, ∃ cs216 : List Value, St Ha wa H w [.row 98 4 v209 n210 cs211, .row 4 1 v95 n96 cs97, .row 3 1 v214 n215 cs216] ∧ Inc H193 H ∧ Els (up wa.heap.size H) eResStep 4 cs211 s208.1 ∧ Els (up wa.heap.size H) eI 1 cs216 s208.2.1 ∧ (bl cs211).Nodup ∧ f 11 = v209) | .rt x => x.elim) hq ⟨_, _, _, _, _, _, _, S206, (Inc.rfl _), els207, (els67.mono (up_mono i195)), (show (bl []).Nodup from List.nodup_nil), k198, k199, k200, k201, k202, rfl, rfl⟩ ?_) ?_
    ·
     clear hp hq
     rintro s208 f222 w221 ⟨H218, v209, n210, cs211, v214, n215, cs216, S219, i220, els212, els217, nd213, k223, k224, k225, k226, k227, k228, k229⟩ o451 hp
     refine FW.seq (FW.seq (FW.region ?_))
     refine FL.v (E.move k229) ?_
     refine FL.v (E.move k223) ?_
     refine FL.v (E.leq rfl rfl) ?_
     refine FL.nil ?_
     rcases ifB hp with ⟨c230, hp⟩ | ⟨c230, hp⟩
     ·
      refine FW.condT rfl c230 ?_
      refine FW.skip (FW.seq (FW.block (FW.seq (FW.seq (FW.region ?_)))))
      refine FL.v (E.move k226) ?_
      refine FL.v (E.move k229) ?_
      obtain ⟨x237, hx238, hp⟩ := bnd hp
      obtain ⟨p231, cs232, pt233, l234, at235, rel236⟩ := S219.row_at (i := 1) rfl els98 (by decide) hx238
      obtain rfl := eB_open rel236
      refine FL.v (E.indexAddr te116 rfl rfl pt233) ?_
      refine FL.v (E.load rfl (run_load0 Tryz.isAgg4 at235 rfl)) ?_
      refine FL.v (E.not rfl) ?_
      refine FL.nil ?_
      rcases ifB hp with ⟨c239, hp⟩ | ⟨c239, hp⟩
      ·
       refine FW.condT rfl c239 ?_
       refine FW.exit ?_
       refine FW.region ?_
       refine FL.v (E.move k229) ?_
       refine FL.v (E.add rfl rfl) ?_
       refine FL.v (E.assign (v := Value.int .i64 (wr (s208.2.2 + 1))) rfl) ?_
       refine FL.nil ?_
       obtain rfl := Option.some.inj hp
       exact ⟨rfl, ⟨_, _, _, _, _, _, _, S219, i220, els212, els217, nd213, k223, k224, k225, k226, k227, k228, rfl⟩⟩
      ·
       refine FW.condF rfl c239 ?_
       refine FW.skip (FW.seq (FW.region ?_))
       refine FL.v (E.move k227) ?_
       refine FL.v (E.move k229) ?_
       refine FL.v (E.move k228) ?_
       refine FL.v (E.lenO te27 rfl S219 (i := 0) rfl els212 (by decide)) ?_
       obtain ⟨x246, hx247, hp⟩ := bnd hp
       obtain ⟨p240, cs241, pt242, l243, at244, rel245⟩ := S219.row_at (i := 2) rfl els217 (by decide) hx247
       obtain rfl := eI_open rel245
       refine FL.v (E.indexAddr te25 rfl rfl pt242) ?_
       obtain ⟨xs251, hput252, hp⟩ := bnd hp
       obtain ⟨w248, cs254, run249, S250, els253, ce255⟩ := S219.putEls (P := Tryz.prog) (t := 3) (i := 2) rfl els217 hput252 pt242 Tryz.sizeOf3 (u := Value.int .i64 (len s208.1)) (c := [Value.int .i64 (len s208.1)]) rfl rfl (ones_cons rfl ones_nil) rfl
       have S250 : St Ha wa H218 w248 [.row 98 4 v209 n210 cs211, .row 4 1 v95 n96 cs97, .row 3 1 v214 n215 cs254] := S250
       refine FL.act rfl rfl (E.store rfl rfl run249) ?_
       refine FL.nil (FW.seq (FW.seq (FW.region ?_)))
       refine FL.v (E.fieldAddr tf163_1 k225) ?_
       refine FL.v (E.load rfl (run_load1 Tryz.isAgg25 ((at36.mono ((i70.tr i195).tr i220)).now S250.sl) rfl)) ?_
       refine FL.v (E.move k229) ?_
       obtain ⟨x262, hx263, hp⟩ := bnd hp
       obtain ⟨p256, cs257, pt258, l259, at260, rel261⟩ := p1_1.at hx263
       obtain rfl := eI_open rel261
       refine FL.v (E.indexAddr te25 rfl rfl pt258) ?_
       refine FL.v (E.load rfl (run_load0 Tryz.isAgg3 ((at260.mono ((((i27.tr i35).tr i70).tr i195).tr i220)).now S250.sl) rfl)) ?_
       refine FL.v (E.gtr rfl rfl) ?_
       refine FL.nil ?_
       rcases ifB hp with ⟨c264, hp⟩ | ⟨c264, hp⟩
       ·
        refine FW.condT rfl c264 ?_
        refine FW.seq ?_
        obtain ⟨x274, hx275, hp⟩ := bnd hp
        obtain ⟨r278, hr279, hp⟩ := bnd hp
        obtain ⟨x294, hx295, hp⟩ := bnd hp
        obtain ⟨x302, hx303, hp⟩ := bnd hp
        obtain ⟨x311, hx312, hp⟩ := bnd hp
        obtain ⟨x319, hx320, hp⟩ := bnd hp
        obtain ⟨x328, hx329, hp⟩ := bnd hp
        obtain ⟨xs341, hz342, hp⟩ := bnd hp
        refine FW.drawB (SX Ha wa H218 [.row 3 1 v214 n215 cs254]) (fun f w => ∃ H : GH, ∃ v353 : Value, ∃ n354 : Nat, ∃ cs355 : List Value, St Ha wa H w [.row 98 4 v353 n354 cs355, .row 4 1 v95 n96 cs97, .row 3 1 v214 n215 cs254] ∧ Inc H218 H ∧ Els (up wa.heap.size H) eResStep 4 cs355 xs341 ∧ (bl cs355).Nodup ∧ f 2 = Value.int .i64 a2 ∧ f 3 = Value.pointer (some ⟨b21, 0, none⟩) ∧ f 4 = Value.pointer (some ⟨b29, 0, none⟩) ∧ f 8 = v95 ∧ f 9 = v214 ∧ f 11 = v353 ∧ f 12 = Value.int .i64 s208.2.2) (by kernel_rfl) S250.sl ?_ ?_
        ·
         intro w265 r266
         have S267 := S250.call r266
         refine FB.t (i := 0) (bs 32 1) rfl (SP.nil ⟨_, (S267.sel [2] (by decide) rfl), (Inc.rfl _)⟩) rfl (fun w' hw' => (E.move k228)) ?_
         refine FB.t (i := 1) (bs 32 3) rfl (SP.nil ⟨_, (S267.sel [2] (by decide) rfl), (Inc.rfl _)⟩) rfl (fun w' hw' => (E.fieldAddr tf163_0 k225)) ?_
         refine FB.t (i := 2) (bs 32 7) rfl (SP.nil ⟨_, (S267.sel [2] (by decide) rfl), (Inc.rfl _)⟩) rfl (fun w' hw' => (E.load rfl (run_load1 Tryz.isAgg22 ((at36.mono ((i70.tr i195).tr i220)).now hw'.sl) rfl))) ?_
         refine FB.t (i := 3) (bs 32 15) rfl (SP.nil ⟨_, (S267.sel [2] (by decide) rfl), (Inc.rfl _)⟩) rfl (fun w' hw' => (E.move k229)) ?_
         obtain ⟨p268, cs269, pt270, l271, at272, rel273⟩ := p1_0.at hx275
         obtain ⟨v276, rfl, h277⟩ := eL_open rel273
         refine FB.t (i := 4) (bs 32 31) rfl (SP.nil ⟨_, (S267.sel [2] (by decide) rfl), (Inc.rfl _)⟩) rfl (fun w' hw' => (E.indexAddr te22 rfl rfl pt270)) ?_
         refine FB.t (i := 5) (bs 32 63) rfl (SP.nil ⟨_, (S267.sel [2] (by decide) rfl), (Inc.rfl _)⟩) rfl (fun w' hw' => (E.load rfl (run_load0 Tryz.isAgg25 ((at272.mono ((((i27.tr i35).tr i70).tr i195).tr i220)).now hw'.sl) rfl))) ?_
         refine FB.t (i := 7) (bs 32 191) rfl (SP.nil ⟨_, (S267.sel [2] (by decide) rfl), (Inc.rfl _)⟩) rfl (fun w' hw' => (E.move k227)) ?_
         refine FB.t (i := 8) (bs 32 447) rfl (SP.nil ⟨_, (S267.sel [2] (by decide) rfl), (Inc.rfl _)⟩) rfl (fun w' hw' => (E.fieldAddr tf163_2 k225)) ?_
         refine FB.t (i := 9) (bs 32 959) rfl (SP.nil ⟨_, (S267.sel [2] (by decide) rfl), (Inc.rfl _)⟩) rfl (fun w' hw' => (E.load rfl (run_load1 Tryz.isAgg25 ((at36.mono ((i70.tr i195).tr i220)).now hw'.sl) rfl))) ?_
         refine FB.t (i := 10) (bs 32 1983) rfl (SP.nil ⟨_, (S267.sel [2] (by decide) rfl), (Inc.rfl _)⟩) rfl (fun w' hw' => (E.move k229)) ?_
         obtain ⟨p288, cs289, pt290, l291, at292, rel293⟩ := p1_2.at hx295
         obtain rfl := eI_open rel293
         refine FB.t (i := 11) (bs 32 4031) rfl (SP.nil ⟨_, (S267.sel [2] (by decide) rfl), (Inc.rfl _)⟩) rfl (fun w' hw' => (E.indexAddr te25 rfl rfl pt290)) ?_
         refine FB.t (i := 12) (bs 32 8127) rfl (SP.nil ⟨_, (S267.sel [2] (by decide) rfl), (Inc.rfl _)⟩) rfl (fun w' hw' => (E.load rfl (run_load0 Tryz.isAgg3 ((at292.mono ((((i27.tr i35).tr i70).tr i195).tr i220)).now hw'.sl) rfl))) ?_
         obtain ⟨p296, cs297, pt298, l299, at300, rel301, hall304⟩ := S267.row_atA (i := 2) rfl els253 (by decide) hx303
         obtain rfl := eI_open rel301
         refine FB.t (i := 13) (bs 32 16319) rfl (SP.nil ⟨_, (S267.sel [2] (by decide) rfl), (Inc.rfl _)⟩) rfl (fun w' hw' => (E.indexAddr te25 rfl rfl pt298)) ?_
         refine FB.t (i := 14) (bs 32 32703) rfl (SP.nil ⟨_, (S267.sel [2] (by decide) rfl), (Inc.rfl _)⟩) rfl (fun w' hw' => (E.load rfl (run_load0 Tryz.isAgg3 (hw'.use fun _ st => hall304 _ _ _ 0 st rfl) rfl))) ?_
         refine FB.t (i := 15) (bs 32 65471) rfl (SP.nil ⟨_, (S267.sel [2] (by decide) rfl), (Inc.rfl _)⟩) rfl (fun w' hw' => (E.move k227)) ?_
         refine FB.t (i := 16) (bs 32 131007) rfl (SP.nil ⟨_, (S267.sel [2] (by decide) rfl), (Inc.rfl _)⟩) rfl (fun w' hw' => (E.fieldAddr tf163_3 k225)) ?_
         refine FB.t (i := 17) (bs 32 262079) rfl (SP.nil ⟨_, (S267.sel [2] (by decide) rfl), (Inc.rfl _)⟩) rfl (fun w' hw' => (E.load rfl (run_load1 Tryz.isAgg25 ((at36.mono ((i70.tr i195).tr i220)).now hw'.sl) rfl))) ?_
         refine FB.t (i := 18) (bs 32 524223) rfl (SP.nil ⟨_, (S267.sel [2] (by decide) rfl), (Inc.rfl _)⟩) rfl (fun w' hw' => (E.move k229)) ?_
         obtain ⟨p305, cs306, pt307, l308, at309, rel310⟩ := p1_3.at hx312
         obtain rfl := eI_open rel310
         refine FB.t (i := 19) (bs 32 1048511) rfl (SP.nil ⟨_, (S267.sel [2] (by decide) rfl), (Inc.rfl _)⟩) rfl (fun w' hw' => (E.indexAddr te25 rfl rfl pt307)) ?_
         refine FB.t (i := 20) (bs 32 2097087) rfl (SP.nil ⟨_, (S267.sel [2] (by decide) rfl), (Inc.rfl _)⟩) rfl (fun w' hw' => (E.load rfl (run_load0 Tryz.isAgg3 ((at309.mono ((((i27.tr i35).tr i70).tr i195).tr i220)).now hw'.sl) rfl))) ?_
         obtain ⟨p313, cs314, pt315, l316, at317, rel318, hall321⟩ := S267.row_atA (i := 2) rfl els253 (by decide) hx320
         obtain rfl := eI_open rel318
         refine FB.t (i := 21) (bs 32 4194239) rfl (SP.nil ⟨_, (S267.sel [2] (by decide) rfl), (Inc.rfl _)⟩) rfl (fun w' hw' => (E.indexAddr te25 rfl rfl pt315)) ?_
         refine FB.t (i := 22) (bs 32 8388543) rfl (SP.nil ⟨_, (S267.sel [2] (by decide) rfl), (Inc.rfl _)⟩) rfl (fun w' hw' => (E.load rfl (run_load0 Tryz.isAgg3 (hw'.use fun _ st => hall321 _ _ _ 0 st rfl) rfl))) ?_
         refine FB.t (i := 23) (bs 32 16777151) rfl (SP.nil ⟨_, (S267.sel [2] (by decide) rfl), (Inc.rfl _)⟩) rfl (fun w' hw' => (E.fieldAddr tf163_4 k225)) ?_
         refine FB.t (i := 24) (bs 32 33554367) rfl (SP.nil ⟨_, (S267.sel [2] (by decide) rfl), (Inc.rfl _)⟩) rfl (fun w' hw' => (E.load rfl (run_load1 Tryz.isAgg25 ((at36.mono ((i70.tr i195).tr i220)).now hw'.sl) rfl))) ?_
         refine FB.t (i := 25) (bs 32 67108799) rfl (SP.nil ⟨_, (S267.sel [2] (by decide) rfl), (Inc.rfl _)⟩) rfl (fun w' hw' => (E.move k229)) ?_
         obtain ⟨p322, cs323, pt324, l325, at326, rel327⟩ := p1_4.at hx329
         obtain rfl := eI_open rel327
         refine FB.t (i := 26) (bs 32 134217663) rfl (SP.nil ⟨_, (S267.sel [2] (by decide) rfl), (Inc.rfl _)⟩) rfl (fun w' hw' => (E.indexAddr te25 rfl rfl pt324)) ?_
         refine FB.t (i := 27) (bs 32 268435391) rfl (SP.nil ⟨_, (S267.sel [2] (by decide) rfl), (Inc.rfl _)⟩) rfl (fun w' hw' => (E.load rfl (run_load0 Tryz.isAgg3 ((at326.mono ((((i27.tr i35).tr i70).tr i195).tr i220)).now hw'.sl) rfl))) ?_
         refine FB.all1 (i := 6) (by kernel_rfl) ?_
         ·
          refine FC.call (l' := (bs 32 268435455)) rfl (by kernel_rfl) rfl rfl rfl (E.call Tryz.call214 (A1 rfl)) (w_spec_l1Own S267.sl v276 x274 (h277.mono ((((i27.tr i35).tr i70).tr i195).tr i220)) hr279) ?_
          rintro e w281 ⟨H280, v284, n285, cs286, rfl, r283, els287⟩
          refine ⟨_, rfl, ?_⟩
          have els287 := els287.mono (up_le S267.size)
          have S282 := S267.join (l' := [.row 3 1 v284 n285 cs286, .row 98 4 v209 n210 cs211, .row 4 1 v95 n96 cs97, .row 3 1 v214 n215 cs254]) r283 rfl
          refine ⟨(SP.nil ⟨_, (S282.sel [3] (by decide) rfl), r283.run.inc⟩), ?_⟩
          obtain ⟨H330, S331, i332, h333, nv334⟩ := S282.sealRowU (i := 0) (l' := [.row 98 4 v209 n210 cs211, .row 4 1 v95 n96 cs97, .row 3 1 v214 n215 cs254]) rfl els287 (by decide) rfl
          refine FB.t (i := 28) (bs 32 536870911) rfl (SP.nil ⟨_, (S282.sel [3] (by decide) rfl), r283.run.inc⟩) rfl (fun w' hw' => (E.build (B4 rfl rfl rfl rfl) (run_build _ 98 #[(0, v284), (1, Value.int .i64 x302), (2, Value.int .i64 x319), (3, Value.int .i64 x328)] #[v284, Value.int .i64 x302, Value.int .i64 x319, Value.int .i64 x328] (by obtain ⟨_, _, rfl⟩ := RSl.ln (h333.mono upI); rfl)))) ?_
          refine FB.all1 (i := 29) (by kernel_rfl) ?_
          ·
           obtain ⟨v335, w336, run337, S338⟩ := S331.buildSlice (P := Tryz.prog) te27 [Value.agg #[v284, Value.int .i64 x302, Value.int .i64 x319, Value.int .i64 x328]] (parts := #[(0, Value.agg #[v284, Value.int .i64 x302, Value.int .i64 x319, Value.int .i64 x328])]) (cells := [v284, Value.int .i64 x302, Value.int .i64 x319, Value.int .i64 x328]) rfl (szs_cons rfl szs_nil) (fc_cons rfl fc_nil) (ones_cons h333.one (ones_cons rfl (ones_cons rfl (ones_cons rfl ones_nil)))) (Nat.le_of_ble_eq_true rfl)
           have els339 : Els (up wa.heap.size H330) eResStep 4 [v284, Value.int .i64 x302, Value.int .i64 x319, Value.int .i64 x328] [(ResStep.mk r278 x302 x319 x328)] := (Els.snoc (H := (up wa.heap.size H330)) (E := eResStep) (k := 4) (c := [v284, Value.int .i64 x302, Value.int .i64 x319, Value.int .i64 x328]) (x := (ResStep.mk r278 x302 x319 x328)) Els.nil rfl ⟨_, rfl, h333⟩)
           have nd340 : (bl [v284, Value.int .i64 x302, Value.int .i64 x319, Value.int .i64 x328]).Nodup := by exact nd_one v284
           refine FC.val (l' := (bs 32 1073741823)) rfl (by kernel_rfl) rfl rfl rfl (E.buildSlice (B1 rfl) run337) ?_
           refine ⟨(SP.nil ⟨_, (S338.sel [3] (by decide) rfl), (r283.run.inc.tr i332)⟩), ?_⟩
           refine FB.all1 (i := 30) (by kernel_rfl) ?_
           ·
            obtain ⟨v343, w346, n344, cs345, run347, S348, els349, ce350⟩ := S338.appendO (P := Tryz.prog) te27 (i := 1) (j := 0) rfl (els212.mono (up_mono (r283.run.inc.tr i332))) rfl els339 hz342
            have S348 : St Ha wa H330 w346 [.row 98 4 v335 1 [v284, Value.int .i64 x302, Value.int .i64 x319, Value.int .i64 x328], .row 98 4 v343 n344 cs345, .row 4 1 v95 n96 cs97, .row 3 1 v214 n215 cs254] := S348
            have nd351 : (bl cs345).Nodup := by rw [ce350]; exact nd_app nd213 nd340 (Els.dom (els212.mono (upI.tr r283.run.inc))) (by exact nv334)
            have S352 : St Ha wa H330 w346 [.row 98 4 v343 n344 cs345, .row 4 1 v95 n96 cs97, .row 3 1 v214 n215 cs254] := S348.drop 0
            refine FC.val (l' := (bs 32 2147483647)) rfl (by kernel_rfl) rfl rfl rfl (E.append rfl rfl run347) ?_
            refine ⟨(SP.nil ⟨_, (S352.sel [2] (by decide) rfl), (r283.run.inc.tr i332)⟩), ?_⟩
            refine FB.t (i := 31) (bs 32 4294967295) rfl (SP.nil ⟨_, (S352.sel [2] (by decide) rfl), (r283.run.inc.tr i332)⟩) rfl (fun w' hw' => (E.assign (v := v343) rfl)) ?_
            exact FB.done (by kernel_rfl) ⟨_, _, _, _, S352, (r283.run.inc.tr i332), els349, nd351, k223, k224, k225, k226, k227, rfl, k229⟩
        ·
         rintro f362 w361 ⟨H358, v353, n354, cs355, S359, i360, els356, nd357, k363, k364, k365, k366, k367, k368, k369⟩
         refine FW.exit ?_
         refine FW.region ?_
         refine FL.v (E.move k369) ?_
         refine FL.v (E.add rfl rfl) ?_
         refine FL.v (E.assign (v := Value.int .i64 (wr (s208.2.2 + 1))) rfl) ?_
         refine FL.nil ?_
         obtain rfl := Option.some.inj hp
         exact ⟨rfl, ⟨_, _, _, _, _, _, _, S359, (i220.tr i360), els356, (els253.mono (up_mono i360)), nd357, k363, k364, k365, k366, k367, k368, rfl⟩⟩
       ·
        refine FW.condF rfl c264 ?_
        refine FW.skip (FW.seq (FW.region ?_))
        refine FL.v (E.assign (v := Value.int .i64 0) rfl) ?_
        refine FL.nil (FW.seq ?_)
        obtain ⟨q370, hq, hp⟩ := bndR hp
        refine FW.block ?_
        refine FW.mono (FW.iter (S := Int) (X := Empty) (fun (s370 : Int) f w => ∃ H : GH, St Ha wa H w [.row 98 4 v209 n210 cs211, .row 4 1 v95 n96 cs97, .row 3 1 v214 n215 cs254] ∧ Inc H218 H ∧ f 2 = Value.int .i64 a2 ∧ f 3 = Value.pointer (some ⟨b21, 0, none⟩) ∧ f 4 = Value.pointer (some ⟨b29, 0, none⟩) ∧ f 8 = v95 ∧ f 9 = v214 ∧ f 11 = v209 ∧ f 12 = Value.int .i64 s208.2.2 ∧ f 13 = Value.int .i64 s370) (fun (q : Rs Int Empty) e f w => match q with | .go s370 => e = Exit.exit 4 ∧ (∃ H : GH, St Ha wa H w [.row 98 4 v209 n210 cs211, .row 4 1 v95 n96 cs97, .row 3 1 v214 n215 cs254] ∧ Inc H218 H ∧ f 2 = Value.int .i64 a2 ∧ f 3 = Value.pointer (some ⟨b21, 0, none⟩) ∧ f 4 = Value.pointer (some ⟨b29, 0, none⟩) ∧ f 8 = v95 ∧ f 9 = v214 ∧ f 11 = v209 ∧ f 12 = Value.int .i64 s208.2.2 ∧ f 13 = Value.int .i64 s370) | .rt x => x.elim) hq ⟨_, S250, (Inc.rfl _), k223, k224, k225, k226, k227, k228, k229, rfl⟩ ?_) ?_
        ·
         clear hp hq
         rintro s370 f375 w374 ⟨H371, S372, i373, k376, k377, k378, k379, k380, k381, k382, k383⟩ o410 hp
         refine FW.seq (FW.seq ?_)
         refine FW.draw (fun w' => Run w374.heap.size H371 w374 H371 w') (by kernel_rfl) (by kernel_rfl) (run_drew S372.sl) ?_
         refine FD.val rfl rfl rfl (fun w' hw' => (E.fieldAddr tf30_1 k377)) ?_
         refine FD.val rfl rfl rfl (fun w' hw' => (E.load rfl (run_load1 Tryz.isAgg22 ((at28.mono ((((i35.tr i70).tr i195).tr i220).tr i373)).now (S372.call hw').sl) rfl))) ?_
         refine FD.val rfl rfl rfl (fun w' hw' => (E.move k383)) ?_
         obtain ⟨x390, hx391, hp⟩ := bnd hp
         obtain ⟨p384, cs385, pt386, l387, at388, rel389⟩ := p0_1.at hx391
         obtain ⟨v392, rfl, h393⟩ := eL_open rel389
         refine FD.val rfl rfl rfl (fun w' hw' => (E.indexAddr te22 rfl rfl pt386)) ?_
         refine FD.val rfl rfl rfl (fun w' hw' => (E.load rfl (run_load0 Tryz.isAgg25 ((at388.mono (((((i27.tr i35).tr i70).tr i195).tr i220).tr i373)).now (S372.call hw').sl) rfl))) ?_
         refine FD.val rfl rfl rfl (fun w' hw' => (E.fieldAddr tf163_0 k378)) ?_
         refine FD.val rfl rfl rfl (fun w' hw' => (E.load rfl (run_load1 Tryz.isAgg22 ((at36.mono (((i70.tr i195).tr i220).tr i373)).now (S372.call hw').sl) rfl))) ?_
         refine FD.val rfl rfl rfl (fun w' hw' => (E.move k382)) ?_
         obtain ⟨x400, hx401, hp⟩ := bnd hp
         obtain ⟨p394, cs395, pt396, l397, at398, rel399⟩ := p1_0.at hx401
         obtain ⟨v402, rfl, h403⟩ := eL_open rel399
         refine FD.val rfl rfl rfl (fun w' hw' => (E.indexAddr te22 rfl rfl pt396)) ?_
         refine FD.val rfl rfl rfl (fun w' hw' => (E.load rfl (run_load0 Tryz.isAgg25 ((at398.mono (((((i27.tr i35).tr i70).tr i195).tr i220).tr i373)).now (S372.call hw').sl) rfl))) ?_
         obtain ⟨r404, hr405, hp⟩ := bnd hp
         refine FD.call rfl rfl rfl (fun w' hw' => (E.call Tryz.call255 (A2 rfl rfl))) (fun w' hw' => Calls.cls hw' (w_spec_l1Same (S372.call hw').sl v392 x390 (h393.mono (((((i27.tr i35).tr i70).tr i195).tr i220).tr i373)) v402 x400 (h403.mono (((((i27.tr i35).tr i70).tr i195).tr i220).tr i373)) hr405)) ?_
         refine FD.val rfl rfl rfl (fun w' hw' => (E.not rfl)) ?_
         refine FD.nil ?_
         intro w406 r408
         have S407 := S372.call r408
         rcases ifB hp with ⟨c409, hp⟩ | ⟨c409, hp⟩
         ·
          refine FW.condT rfl c409 ?_
          refine FW.skip (FW.block (FW.region ?_))
          refine FL.v (E.move k383) ?_
          refine FL.v (E.add rfl rfl) ?_
          refine FL.v (E.assign (v := Value.int .i64 (wr (s370 + 1))) rfl) ?_
          refine FL.nil ?_
          obtain rfl := Option.some.inj hp
          exact ⟨rfl, ⟨_, S407, i373, k376, k377, k378, k379, k380, k381, k382, rfl⟩⟩
         ·
          refine FW.condF rfl c409 ?_
          refine FW.exit ?_
          obtain rfl := Option.some.inj hp
          exact ⟨nofun, rfl, ⟨_, S407, i373, k376, k377, k378, k379, k380, k381, k382, k383⟩⟩
        ·
         clear hq
         intro e f415 w414 hD
         rcases q370 with s370 | x370
         ·
          obtain ⟨rfl, hD⟩ := hD
          obtain ⟨H411, S412, i413, k416, k417, k418, k419, k420, k421, k422, k423⟩ := hD
          replace hp := el_go hp
          refine FW.region ?_
          refine FL.v (E.move k421) ?_
          refine FL.v (E.load k417 (run_loadA Tryz.isAgg30 Tryz.sizeOf30 ((at28.mono ((((i35.tr i70).tr i195).tr i220).tr i413)).now S412.sl) rfl)) ?_
          refine FL.v (E.move k423) ?_
          obtain ⟨r424, hr425, hp⟩ := bnd hp
          refine FL.call rfl rfl rfl (E.call Tryz.call256 (A2 rfl rfl)) (w_spec_l7Axiom S412.sl a0 v0_1 (p0_1.mono (((((i27.tr i35).tr i70).tr i195).tr i220).tr i413)) s370 hr425) ?_
          rintro e w427 ⟨H426, v430, rfl, r429, h431⟩
          refine ⟨_, rfl, ?_⟩
          have nv432 : New H411 [v430] := New.of_up S412.sl h431.dom
          have h431 := h431.mono (up_le S412.size)
          have S428 := S412.call r429
          obtain ⟨v433, w434, run435, S436⟩ := S428.buildSlice (P := Tryz.prog) te27 [Value.agg #[v430, Value.int .i64 r424.left, Value.int .i64 r424.right, Value.int .i64 r424.pivot]] (parts := #[(0, Value.agg #[v430, Value.int .i64 r424.left, Value.int .i64 r424.right, Value.int .i64 r424.pivot])]) (cells := [v430, Value.int .i64 r424.left, Value.int .i64 r424.right, Value.int .i64 r424.pivot]) rfl (szs_cons rfl szs_nil) (fc_cons rfl fc_nil) (ones_cons h431.one (ones_cons rfl (ones_cons rfl (ones_cons rfl ones_nil)))) (Nat.le_of_ble_eq_true rfl)
          have els437 : Els (up wa.heap.size H426) eResStep 4 [v430, Value.int .i64 r424.left, Value.int .i64 r424.right, Value.int .i64 r424.pivot] [r424] := (Els.snoc (H := (up wa.heap.size H426)) (E := eResStep) (k := 4) (c := [v430, Value.int .i64 r424.left, Value.int .i64 r424.right, Value.int .i64 r424.pivot]) (x := r424) Els.nil rfl ⟨_, rfl, h431⟩)
          have nd438 : (bl [v430, Value.int .i64 r424.left, Value.int .i64 r424.right, Value.int .i64 r424.pivot]).Nodup := by exact nd_one v430
          refine FL.v (E.buildSlice (B1 rfl) run435) ?_
          obtain ⟨xs439, hz440, hp⟩ := bnd hp
          obtain ⟨v441, w444, n442, cs443, run445, S446, els447, ce448⟩ := S436.appendO (P := Tryz.prog) te27 (i := 1) (j := 0) rfl (els212.mono (up_mono (i413.tr r429.inc))) rfl els437 hz440
          have S446 : St Ha wa H426 w444 [.row 98 4 v433 1 [v430, Value.int .i64 r424.left, Value.int .i64 r424.right, Value.int .i64 r424.pivot], .row 98 4 v441 n442 cs443, .row 4 1 v95 n96 cs97, .row 3 1 v214 n215 cs254] := S446
          have nd449 : (bl cs443).Nodup := by rw [ce448]; exact nd_app nd213 nd438 (Els.dom (els212.mono (upI.tr i413))) (by exact nv432)
          have S450 : St Ha wa H426 w444 [.row 98 4 v441 n442 cs443, .row 4 1 v95 n96 cs97, .row 3 1 v214 n215 cs254] := S446.drop 0
          refine FL.v (E.append rfl rfl run445) ?_
          refine FL.v (E.assign (v := v441) rfl) ?_
          refine FL.nil (FW.region ?_)
          refine FL.v (E.move k422) ?_
          refine FL.v (E.add rfl rfl) ?_
          refine FL.v (E.assign (v := Value.int .i64 (wr (s208.2.2 + 1))) rfl) ?_
          refine FL.nil ?_
          obtain rfl := Option.some.inj hp
          exact ⟨rfl, ⟨_, _, _, _, _, _, _, S450, ((i220.tr i413).tr r429.inc), els447, (els253.mono (up_mono (i413.tr r429.inc))), nd449, k416, k417, k418, k419, k420, rfl, rfl⟩⟩
         ·
          exact x370.elim
     ·
      refine FW.condF rfl c230 ?_
      refine FW.exit ?_
      obtain rfl := Option.some.inj hp
      exact ⟨nofun, rfl, ⟨_, _, _, _, _, _, _, S219, i220, els212, els217, nd213, k228⟩⟩
    ·
     clear hq
     intro e f456 w455 hD
     rcases q208 with s208 | x208
     ·
      obtain ⟨rfl, hD⟩ := hD
      obtain ⟨H452, v209, n210, cs211, v214, n215, cs216, S453, i454, els212, els217, nd213, k457⟩ := hD
      replace hp := el_go hp
      refine FW.seq (FW.region ?_)
      refine FL.v (E.move k457) ?_
      refine FL.v (E.move k457) ?_
      refine FL.v (E.lenO te27 rfl S453 (i := 0) rfl els212 (by decide)) ?_
      refine FL.v (E.leq rfl rfl) ?_
      refine FL.v (E.assign (v := v209) rfl) ?_
      refine FL.v (E.assign (v := Value.bool (decide ((len s208.1) ≤ 200))) rfl) ?_
      refine FL.nil ?_
      refine FW.ret ?_
      obtain rfl := Option.some.inj hp
      exact ⟨.inr rfl, res2 rfl rfl rfl ⟨_, _, _, _, rfl, (S453.sel [0] (by decide) rfl), els212, nd213⟩⟩
     ·
      exact x208.elim
   ·
    exact x94.elim

@[reducible] def p_spec_l10Refute (Ha : GH) (wa : World) (r : ((List ResStep) × Bool)) : Ending → World → Prop :=
 fun e w' => ∃ H' : GH, ∃ v0 : Value, ∃ n0 : Nat, ∃ c0 : List Value, e = .returned (Value.tuple #[v0, Value.bool r.2]) ∧ St Ha wa H' w' [.row 98 4 v0 n0 c0] ∧ Els (up wa.heap.size H') eResStep 4 c0 r.1 ∧ (bl c0).Nodup
set_option maxHeartbeats 4000000 in
theorem w_spec_l10Refute {Ha : GH} {wa : World} (hs : Sl Ha wa) (a0 : Cnf) (v0_1 : Value) (p0_1 : RSl Ha (eL eI 1) 1 v0_1 a0.clauses) (a1 : Int) (v2 : Value) (a2 : List Int) (p2 : RSl Ha eI 1 v2 a2) {r : ((List ResStep) × Bool)} (hp : (PF.spec_l10Refute a0 a1 a2) = some r) :
  Calls Tryz.prog 81 #[Value.agg #[Value.int .i64 a0.vars, v0_1], Value.int .i64 a1, v2] wa (p_spec_l10Refute Ha wa r) := by
 unfold PF.spec_l10Refute at hp
 have S0 := St.init hs
 refine calls_go (N := 32) (args := [Value.agg #[Value.int .i64 a0.vars, v0_1], Value.int .i64 a1, v2]) Tryz.func81 rfl rfl rfl ?_
 refine FW.seq (FW.region ?_)
 obtain ⟨b21, w22, run23, S24⟩ := S0.box (P := Tryz.prog) 30 [Value.int .i64 a0.vars, v0_1] (v := Value.agg #[Value.int .i64 a0.vars, v0_1]) rfl (ones_cons rfl (ones_cons p0_1.one ones_nil))
 refine FL.v (E.box rfl run23) ?_
 obtain ⟨H25, S26, i27, at28⟩ := S24.sealBox (i := 0) (l' := []) rfl rfl
 refine FL.v (E.assign (v := Value.slice none 0 0) rfl) ?_
 refine FL.v (E.assign (v := Value.bool false) rfl) ?_
 refine FL.nil (FW.seq (FW.region ?_))
 refine FL.v (E.load rfl (run_loadA Tryz.isAgg30 Tryz.sizeOf30 (at28.now S26.sl) rfl)) ?_
 refine FL.v (E.move (v := Value.int .i64 a1) rfl) ?_
 obtain ⟨r29, hr30, hp⟩ := bnd hp
 refine FL.call rfl rfl rfl (E.call Tryz.call167 (A2 rfl rfl)) (w_spec_l10Closure S26.sl a0 v0_1 (p0_1.mono i27) a1 hr30) ?_
 rintro e w32 ⟨H31, v35, v37, v40, v43, v46, v49, rfl, r34, h36, h38, h41, h44, h47, h50⟩
 refine ⟨_, rfl, ?_⟩
 have nv39 : New H25 [v37] := New.of_up S26.sl h38.dom
 have h38 := h38.mono (up_le S26.size)
 have nv42 : New H25 [v40] := New.of_up S26.sl h41.dom
 have h41 := h41.mono (up_le S26.size)
 have nv45 : New H25 [v43] := New.of_up S26.sl h44.dom
 have h44 := h44.mono (up_le S26.size)
 have nv48 : New H25 [v46] := New.of_up S26.sl h47.dom
 have h47 := h47.mono (up_le S26.size)
 have S33 := S26.call r34
 have S55 := S33.nil 25 1
 have els56 : Els (up wa.heap.size H31) (eL eI 1) 1 [] [] := Els.nil
 have S57 := S55.nil 3 1
 have els58 : Els (up wa.heap.size H31) eI 1 [] [] := Els.nil
 have S59 := S57.nil 3 1
 have els60 : Els (up wa.heap.size H31) eI 1 [] [] := Els.nil
 have S61 := S59.nil 3 1
 have els62 : Els (up wa.heap.size H31) eI 1 [] [] := Els.nil
 have S63 := S61.nil 3 1
 have els64 : Els (up wa.heap.size H31) eI 1 [] [] := Els.nil
 obtain ⟨b51, w52, run53, S54⟩ := S63.alloc (P := Tryz.prog) 163 [Value.slice none 0 0, Value.slice none 0 0, Value.slice none 0 0, Value.slice none 0 0, Value.slice none 0 0, Value.slice none 0 0] Tryz.zeroValue163 rfl (ones_cons rfl (ones_cons rfl (ones_cons rfl (ones_cons rfl (ones_cons rfl (ones_cons rfl ones_nil))))))
 refine FL.v (E.alloc run53) ?_
 obtain ⟨w65, run66, S67⟩ := S54.store0 (P := Tryz.prog) (t := 163) (i := 0) (cs' := [v35, v37, v40, v43, v46, v49]) (l' := [.box b51 163 [v35, v37, v40, v43, v46, v49], .row 3 1 (Value.slice none 0 0) 0 [], .row 3 1 (Value.slice none 0 0) 0 [], .row 3 1 (Value.slice none 0 0) 0 [], .row 3 1 (Value.slice none 0 0) 0 [], .row 25 1 (Value.slice none 0 0) 0 []]) (v := Value.agg #[v35, v37, v40, v43, v46, v49]) (c := [v35, v37, v40, v43, v46, v49]) rfl Tryz.sizeOf163 rfl rfl (ones_cons h36.one (ones_cons h38.one (ones_cons h41.one (ones_cons h44.one (ones_cons h47.one (ones_cons h50.one ones_nil)))))) (Nat.le_of_ble_eq_true rfl) rfl rfl
 refine FL.act rfl rfl (E.store rfl rfl run66) ?_
 obtain ⟨H68, S69, i70, at71⟩ := S67.sealBox (i := 0) (l' := [.row 3 1 (Value.slice none 0 0) 0 [], .row 3 1 (Value.slice none 0 0) 0 [], .row 3 1 (Value.slice none 0 0) 0 [], .row 3 1 (Value.slice none 0 0) 0 [], .row 25 1 (Value.slice none 0 0) 0 []]) rfl rfl
 refine FL.nil (FW.seq (FW.region ?_))
 refine FL.v (E.load rfl (run_loadA Tryz.isAgg163 Tryz.sizeOf163 (at71.now S69.sl) rfl)) ?_
 refine FL.v (E.move (v := v2) rfl) ?_
 obtain ⟨r72, hr73, hp⟩ := bnd hp
 refine FL.call rfl rfl rfl (E.call Tryz.call168 (A2 rfl rfl)) (w_spec_l10Find S69.sl r29 v35 (h36.mono i70) v37 (h38.mono (upI.tr i70)) v40 (h41.mono (upI.tr i70)) v43 (h44.mono (upI.tr i70)) v46 (h47.mono (upI.tr i70)) v49 (h50.mono i70) v2 a2 (p2.mono ((i27.tr r34.inc).tr i70)) hr73) ?_
 rintro e w74 ⟨rfl, r75⟩
 refine ⟨_, rfl, ?_⟩
 have S76 := S69.call r75
 refine FL.v (E.assign (v := Value.int .i64 r72) rfl) ?_
 refine FL.nil (FW.seq (FW.seq (FW.region ?_)))
 refine FL.v (E.move (v := Value.int .i64 r72) rfl) ?_
 refine FL.v (E.lss rfl rfl) ?_
 refine FL.nil ?_
 rcases ifB hp with ⟨c77, hp⟩ | ⟨c77, hp⟩
 ·
  refine FW.condT rfl c77 ?_
  refine FW.seq (FW.region ?_)
  obtain ⟨v78, w79, run80, S81⟩ := S76.buildSlice (P := Tryz.prog) te27 [] (parts := #[]) (cells := []) rfl szs_nil fc_nil ones_nil (Nat.le_of_ble_eq_true rfl)
  have els82 : Els (up wa.heap.size H68) eResStep 4 [] [] := Els.nil
  refine FL.v (E.buildSlice (B0) run80) ?_
  refine FL.v (E.assign (v := v78) rfl) ?_
  refine FL.v (E.assign (v := Value.bool false) rfl) ?_
  refine FL.nil ?_
  refine FW.ret ?_
  obtain rfl := Option.some.inj hp
  exact ⟨.inr rfl, res2 rfl rfl rfl ⟨_, _, _, _, rfl, (S81.sel [0] (by decide) rfl), els82, (show (bl []).Nodup from List.nodup_nil)⟩⟩
 ·
  refine FW.condF rfl c77 ?_
  refine FW.skip (FW.seq (FW.region ?_))
  refine FL.v (E.load rfl (run_loadA Tryz.isAgg30 Tryz.sizeOf30 ((at28.mono (r34.inc.tr i70)).now S76.sl) rfl)) ?_
  refine FL.v (E.load rfl (run_loadA Tryz.isAgg163 Tryz.sizeOf163 (at71.now S76.sl) rfl)) ?_
  refine FL.v (E.move (v := Value.int .i64 r72) rfl) ?_
  obtain ⟨r83, hr84, hp⟩ := bnd hp
  refine FL.call rfl rfl rfl (E.call Tryz.call169 (A3 rfl rfl rfl)) (w_spec_l10Derive S76.sl a0 v0_1 (p0_1.mono ((i27.tr r34.inc).tr i70)) r29 v35 (h36.mono i70) v37 (h38.mono (upI.tr i70)) v40 (h41.mono (upI.tr i70)) v43 (h44.mono (upI.tr i70)) v46 (h47.mono (upI.tr i70)) v49 (h50.mono i70) r72 hr84) ?_
  rintro e w86 ⟨H85, v89, n90, cs91, rfl, r88, els92, nd93⟩
  refine ⟨_, rfl, ?_⟩
  have nv94 : New H68 cs91 := New.of_up S76.sl els92.dom
  have els92 := els92.mono (up_le S76.size)
  have S87 := S76.join (l' := [.row 98 4 v89 n90 cs91, .row 3 1 (Value.slice none 0 0) 0 [], .row 3 1 (Value.slice none 0 0) 0 [], .row 3 1 (Value.slice none 0 0) 0 [], .row 3 1 (Value.slice none 0 0) 0 [], .row 25 1 (Value.slice none 0 0) 0 []]) r88 rfl
  refine FL.v (E.move (v := Value.tuple #[v89, Value.bool r83.2]) rfl) ?_
  refine FL.v (E.extract (i := 0) rfl rfl) ?_
  refine FL.v (E.extract (i := 1) rfl rfl) ?_
  refine FL.v (E.assign (v := v89) rfl) ?_
  refine FL.v (E.assign (v := Value.bool r83.2) rfl) ?_
  refine FL.nil (FW.seq (FW.seq (FW.region ?_)))
  refine FL.v (E.move (v := Value.bool r83.2) rfl) ?_
  refine FL.v (E.not rfl) ?_
  refine FL.nil ?_
  rcases ifB hp with ⟨c95, hp⟩ | ⟨c95, hp⟩
  ·
   refine FW.condT rfl c95 ?_
   refine FW.seq (FW.region ?_)
   obtain ⟨v96, w97, run98, S99⟩ := S87.buildSlice (P := Tryz.prog) te27 [] (parts := #[]) (cells := []) rfl szs_nil fc_nil ones_nil (Nat.le_of_ble_eq_true rfl)
   have els100 : Els (up wa.heap.size H85) eResStep 4 [] [] := Els.nil
   refine FL.v (E.buildSlice (B0) run98) ?_
   refine FL.v (E.assign (v := v96) rfl) ?_
   refine FL.v (E.assign (v := Value.bool false) rfl) ?_
   refine FL.nil ?_
   refine FW.ret ?_
   obtain rfl := Option.some.inj hp
   exact ⟨.inr rfl, res2 rfl rfl rfl ⟨_, _, _, _, rfl, (S99.sel [0] (by decide) rfl), els100, (show (bl []).Nodup from List.nodup_nil)⟩⟩
  ·
   refine FW.condF rfl c95 ?_
   refine FW.skip (FW.seq (FW.region ?_))
   refine FL.v (E.move (v := v89) rfl) ?_
   refine FL.v (E.assign (v := v89) rfl) ?_
   refine FL.v (E.assign (v := Value.bool true) rfl) ?_
   refine FL.nil ?_
   refine FW.ret ?_
   obtain rfl := Option.some.inj hp
   exact ⟨.inr rfl, res2 rfl rfl rfl ⟨_, _, _, _, rfl, (S87.sel [0] (by decide) rfl), els92, nd93⟩⟩

@[reducible] def p_spec_NarrowRefutation (Ha : GH) (wa : World) (r : ((List ResStep) × Bool)) : Ending → World → Prop :=
 fun e w' => ∃ H' : GH, ∃ v0 : Value, ∃ n0 : Nat, ∃ c0 : List Value, e = .returned (Value.tuple #[v0, Value.bool r.2]) ∧ St Ha wa H' w' [.row 98 4 v0 n0 c0] ∧ Els (up wa.heap.size H') eResStep 4 c0 r.1 ∧ (bl c0).Nodup
theorem w_spec_NarrowRefutation {Ha : GH} {wa : World} (hs : Sl Ha wa) (a0 : Cnf) (v0_1 : Value) (p0_1 : RSl Ha (eL eI 1) 1 v0_1 a0.clauses) {r : ((List ResStep) × Bool)} (hp : (PF.spec_NarrowRefutation a0) = some r) :
  Calls Tryz.prog 23 #[Value.agg #[Value.int .i64 a0.vars, v0_1]] wa (p_spec_NarrowRefutation Ha wa r) := by
 unfold PF.spec_NarrowRefutation at hp
 have S0 := St.init hs
 refine calls_go (N := 20) (args := [Value.agg #[Value.int .i64 a0.vars, v0_1]]) Tryz.func23 rfl rfl rfl ?_
 refine FW.seq (FW.region ?_)
 obtain ⟨b21, w22, run23, S24⟩ := S0.box (P := Tryz.prog) 30 [Value.int .i64 a0.vars, v0_1] (v := Value.agg #[Value.int .i64 a0.vars, v0_1]) rfl (ones_cons rfl (ones_cons p0_1.one ones_nil))
 refine FL.v (E.box rfl run23) ?_
 obtain ⟨H25, S26, i27, at28⟩ := S24.sealBox (i := 0) (l' := []) rfl rfl
 refine FL.v (E.assign (v := Value.slice none 0 0) rfl) ?_
 refine FL.v (E.assign (v := Value.bool false) rfl) ?_
 refine FL.nil (FW.seq (FW.seq (FW.region ?_)))
 refine FL.v (E.load rfl (run_loadA Tryz.isAgg30 Tryz.sizeOf30 (at28.now S26.sl) rfl)) ?_
 obtain ⟨r29, hr30, hp⟩ := bnd hp
 refine FL.call rfl rfl rfl (E.call Tryz.call78 (A1 rfl)) (w_spec_l10Good S26.sl a0 v0_1 (p0_1.mono i27) hr30) ?_
 rintro e w31 ⟨rfl, r32⟩
 refine ⟨_, rfl, ?_⟩
 have S33 := S26.call r32
 refine FL.v (E.not rfl) ?_
 refine FL.nil ?_
 rcases ifB hp with ⟨c34, hp⟩ | ⟨c34, hp⟩
 ·
  refine FW.condT rfl c34 ?_
  refine FW.seq (FW.region ?_)
  obtain ⟨v35, w36, run37, S38⟩ := S33.buildSlice (P := Tryz.prog) te27 [] (parts := #[]) (cells := []) rfl szs_nil fc_nil ones_nil (Nat.le_of_ble_eq_true rfl)
  have els39 : Els (up wa.heap.size H25) eResStep 4 [] [] := Els.nil
  refine FL.v (E.buildSlice (B0) run37) ?_
  refine FL.v (E.assign (v := v35) rfl) ?_
  refine FL.v (E.assign (v := Value.bool false) rfl) ?_
  refine FL.nil ?_
  refine FW.ret ?_
  obtain rfl := Option.some.inj hp
  exact ⟨.inr rfl, res2 rfl rfl rfl ⟨_, _, _, _, rfl, S38, els39, (show (bl []).Nodup from List.nodup_nil)⟩⟩
 ·
  refine FW.condF rfl c34 ?_
  refine FW.skip (FW.seq (FW.region ?_))
  refine FL.v (E.load rfl (run_loadA Tryz.isAgg30 Tryz.sizeOf30 (at28.now S33.sl) rfl)) ?_
  obtain ⟨r40, hr41, hp⟩ := bnd hp
  refine FL.call rfl rfl rfl (E.call Tryz.call92 (A1 rfl)) (w_spec_l10Least S33.sl a0 v0_1 (p0_1.mono i27) hr41) ?_
  rintro e w42 ⟨rfl, r43⟩
  refine ⟨_, rfl, ?_⟩
  have S44 := S33.call r43
  refine FL.v (E.assign (v := Value.int .i64 r40) rfl) ?_
  refine FL.nil (FW.seq (FW.seq (FW.region ?_)))
  refine FL.v (E.move (v := Value.int .i64 r40) rfl) ?_
  refine FL.v (E.lss rfl rfl) ?_
  refine FL.nil ?_
  rcases ifB hp with ⟨c45, hp⟩ | ⟨c45, hp⟩
  ·
   refine FW.condT rfl c45 ?_
   refine FW.seq (FW.region ?_)
   obtain ⟨v46, w47, run48, S49⟩ := S44.buildSlice (P := Tryz.prog) te27 [] (parts := #[]) (cells := []) rfl szs_nil fc_nil ones_nil (Nat.le_of_ble_eq_true rfl)
   have els50 : Els (up wa.heap.size H25) eResStep 4 [] [] := Els.nil
   refine FL.v (E.buildSlice (B0) run48) ?_
   refine FL.v (E.assign (v := v46) rfl) ?_
   refine FL.v (E.assign (v := Value.bool false) rfl) ?_
   refine FL.nil ?_
   refine FW.ret ?_
   obtain rfl := Option.some.inj hp
   exact ⟨.inr rfl, res2 rfl rfl rfl ⟨_, _, _, _, rfl, S49, els50, (show (bl []).Nodup from List.nodup_nil)⟩⟩
  ·
   refine FW.condF rfl c45 ?_
   refine FW.skip (FW.seq (FW.region ?_))
   refine FL.v (E.load rfl (run_loadA Tryz.isAgg30 Tryz.sizeOf30 (at28.now S44.sl) rfl)) ?_
   refine FL.v (E.move (v := Value.int .i64 r40) rfl) ?_
   obtain ⟨v51, w52, run53, S54⟩ := S44.buildSlice (P := Tryz.prog) te25 [] (parts := #[]) (cells := []) rfl szs_nil fc_nil ones_nil (Nat.le_of_ble_eq_true rfl)
   have els55 : Els (up wa.heap.size H25) eI 1 [] [] := Els.nil
   refine FL.v (E.buildSlice (B0) run53) ?_
   obtain ⟨H56, S57, i58, h59, nv60⟩ := S54.sealRowU (i := 0) (l' := []) rfl els55 (by decide) rfl
   obtain ⟨r61, hr62, hp⟩ := bnd hp
   refine FL.call rfl rfl rfl (E.call Tryz.call81 (A3 rfl rfl rfl)) (w_spec_l10Refute S57.sl a0 v0_1 (p0_1.mono (i27.tr i58)) r40 v51 [] (h59.mono upI) hr62) ?_
   rintro e w64 ⟨H63, v69, n70, cs71, rfl, r66, els72, nd73⟩
   refine ⟨_, rfl, ?_⟩
   obtain ⟨H67, r66, hU68⟩ := St.lendX i58 S54.sl r66
   have nv74 : New H25 cs71 := New.of_up S54.sl els72.dom
   have els72 := els72.mono (hU68.tr (up_le S54.size))
   have S65 := S54.join (l' := [.row 98 4 v69 n70 cs71, .row 3 1 v51 0 []]) r66 rfl
   refine FL.v (E.extract (i := 0) rfl rfl) ?_
   refine FL.v (E.extract (i := 1) rfl rfl) ?_
   refine FL.v (E.assign (v := v69) rfl) ?_
   refine FL.v (E.assign (v := Value.bool r61.2) rfl) ?_
   refine FL.nil ?_
   refine FW.ret ?_
   obtain rfl := Option.some.inj hp
   exact ⟨.inr rfl, res2 rfl rfl rfl ⟨_, _, _, _, rfl, (S65.sel [0] (by decide) rfl), els72, nd73⟩⟩

theorem w_impl_within {Ha : GH} {wa : World} (hs : Sl Ha wa) (a0 : Int) (a1 : Int) (a2 : Int) :
  Calls Tryz.prog 130 #[Value.int .i64 a0, Value.int .i64 a1, Value.int .i64 a2] wa (Sc Ha wa (Value.bool (PF.impl_within a0 a1 a2))) := by
 obtain ⟨r, hp⟩ : ∃ r, (PF.impl_within a0 a1 a2) = r := ⟨_, rfl⟩
 rw [hp]
 unfold PF.impl_within at hp
 have S0 := St.init hs
 refine calls_go (N := 15) (args := [Value.int .i64 a0, Value.int .i64 a1, Value.int .i64 a2]) Tryz.func130 rfl rfl rfl ?_
 refine FW.seq (FW.region ?_)
 refine FL.v (E.assign (v := Value.bool false) rfl) ?_
 refine FL.nil (FW.seq (FW.region ?_))
 refine FL.v (E.move (v := Value.int .i64 a0) rfl) ?_
 refine FL.v (E.move (v := Value.int .i64 a1) rfl) ?_
 refine FL.v (E.geq rfl rfl) ?_
 refine FL.v (E.move (v := Value.bool (decide (a1 ≤ a0))) rfl) ?_
 refine FL.cut 4 (fun f w => ∃ H : GH, St Ha wa H w [] ∧ Inc Ha H ∧ f 14 = Value.bool (bif (decide (a1 ≤ a0)) then (decide (a0 ≤ a2)) else false)) ?_ ?_
 ·
  rcases bcase (decide (a1 ≤ a0)) with c27 | c27
  ·
   refine FL.val (wF_yes rfl rfl rfl c27) rfl rfl (E.move (v := Value.int .i64 a0) rfl) ?_
   refine FL.val (wF_yes rfl rfl rfl c27) rfl rfl (E.move (v := Value.int .i64 a2) rfl) ?_
   refine FL.val (wF_yes rfl rfl rfl c27) rfl rfl (E.leq rfl rfl) ?_
   refine FL.v (E.pickT rfl c27 rfl) ?_
   exact FL.nil ⟨rfl, _, S0, (Inc.rfl _), (congrArg Value.bool (bifT c27).symm)⟩
  ·
   refine FL.skip (wF_no rfl rfl rfl c27) rfl ?_
   refine FL.skip (wF_no rfl rfl rfl c27) rfl ?_
   refine FL.skip (wF_no rfl rfl rfl c27) rfl ?_
   refine FL.v (E.pickF rfl c27 rfl) ?_
   exact FL.nil ⟨rfl, _, S0, (Inc.rfl _), (congrArg Value.bool (bifF c27).symm)⟩
 rintro f26 w25 ⟨H22, S23, i24, k28⟩
 refine FL.v (E.assign k28) ?_
 refine FL.nil ?_
 refine FW.ret ?_
 obtain rfl := hp
 exact ⟨.inr rfl, res1 rfl rfl ⟨rfl, S23.back⟩⟩

theorem w_impl_isLiteral {Ha : GH} {wa : World} (hs : Sl Ha wa) (a0 : Int) (a1 : Int) :
  Calls Tryz.prog 170 #[Value.int .i64 a0, Value.int .i64 a1] wa (Sc Ha wa (Value.bool (PF.impl_isLiteral a0 a1))) := by
 obtain ⟨r, hp⟩ : ∃ r, (PF.impl_isLiteral a0 a1) = r := ⟨_, rfl⟩
 rw [hp]
 unfold PF.impl_isLiteral at hp
 have S0 := St.init hs
 refine calls_go (N := 14) (args := [Value.int .i64 a0, Value.int .i64 a1]) Tryz.func170 rfl rfl rfl ?_
 refine FW.seq (FW.region ?_)
 refine FL.v (E.assign (v := Value.bool false) rfl) ?_
 refine FL.nil (FW.seq (FW.region ?_))
 refine FL.v (E.move (v := Value.int .i64 a1) rfl) ?_
 refine FL.v (E.neq rfl rfl) ?_
 refine FL.v (E.move (v := Value.bool (!(a1 == 0))) rfl) ?_
 refine FL.cut 6 (fun f w => ∃ H : GH, St Ha wa H w [] ∧ Inc Ha H ∧ f 13 = Value.bool (bif (!(a1 == 0)) then (PF.impl_within a1 (wr (-a0)) a0) else false)) ?_ ?_
 ·
  rcases bcase (!(a1 == 0)) with c30 | c30
  ·
   refine FL.val (wF_yes rfl rfl rfl c30) rfl rfl (E.move (v := Value.int .i64 a1) rfl) ?_
   refine FL.val (wF_yes rfl rfl rfl c30) rfl rfl (E.move (v := Value.int .i64 a0) rfl) ?_
   refine FL.val (wF_yes rfl rfl rfl c30) rfl rfl (E.neg rfl) ?_
   refine FL.val (wF_yes rfl rfl rfl c30) rfl rfl (E.move (v := Value.int .i64 a0) rfl) ?_
   refine FL.call (wF_yes rfl rfl rfl c30) rfl rfl (E.call Tryz.call130 (A3 rfl rfl rfl)) (w_impl_within S0.sl a1 (wr (-a0)) a0) ?_
   rintro e w31 ⟨rfl, r32⟩
   refine ⟨_, rfl, ?_⟩
   have S33 := S0.call r32
   refine FL.v (E.pickT rfl c30 rfl) ?_
   exact FL.nil ⟨rfl, _, S33, (Inc.rfl _), (congrArg Value.bool (bifT c30).symm)⟩
  ·
   refine FL.skip (wF_no rfl rfl rfl c30) rfl ?_
   refine FL.skip (wF_no rfl rfl rfl c30) rfl ?_
   refine FL.skip (wF_no rfl rfl rfl c30) rfl ?_
   refine FL.skip (wF_no rfl rfl rfl c30) rfl ?_
   refine FL.skip (wF_no rfl rfl rfl c30) rfl ?_
   refine FL.v (E.pickF rfl c30 rfl) ?_
   exact FL.nil ⟨rfl, _, S0, (Inc.rfl _), (congrArg Value.bool (bifF c30).symm)⟩
 rintro f29 w28 ⟨H25, S26, i27, k34⟩
 refine FL.v (E.assign k34) ?_
 refine FL.nil ?_
 refine FW.ret ?_
 obtain rfl := hp
 exact ⟨.inr rfl, res1 rfl rfl ⟨rfl, S26.back⟩⟩

theorem w_impl_abs {Ha : GH} {wa : World} (hs : Sl Ha wa) (a0 : Int) :
  Calls Tryz.prog 171 #[Value.int .i64 a0] wa (Sc Ha wa (Value.int .i64 (PF.impl_abs a0))) := by
 obtain ⟨r, hp⟩ : ∃ r, (PF.impl_abs a0) = r := ⟨_, rfl⟩
 rw [hp]
 unfold PF.impl_abs at hp
 have S0 := St.init hs
 refine calls_go (N := 7) (args := [Value.int .i64 a0]) Tryz.func171 rfl rfl rfl ?_
 refine FW.seq (FW.region ?_)
 refine FL.v (E.assign (v := Value.int .i64 0) rfl) ?_
 refine FL.nil (FW.seq (FW.region ?_))
 refine FL.v (E.move (v := Value.int .i64 a0) rfl) ?_
 refine FL.v (E.move (v := Value.int .i64 a0) rfl) ?_
 refine FL.v (E.neg rfl) ?_
 refine FL.v (E.max2 rfl rfl) ?_
 refine FL.v (E.assign (v := Value.int .i64 (mx a0 (wr (-a0)))) rfl) ?_
 refine FL.nil ?_
 refine FW.ret ?_
 obtain rfl := hp
 exact ⟨.inr rfl, res1 rfl rfl ⟨rfl, S0.back⟩⟩

theorem w_impl_varsOk {Ha : GH} {wa : World} (hs : Sl Ha wa) (a0 : Int) :
  Calls Tryz.prog 172 #[Value.int .i64 a0] wa (Sc Ha wa (Value.bool (PF.impl_varsOk a0))) := by
 obtain ⟨r, hp⟩ : ∃ r, (PF.impl_varsOk a0) = r := ⟨_, rfl⟩
 rw [hp]
 unfold PF.impl_varsOk at hp
 have S0 := St.init hs
 refine calls_go (N := 5) (args := [Value.int .i64 a0]) Tryz.func172 rfl rfl rfl ?_
 refine FW.seq (FW.region ?_)
 refine FL.v (E.assign (v := Value.bool false) rfl) ?_
 refine FL.nil (FW.seq (FW.region ?_))
 refine FL.v (E.move (v := Value.int .i64 a0) rfl) ?_
 refine FL.call rfl rfl rfl (E.call Tryz.call130 (A3 rfl rfl rfl)) (w_impl_within S0.sl a0 0 12) ?_
 rintro e w21 ⟨rfl, r22⟩
 refine ⟨_, rfl, ?_⟩
 have S23 := S0.call r22
 refine FL.v (E.assign (v := Value.bool (PF.impl_within a0 0 12)) rfl) ?_
 refine FL.nil ?_
 refine FW.ret ?_
 obtain rfl := hp
 exact ⟨.inr rfl, res1 rfl rfl ⟨rfl, S23.back⟩⟩

set_option maxHeartbeats 4000000 in
theorem w_impl_IsClause {Ha : GH} {wa : World} (hs : Sl Ha wa) (a0 : Int) (v1 : Value) (a1 : List Int) (p1 : RSl Ha eI 1 v1 a1) {r : Bool} (hp : (PF.impl_IsClause a0 a1) = some r) :
  Calls Tryz.prog 84 #[Value.int .i64 a0, v1] wa (Sc Ha wa (Value.bool r)) := by
 unfold PF.impl_IsClause at hp
 have S0 := St.init hs
 refine calls_go (N := 36) (args := [Value.int .i64 a0, v1]) Tryz.func84 rfl rfl rfl ?_
 refine FW.seq (FW.region ?_)
 refine FL.v (E.assign (v := Value.bool false) rfl) ?_
 refine FL.nil (FW.seq (FW.seq (FW.region ?_)))
 refine FL.v (E.move (v := v1) rfl) ?_
 refine FL.v (E.lenP te25 rfl p1) ?_
 refine FL.v (E.move (v := Value.int .i64 0) rfl) ?_
 refine FL.nil ?_
 obtain ⟨q22, hq, hp⟩ := bndR hp
 refine FW.block ?_
 refine FW.mono (FW.forL (S := Unit) (X := Bool) (fun (i22 : Nat) (s22 : Unit) f w => ∃ H : GH, St Ha wa H w [] ∧ Inc Ha H ∧ f 9 = Value.int .i64 ((i22 : Nat) : Int) ∧ f 0 = Value.int .i64 a0 ∧ f 1 = v1 ∧ f 7 = v1 ∧ f 8 = Value.int .i64 (len a1)) (fun q e f w => match q with | .go s22 => e = Exit.exit 0 ∧ (∃ H : GH, St Ha wa H w [] ∧ Inc Ha H ∧ f 0 = Value.int .i64 a0) | .rt x => ((e = Exit.ret) ∧ (fun e f w => (e = Exit.normal ∨ e = Exit.ret) ∧ ∀ a, Fr (δ := []) 36 a f → ∃ v, (results Tryz.f84 a.tmps).run Tryz.prog w = .ok v w ∧ (Sc Ha wa (Value.bool x)) (.returned v) w) e f w)) hq ⟨_, S0, (Inc.rfl _), rfl, rfl, rfl, rfl, rfl⟩ ?_ ?_) ?_
 ·
  clear hp hq
  rintro i22 y21 s22 f121 w120 ⟨H117, S118, i119, k122, k123, k124, k125, k126⟩ hx22 o211 hp
  refine FW.seq (FW.region ?_)
  refine FL.v (E.lssT k122 k126 (lss_len hx22)) ?_
  refine FL.nil (FW.seq ?_)
  refine FW.condT rfl rfl ?_
  refine FW.skip (FW.seq (FW.block (FW.seq (FW.region ?_))))
  refine FL.v (E.move k122) ?_
  obtain ⟨p127, cs128, pt129, l130, at131, rel132⟩ := p1.at (ix_nat hx22)
  obtain rfl := eI_open rel132
  refine FL.v (E.indexAddr te25 k125 k122 pt129) ?_
  refine FL.v (E.load rfl (run_load0 Tryz.isAgg3 ((at131.mono i119).now S118.sl) rfl)) ?_
  refine FL.v (E.assign (v := Value.int .i64 ((i22 : Nat) : Int)) rfl) ?_
  refine FL.v (E.assign (v := Value.int .i64 y21) rfl) ?_
  refine FL.nil (FW.seq ?_)
  refine FW.draw (fun w' => Run w120.heap.size H117 w120 H117 w') (by kernel_rfl) (by kernel_rfl) (run_drew S118.sl) ?_
  refine FD.val rfl rfl rfl (fun w' hw' => (E.move k123)) ?_
  refine FD.val rfl rfl rfl (fun w' hw' => (E.move (v := Value.int .i64 y21) rfl)) ?_
  refine FD.call rfl rfl rfl (fun w' hw' => (E.call Tryz.call170 (A2 rfl rfl))) (fun w' hw' => Calls.cls hw' (w_impl_isLiteral (S118.call hw').sl a0 y21)) ?_
  refine FD.val rfl rfl rfl (fun w' hw' => (E.not rfl)) ?_
  refine FD.val rfl rfl rfl (fun w' hw' => (E.move (v := Value.bool (!(PF.impl_isLiteral a0 y21))) rfl)) ?_
  obtain ⟨t164, hqt164, hp⟩ := bnd hp
  refine FD.cut 14 (fun f => f 0 = Value.int .i64 a0 ∧ f 1 = v1 ∧ f 7 = v1 ∧ f 8 = Value.int .i64 (len a1) ∧ f 9 = Value.int .i64 ((i22 : Nat) : Int) ∧ f 32 = Value.bool t164) ?_ ?_
  ·
   clear hp; have hp := hqt164; clear hqt164
   rcases ifB hp with ⟨c170, hp⟩ | ⟨c170, hp⟩
   ·
    refine FD.skip (wF_no rfl rfl rfl c170) rfl ?_
    refine FD.skip (wF_no rfl rfl rfl c170) rfl ?_
    refine FD.skip (wF_no rfl rfl rfl c170) rfl ?_
    refine FD.skip (wF_undef rfl rfl rfl) rfl ?_
    refine FD.skip (wF_undef rfl rfl rfl) rfl ?_
    refine FD.skip (wF_undef rfl rfl rfl) rfl ?_
    refine FD.skip (wF_undef rfl rfl rfl) rfl ?_
    refine FD.skip (wF_undef rfl rfl rfl) rfl ?_
    refine FD.skip (wF_undef rfl rfl rfl) rfl ?_
    refine FD.skip (wF_undef rfl rfl rfl) rfl ?_
    refine FD.skip (wF_undef rfl rfl rfl) rfl ?_
    refine FD.skip (wF_undef rfl rfl rfl) rfl ?_
    refine FD.skip (wF_no rfl rfl rfl c170) rfl ?_
    obtain rfl := Option.some.inj hp
    refine FD.val rfl rfl rfl (fun w' hw' => (E.pickT rfl c170 rfl)) ?_
    exact FD.nil ⟨k123, k124, k125, k126, k122, rfl⟩
   ·
    refine FD.val (wF_yes rfl rfl rfl c170) rfl rfl (fun w' hw' => (E.move (v := Value.int .i64 ((i22 : Nat) : Int)) rfl)) ?_
    refine FD.val (wF_yes rfl rfl rfl c170) rfl rfl (fun w' hw' => (E.gtr rfl rfl)) ?_
    refine FD.val (wF_yes rfl rfl rfl c170) rfl rfl (fun w' hw' => (E.move (v := Value.bool (decide (0 < ((i22 : Nat) : Int)))) rfl)) ?_
    obtain ⟨t179, hqt179, hp⟩ := bnd hp
    refine FD.cut 10 (fun f => f 0 = Value.int .i64 a0 ∧ f 1 = v1 ∧ f 7 = v1 ∧ f 8 = Value.int .i64 (len a1) ∧ f 9 = Value.int .i64 ((i22 : Nat) : Int) ∧ f 18 = Value.bool (!(PF.impl_isLiteral a0 y21)) ∧ f 31 = Value.bool t179) ?_ ?_
    ·
     clear hp; have hp := hqt179; clear hqt179
     rcases ifB hp with ⟨c185, hp⟩ | ⟨c185, hp⟩
     ·
      refine FD.val (wF_yes rfl rfl rfl c185) rfl rfl (fun w' hw' => (E.move (v := Value.int .i64 y21) rfl)) ?_
      refine FD.call (wF_yes rfl rfl rfl c185) rfl rfl (fun w' hw' => (E.call Tryz.call171 (A1 rfl))) (fun w' hw' => Calls.cls hw' (w_impl_abs (S118.call hw').sl y21)) ?_
      refine FD.val (wF_yes rfl rfl rfl c185) rfl rfl (fun w' hw' => (E.move k124)) ?_
      refine FD.val (wF_yes rfl rfl rfl c185) rfl rfl (fun w' hw' => (E.move (v := Value.int .i64 ((i22 : Nat) : Int)) rfl)) ?_
      refine FD.val (wF_yes rfl rfl rfl c185) rfl rfl (fun w' hw' => (E.sub rfl rfl)) ?_
      obtain ⟨x192, hx193, hp⟩ := bnd hp
      obtain ⟨p186, cs187, pt188, l189, at190, rel191⟩ := p1.at hx193
      obtain rfl := eI_open rel191
      refine FD.val (wF_yes rfl rfl rfl c185) rfl rfl (fun w' hw' => (E.indexAddr te25 rfl rfl pt188)) ?_
      refine FD.val (wF_yes rfl rfl rfl c185) rfl rfl (fun w' hw' => (E.load rfl (run_load0 Tryz.isAgg3 ((at190.mono i119).now (S118.call hw').sl) rfl))) ?_
      refine FD.call (wF_yes rfl rfl rfl c185) rfl rfl (fun w' hw' => (E.call Tryz.call171 (A1 rfl))) (fun w' hw' => Calls.cls hw' (w_impl_abs (S118.call hw').sl x192)) ?_
      refine FD.val (wF_yes rfl rfl rfl c185) rfl rfl (fun w' hw' => (E.leq rfl rfl)) ?_
      obtain rfl := Option.some.inj hp
      refine FD.val (wF_yes rfl rfl rfl c170) rfl rfl (fun w' hw' => (E.pickT rfl c185 rfl)) ?_
      exact FD.nil ⟨k123, k124, k125, k126, k122, rfl, rfl⟩
     ·
      refine FD.skip (wF_no rfl rfl rfl c185) rfl ?_
      refine FD.skip (wF_no rfl rfl rfl c185) rfl ?_
      refine FD.skip (wF_no rfl rfl rfl c185) rfl ?_
      refine FD.skip (wF_no rfl rfl rfl c185) rfl ?_
      refine FD.skip (wF_no rfl rfl rfl c185) rfl ?_
      refine FD.skip (wF_no rfl rfl rfl c185) rfl ?_
      refine FD.skip (wF_no rfl rfl rfl c185) rfl ?_
      refine FD.skip (wF_no rfl rfl rfl c185) rfl ?_
      refine FD.skip (wF_no rfl rfl rfl c185) rfl ?_
      obtain rfl := Option.some.inj hp
      refine FD.val (wF_yes rfl rfl rfl c170) rfl rfl (fun w' hw' => (E.pickF rfl c185 rfl)) ?_
      exact FD.nil ⟨k123, k124, k125, k126, k122, rfl, rfl⟩
    rintro f184 ⟨k194, k195, k196, k197, k198, k199, k200⟩
    obtain rfl := Option.some.inj hp
    refine FD.val rfl rfl rfl (fun w' hw' => (E.pickF k199 c170 k200)) ?_
    exact FD.nil ⟨k194, k195, k196, k197, k198, rfl⟩
  rintro f169 ⟨k201, k202, k203, k204, k205, k206⟩
  refine FD.nil ?_
  intro w207 r209
  have S208 := S118.call r209
  rcases ifB hp with ⟨c210, hp⟩ | ⟨c210, hp⟩
  ·
   refine FW.condT k206 c210 ?_
   refine FW.seq (FW.region ?_)
   refine FL.v (E.assign (v := Value.bool false) rfl) ?_
   refine FL.nil ?_
   refine FW.ret ?_
   obtain rfl := Option.some.inj hp
   exact ⟨nofun, rfl, ⟨.inr rfl, res1 rfl rfl ⟨rfl, S208.back⟩⟩⟩
  ·
   refine FW.condF k206 c210 ?_
   refine FW.skip (FW.region ?_)
   refine FL.v (E.add k205 rfl) ?_
   refine FL.v (E.move (v := Value.int .i64 (wr (((i22 : Nat) : Int) + 1))) rfl) ?_
   refine FL.nil ?_
   obtain rfl := Option.some.inj hp
   exact ⟨rfl, ⟨_, S208, i119, (nat_succ rfl (lt_of_get hx22) (p1.mono i119).le), k201, k202, k203, k204⟩⟩
 ·
  clear hp hq
  rintro s22 f225 w224 ⟨H221, S222, i223, k226, k227, k228, k229, k230⟩
  refine FW.seq (FW.region ?_)
  refine FL.v (E.lss k226 k230) ?_
  refine FL.nil (FW.seq ?_)
  refine FW.condF rfl dlt_len ?_
  refine FW.exit ?_
  exact ⟨nofun, rfl, ⟨_, S222, i223, k227⟩⟩
 ·
  clear hq
  intro e f216 w215 hD
  rcases q22 with s22 | x22
  ·
   obtain ⟨rfl, hD⟩ := hD
   obtain ⟨H212, S213, i214, k217⟩ := hD
   replace hp := el_go hp
   refine FW.seq (FW.region ?_)
   refine FL.v (E.move k217) ?_
   refine FL.call rfl rfl rfl (E.call Tryz.call172 (A1 rfl)) (w_impl_varsOk S213.sl a0) ?_
   rintro e w218 ⟨rfl, r219⟩
   refine ⟨_, rfl, ?_⟩
   have S220 := S213.call r219
   refine FL.v (E.assign (v := Value.bool (PF.impl_varsOk a0)) rfl) ?_
   refine FL.nil ?_
   refine FW.ret ?_
   obtain rfl := Option.some.inj hp
   exact ⟨.inr rfl, res1 rfl rfl ⟨rfl, S220.back⟩⟩
  ·
   obtain ⟨he, hL⟩ := hD
   replace hp := el_rt hp
   obtain rfl := Option.some.inj hp
   subst he
   exact hL

set_option maxHeartbeats 4000000 in
theorem w_impl_IsCnf {Ha : GH} {wa : World} (hs : Sl Ha wa) (a0 : Cnf) (v0_1 : Value) (p0_1 : RSl Ha (eL eI 1) 1 v0_1 a0.clauses) {r : Bool} (hp : (PF.impl_IsCnf a0) = some r) :
  Calls Tryz.prog 94 #[Value.agg #[Value.int .i64 a0.vars, v0_1]] wa (Sc Ha wa (Value.bool r)) := by
 unfold PF.impl_IsCnf at hp
 have S0 := St.init hs
 refine calls_go (N := 27) (args := [Value.agg #[Value.int .i64 a0.vars, v0_1]]) Tryz.func94 rfl rfl rfl ?_
 refine FW.seq (FW.region ?_)
 obtain ⟨b21, w22, run23, S24⟩ := S0.box (P := Tryz.prog) 30 [Value.int .i64 a0.vars, v0_1] (v := Value.agg #[Value.int .i64 a0.vars, v0_1]) rfl (ones_cons rfl (ones_cons p0_1.one ones_nil))
 refine FL.v (E.box rfl run23) ?_
 obtain ⟨H25, S26, i27, at28⟩ := S24.sealBox (i := 0) (l' := []) rfl rfl
 refine FL.v (E.assign (v := Value.bool false) rfl) ?_
 refine FL.nil (FW.seq (FW.seq (FW.region ?_)))
 refine FL.v (E.fieldAddr tf30_1 rfl) ?_
 refine FL.v (E.load rfl (run_load1 Tryz.isAgg22 (at28.now S26.sl) rfl)) ?_
 refine FL.v (E.lenP te22 rfl p0_1) ?_
 refine FL.v (E.move (v := Value.int .i64 0) rfl) ?_
 refine FL.nil ?_
 obtain ⟨q30, hq, hp⟩ := bndR hp
 refine FW.block ?_
 refine FW.mono (FW.forL (S := Unit) (X := Bool) (fun (i30 : Nat) (s30 : Unit) f w => ∃ H : GH, St Ha wa H w [] ∧ Inc H25 H ∧ f 8 = Value.int .i64 ((i30 : Nat) : Int) ∧ f 1 = Value.pointer (some ⟨b21, 0, none⟩) ∧ f 6 = v0_1 ∧ f 7 = Value.int .i64 (len a0.clauses)) (fun q e f w => match q with | .go s30 => e = Exit.exit 0 ∧ (∃ H : GH, St Ha wa H w [] ∧ Inc H25 H ∧ f 1 = Value.pointer (some ⟨b21, 0, none⟩)) | .rt x => ((e = Exit.ret) ∧ (fun e f w => (e = Exit.normal ∨ e = Exit.ret) ∧ ∀ a, Fr (δ := []) 27 a f → ∃ v, (results Tryz.f94 a.tmps).run Tryz.prog w = .ok v w ∧ (Sc Ha wa (Value.bool x)) (.returned v) w) e f w)) hq ⟨_, S26, (Inc.rfl _), rfl, rfl, rfl, rfl⟩ ?_ ?_) ?_
 ·
  clear hp hq
  rintro i30 y29 s30 f58 w57 ⟨H54, S55, i56, k59, k60, k61, k62⟩ hx30 o77 hp
  refine FW.seq (FW.region ?_)
  refine FL.v (E.lssT k59 k62 (lss_len hx30)) ?_
  refine FL.nil (FW.seq ?_)
  refine FW.condT rfl rfl ?_
  refine FW.skip (FW.seq (FW.block (FW.seq (FW.region ?_))))
  obtain ⟨p63, cs64, pt65, l66, at67, rel68⟩ := p0_1.at (ix_nat hx30)
  obtain ⟨v69, rfl, h70⟩ := eL_open rel68
  refine FL.v (E.indexAddr te22 k61 k59 pt65) ?_
  refine FL.v (E.load rfl (run_load0 Tryz.isAgg25 ((at67.mono (i27.tr i56)).now S55.sl) rfl)) ?_
  refine FL.v (E.assign (v := v69) rfl) ?_
  refine FL.nil (FW.seq (FW.region ?_))
  refine FL.v (E.fieldAddr tf30_0 k60) ?_
  refine FL.v (E.load rfl (run_load1 Tryz.isAgg3 ((at28.mono i56).now S55.sl) rfl)) ?_
  refine FL.v (E.move (v := v69) rfl) ?_
  obtain ⟨r71, hr72, hp⟩ := bnd hp
  refine FL.call rfl rfl rfl (E.call Tryz.call84 (A2 rfl rfl)) (w_impl_IsClause S55.sl a0.vars v69 y29 (h70.mono (i27.tr i56)) hr72) ?_
  rintro e w73 ⟨rfl, r74⟩
  refine ⟨_, rfl, ?_⟩
  have S75 := S55.call r74
  refine FL.v (E.not rfl) ?_
  refine FL.nil ?_
  rcases ifB hp with ⟨c76, hp⟩ | ⟨c76, hp⟩
  ·
   refine FW.condT rfl c76 ?_
   refine FW.seq (FW.region ?_)
   refine FL.v (E.assign (v := Value.bool false) rfl) ?_
   refine FL.nil ?_
   refine FW.ret ?_
   obtain rfl := Option.some.inj hp
   exact ⟨nofun, rfl, ⟨.inr rfl, res1 rfl rfl ⟨rfl, S75.back⟩⟩⟩
  ·
   refine FW.condF rfl c76 ?_
   refine FW.skip (FW.region ?_)
   refine FL.v (E.add k59 rfl) ?_
   refine FL.v (E.move (v := Value.int .i64 (wr (((i30 : Nat) : Int) + 1))) rfl) ?_
   refine FL.nil ?_
   obtain rfl := Option.some.inj hp
   exact ⟨rfl, ⟨_, S75, i56, (nat_succ rfl (lt_of_get hx30) (p0_1.mono (i27.tr i56)).le), k60, k61, k62⟩⟩
 ·
  clear hp hq
  rintro s30 f99 w98 ⟨H95, S96, i97, k100, k101, k102, k103⟩
  refine FW.seq (FW.region ?_)
  refine FL.v (E.lss k100 k103) ?_
  refine FL.nil (FW.seq ?_)
  refine FW.condF rfl dlt_len ?_
  refine FW.exit ?_
  exact ⟨nofun, rfl, ⟨_, S96, i97, k101⟩⟩
 ·
  clear hq
  intro e f82 w81 hD
  rcases q30 with s30 | x30
  ·
   obtain ⟨rfl, hD⟩ := hD
   obtain ⟨H78, S79, i80, k83⟩ := hD
   replace hp := el_go hp
   refine FW.seq (FW.region ?_)
   refine FL.v (E.fieldAddr tf30_0 k83) ?_
   refine FL.v (E.load rfl (run_load1 Tryz.isAgg3 ((at28.mono i80).now S79.sl) rfl)) ?_
   refine FL.call rfl rfl rfl (E.call Tryz.call172 (A1 rfl)) (w_impl_varsOk S79.sl a0.vars) ?_
   rintro e w84 ⟨rfl, r85⟩
   refine ⟨_, rfl, ?_⟩
   have S86 := S79.call r85
   refine FL.v (E.move (v := Value.bool (PF.impl_varsOk a0.vars)) rfl) ?_
   refine FL.cut 5 (fun f w => ∃ H : GH, St Ha wa H w [] ∧ Inc H78 H ∧ f 26 = Value.bool (bif (PF.impl_varsOk a0.vars) then (decide ((len a0.clauses) ≤ 60)) else false)) ?_ ?_
   ·
    rcases bcase (PF.impl_varsOk a0.vars) with c93 | c93
    ·
     refine FL.val (wF_yes rfl rfl rfl c93) rfl rfl (E.fieldAddr tf30_1 k83) ?_
     refine FL.val (wF_yes rfl rfl rfl c93) rfl rfl (E.load rfl (run_load1 Tryz.isAgg22 ((at28.mono i80).now S86.sl) rfl)) ?_
     refine FL.val (wF_yes rfl rfl rfl c93) rfl rfl (E.lenP te22 rfl p0_1) ?_
     refine FL.val (wF_yes rfl rfl rfl c93) rfl rfl (E.leq rfl rfl) ?_
     refine FL.v (E.pickT rfl c93 rfl) ?_
     exact FL.nil ⟨rfl, _, S86, (Inc.rfl _), (congrArg Value.bool (bifT c93).symm)⟩
    ·
     refine FL.skip (wF_no rfl rfl rfl c93) rfl ?_
     refine FL.skip (wF_no rfl rfl rfl c93) rfl ?_
     refine FL.skip (wF_no rfl rfl rfl c93) rfl ?_
     refine FL.skip (wF_no rfl rfl rfl c93) rfl ?_
     refine FL.v (E.pickF rfl c93 rfl) ?_
     exact FL.nil ⟨rfl, _, S86, (Inc.rfl _), (congrArg Value.bool (bifF c93).symm)⟩
   rintro f92 w91 ⟨H88, S89, i90, k94⟩
   refine FL.v (E.assign k94) ?_
   refine FL.nil ?_
   refine FW.ret ?_
   obtain rfl := Option.some.inj hp
   exact ⟨.inr rfl, res1 rfl rfl ⟨rfl, S89.back⟩⟩
  ·
   obtain ⟨he, hL⟩ := hD
   replace hp := el_rt hp
   obtain rfl := Option.some.inj hp
   subst he
   exact hL

theorem w_impl_narrowOk {Ha : GH} {wa : World} (hs : Sl Ha wa) (a0 : Cnf) (v0_1 : Value) (p0_1 : RSl Ha (eL eI 1) 1 v0_1 a0.clauses) (a1 : Int) {r : Bool} (hp : (PF.impl_narrowOk a0 a1) = some r) :
  Calls Tryz.prog 83 #[Value.agg #[Value.int .i64 a0.vars, v0_1], Value.int .i64 a1] wa (Sc Ha wa (Value.bool r)) := by
 unfold PF.impl_narrowOk at hp
 have S0 := St.init hs
 refine calls_go (N := 16) (args := [Value.agg #[Value.int .i64 a0.vars, v0_1], Value.int .i64 a1]) Tryz.func83 rfl rfl rfl ?_
 refine FW.seq (FW.region ?_)
 obtain ⟨b21, w22, run23, S24⟩ := S0.box (P := Tryz.prog) 30 [Value.int .i64 a0.vars, v0_1] (v := Value.agg #[Value.int .i64 a0.vars, v0_1]) rfl (ones_cons rfl (ones_cons p0_1.one ones_nil))
 refine FL.v (E.box rfl run23) ?_
 obtain ⟨H25, S26, i27, at28⟩ := S24.sealBox (i := 0) (l' := []) rfl rfl
 refine FL.v (E.assign (v := Value.bool false) rfl) ?_
 refine FL.nil (FW.seq (FW.region ?_))
 refine FL.v (E.load rfl (run_loadA Tryz.isAgg30 Tryz.sizeOf30 (at28.now S26.sl) rfl)) ?_
 obtain ⟨r29, hr30, hp⟩ := bnd hp
 refine FL.call rfl rfl rfl (E.call Tryz.call94 (A1 rfl)) (w_impl_IsCnf S26.sl a0 v0_1 (p0_1.mono i27) hr30) ?_
 rintro e w31 ⟨rfl, r32⟩
 refine ⟨_, rfl, ?_⟩
 have S33 := S26.call r32
 refine FL.v (E.move (v := Value.bool r29) rfl) ?_
 refine FL.cut 4 (fun f w => ∃ H : GH, St Ha wa H w [] ∧ Inc H25 H ∧ f 1 = Value.int .i64 a1 ∧ f 11 = Value.bool (bif r29 then (decide (a0.vars ≤ 6)) else false)) ?_ ?_
 ·
  rcases bcase r29 with c40 | c40
  ·
   refine FL.val (wF_yes rfl rfl rfl c40) rfl rfl (E.fieldAddr tf30_0 rfl) ?_
   refine FL.val (wF_yes rfl rfl rfl c40) rfl rfl (E.load rfl (run_load1 Tryz.isAgg3 (at28.now S33.sl) rfl)) ?_
   refine FL.val (wF_yes rfl rfl rfl c40) rfl rfl (E.leq rfl rfl) ?_
   refine FL.v (E.pickT rfl c40 rfl) ?_
   exact FL.nil ⟨rfl, _, S33, (Inc.rfl _), rfl, (congrArg Value.bool (bifT c40).symm)⟩
  ·
   refine FL.skip (wF_no rfl rfl rfl c40) rfl ?_
   refine FL.skip (wF_no rfl rfl rfl c40) rfl ?_
   refine FL.skip (wF_no rfl rfl rfl c40) rfl ?_
   refine FL.v (E.pickF rfl c40 rfl) ?_
   exact FL.nil ⟨rfl, _, S33, (Inc.rfl _), rfl, (congrArg Value.bool (bifF c40).symm)⟩
 rintro f39 w38 ⟨H35, S36, i37, k41, k42⟩
 refine FL.v (E.move k42) ?_
 refine FL.cut 3 (fun f w => ∃ H : GH, St Ha wa H w [] ∧ Inc H35 H ∧ f 15 = Value.bool (bif (bif r29 then (decide (a0.vars ≤ 6)) else false) then (PF.impl_within a1 0 6) else false)) ?_ ?_
 ·
  rcases bcase (bif r29 then (decide (a0.vars ≤ 6)) else false) with c52 | c52
  ·
   refine FL.val (wF_yes rfl rfl rfl c52) rfl rfl (E.move k41) ?_
   refine FL.call (wF_yes rfl rfl rfl c52) rfl rfl (E.call Tryz.call130 (A3 rfl rfl rfl)) (w_impl_within S36.sl a1 0 6) ?_
   rintro e w53 ⟨rfl, r54⟩
   refine ⟨_, rfl, ?_⟩
   have S55 := S36.call r54
   refine FL.v (E.pickT rfl c52 rfl) ?_
   exact FL.nil ⟨rfl, _, S55, (Inc.rfl _), (congrArg Value.bool (bifT c52).symm)⟩
  ·
   refine FL.skip (wF_no rfl rfl rfl c52) rfl ?_
   refine FL.skip (wF_no rfl rfl rfl c52) rfl ?_
   refine FL.v (E.pickF rfl c52 rfl) ?_
   exact FL.nil ⟨rfl, _, S36, (Inc.rfl _), (congrArg Value.bool (bifF c52).symm)⟩
 rintro f51 w50 ⟨H47, S48, i49, k56⟩
 refine FL.v (E.assign k56) ?_
 refine FL.nil ?_
 refine FW.ret ?_
 obtain rfl := Option.some.inj hp
 exact ⟨.inr rfl, res1 rfl rfl ⟨rfl, S48.back⟩⟩

set_option maxHeartbeats 4000000 in
theorem w_impl_maskOf {Ha : GH} {wa : World} (hs : Sl Ha wa) (v0 : Value) (a0 : List Int) (p0 : RSl Ha eI 1 v0 a0) {r : Int} (hp : (PF.impl_maskOf a0) = some r) :
  Calls Tryz.prog 174 #[v0] wa (Sc Ha wa (Value.int .u16 r)) := by
 unfold PF.impl_maskOf at hp
 have S0 := St.init hs
 refine calls_go (N := 27) (args := [v0]) Tryz.func174 rfl rfl rfl ?_
 refine FW.seq (FW.region ?_)
 refine FL.v (E.assign (v := Value.int .u16 0) rfl) ?_
 refine FL.nil (FW.seq (FW.region ?_))
 refine FL.v (E.assign (v := Value.int .u16 0) rfl) ?_
 refine FL.nil (FW.seq (FW.seq (FW.region ?_)))
 refine FL.v (E.move (v := v0) rfl) ?_
 refine FL.v (E.lenP te25 rfl p0) ?_
 refine FL.v (E.move (v := Value.int .i64 0) rfl) ?_
 refine FL.nil ?_
 obtain ⟨q22, hq, hp⟩ := bndR hp
 refine FW.block ?_
 refine FW.mono (FW.forL (S := Int) (X := Empty) (fun (i22 : Nat) (s22 : Int) f w => ∃ H : GH, St Ha wa H w [] ∧ Inc Ha H ∧ f 8 = Value.int .i64 ((i22 : Nat) : Int) ∧ f 3 = Value.int .u16 s22 ∧ f 6 = v0 ∧ f 7 = Value.int .i64 (len a0)) (fun (q : Rs Int Empty) e f w => match q with | .go s22 => e = Exit.exit 0 ∧ (∃ H : GH, St Ha wa H w [] ∧ Inc Ha H ∧ f 3 = Value.int .u16 s22) | .rt x => x.elim) hq ⟨_, S0, (Inc.rfl _), rfl, rfl, rfl, rfl⟩ ?_ ?_) ?_
 ·
  clear hp hq
  rintro i22 y21 s22 f47 w46 ⟨H43, S44, i45, k48, k49, k50, k51⟩ hx22 o63 hp
  refine FW.seq (FW.region ?_)
  refine FL.v (E.lssT k48 k51 (lss_len hx22)) ?_
  refine FL.nil (FW.seq ?_)
  refine FW.condT rfl rfl ?_
  refine FW.skip (FW.seq (FW.block (FW.seq (FW.region ?_))))
  obtain ⟨p52, cs53, pt54, l55, at56, rel57⟩ := p0.at (ix_nat hx22)
  obtain rfl := eI_open rel57
  refine FL.v (E.indexAddr te25 k50 k48 pt54) ?_
  refine FL.v (E.load rfl (run_load0 Tryz.isAgg3 ((at56.mono i45).now S44.sl) rfl)) ?_
  refine FL.v (E.assign (v := Value.int .i64 y21) rfl) ?_
  refine FL.nil (FW.seq (FW.region ?_))
  refine FL.v (E.move (v := Value.int .i64 y21) rfl) ?_
  refine FL.v (E.gtr rfl rfl) ?_
  refine FL.nil ?_
  rcases ifB hp with ⟨c58, hp⟩ | ⟨c58, hp⟩
  ·
   refine FW.condT rfl c58 ?_
   refine FW.region ?_
   refine FL.v (E.move k49) ?_
   refine FL.v (E.move (v := Value.int .i64 y21) rfl) ?_
   refine FL.v (E.sub rfl rfl) ?_
   obtain ⟨u60, z59, hp⟩ := bnd hp
   refine FL.v (E.shl rfl rfl (nn_ge z59)) ?_
   refine FL.v (E.or rfl rfl) ?_
   refine FL.v (E.assign (v := Value.int .u16 (orK false 16 s22 (shlK false 16 1 (wr (y21 - 1))))) rfl) ?_
   refine FL.nil (FW.region ?_)
   refine FL.v (E.add k48 rfl) ?_
   refine FL.v (E.move (v := Value.int .i64 (wr (((i22 : Nat) : Int) + 1))) rfl) ?_
   refine FL.nil ?_
   obtain rfl := Option.some.inj hp
   exact ⟨rfl, ⟨_, S44, i45, (nat_succ rfl (lt_of_get hx22) (p0.mono i45).le), rfl, k50, k51⟩⟩
  ·
   refine FW.condF rfl c58 ?_
   refine FW.region ?_
   refine FL.v (E.move k49) ?_
   refine FL.v (E.move (v := Value.int .i64 y21) rfl) ?_
   refine FL.v (E.sub rfl rfl) ?_
   refine FL.v (E.sub rfl rfl) ?_
   obtain ⟨u62, z61, hp⟩ := bnd hp
   refine FL.v (E.shl rfl rfl (nn_ge z61)) ?_
   refine FL.v (E.or rfl rfl) ?_
   refine FL.v (E.assign (v := Value.int .u16 (orK false 16 s22 (shlK false 16 1 (wr ((wr (6 - y21)) - 1))))) rfl) ?_
   refine FL.nil (FW.region ?_)
   refine FL.v (E.add k48 rfl) ?_
   refine FL.v (E.move (v := Value.int .i64 (wr (((i22 : Nat) : Int) + 1))) rfl) ?_
   refine FL.nil ?_
   obtain rfl := Option.some.inj hp
   exact ⟨rfl, ⟨_, S44, i45, (nat_succ rfl (lt_of_get hx22) (p0.mono i45).le), rfl, k50, k51⟩⟩
 ·
  clear hp hq
  rintro s22 f74 w73 ⟨H70, S71, i72, k75, k76, k77, k78⟩
  refine FW.seq (FW.region ?_)
  refine FL.v (E.lss k75 k78) ?_
  refine FL.nil (FW.seq ?_)
  refine FW.condF rfl dlt_len ?_
  refine FW.exit ?_
  exact ⟨nofun, rfl, ⟨_, S71, i72, k76⟩⟩
 ·
  clear hq
  intro e f68 w67 hD
  rcases q22 with s22 | x22
  ·
   obtain ⟨rfl, hD⟩ := hD
   obtain ⟨H64, S65, i66, k69⟩ := hD
   replace hp := el_go hp
   refine FW.seq (FW.region ?_)
   refine FL.v (E.move k69) ?_
   refine FL.v (E.assign (v := Value.int .u16 s22) rfl) ?_
   refine FL.nil ?_
   refine FW.ret ?_
   obtain rfl := Option.some.inj hp
   exact ⟨.inr rfl, res1 rfl rfl ⟨rfl, S65.back⟩⟩
  ·
   exact x22.elim

theorem w_impl_mask_swapped {Ha : GH} {wa : World} (hs : Sl Ha wa) (a0 : Int) :
  Calls Tryz.prog 257 #[Value.int .u16 a0] wa (Sc Ha wa (Value.int .u16 (PF.impl_mask_swapped a0))) := by
 obtain ⟨r, hp⟩ : ∃ r, (PF.impl_mask_swapped a0) = r := ⟨_, rfl⟩
 rw [hp]
 unfold PF.impl_mask_swapped at hp
 have S0 := St.init hs
 refine calls_go (N := 9) (args := [Value.int .u16 a0]) Tryz.func257 rfl rfl rfl ?_
 refine FW.seq (FW.region ?_)
 refine FL.v (E.assign (v := Value.int .u16 0) rfl) ?_
 refine FL.nil (FW.seq (FW.region ?_))
 refine FL.v (E.move (v := Value.int .u16 a0) rfl) ?_
 refine FL.v (E.and rfl rfl) ?_
 refine FL.v (E.shl rfl rfl (by decide)) ?_
 refine FL.v (E.move (v := Value.int .u16 a0) rfl) ?_
 refine FL.v (E.shr rfl rfl (by decide)) ?_
 refine FL.v (E.or rfl rfl) ?_
 refine FL.v (E.assign (v := Value.int .u16 (orK false 16 (shlK false 16 (andK false 16 a0 63) 6) (shrK 16 a0 6))) rfl) ?_
 refine FL.nil ?_
 refine FW.ret ?_
 obtain rfl := hp
 exact ⟨.inr rfl, res1 rfl rfl ⟨rfl, S0.back⟩⟩

theorem w_impl_bothOf {Ha : GH} {wa : World} (hs : Sl Ha wa) (a0 : Int) (a1 : Int) :
  Calls Tryz.prog 175 #[Value.int .u16 a0, Value.int .u16 a1] wa (Sc Ha wa (Value.int .u16 (PF.impl_bothOf a0 a1))) := by
 obtain ⟨r, hp⟩ : ∃ r, (PF.impl_bothOf a0 a1) = r := ⟨_, rfl⟩
 rw [hp]
 unfold PF.impl_bothOf at hp
 have S0 := St.init hs
 refine calls_go (N := 15) (args := [Value.int .u16 a0, Value.int .u16 a1]) Tryz.func175 rfl rfl rfl ?_
 refine FW.seq (FW.region ?_)
 refine FL.v (E.assign (v := Value.int .u16 0) rfl) ?_
 refine FL.nil (FW.seq (FW.region ?_))
 refine FL.v (E.move (v := Value.int .u16 a0) rfl) ?_
 refine FL.v (E.move (v := Value.int .u16 a1) rfl) ?_
 refine FL.call rfl rfl rfl (E.call Tryz.call257 (A1 rfl)) (w_impl_mask_swapped S0.sl a1) ?_
 rintro e w21 ⟨rfl, r22⟩
 refine ⟨_, rfl, ?_⟩
 have S23 := S0.call r22
 refine FL.v (E.and rfl rfl) ?_
 refine FL.v (E.assign (v := Value.int .u16 (andK false 16 a0 (PF.impl_mask_swapped a1))) rfl) ?_
 refine FL.nil (FW.seq (FW.region ?_))
 refine FL.v (E.move (v := Value.int .u16 (andK false 16 a0 (PF.impl_mask_swapped a1))) rfl) ?_
 refine FL.v (E.move (v := Value.int .u16 (andK false 16 a0 (PF.impl_mask_swapped a1))) rfl) ?_
 refine FL.v (E.shr rfl rfl (by decide)) ?_
 refine FL.v (E.or rfl rfl) ?_
 refine FL.v (E.and rfl rfl) ?_
 refine FL.v (E.assign (v := Value.int .u16 (andK false 16 (orK false 16 (andK false 16 a0 (PF.impl_mask_swapped a1)) (shrK 16 (andK false 16 a0 (PF.impl_mask_swapped a1)) 6)) 63)) rfl) ?_
 refine FL.nil ?_
 refine FW.ret ?_
 obtain rfl := hp
 exact ⟨.inr rfl, res1 rfl rfl ⟨rfl, S23.back⟩⟩

theorem w_impl_mask_one {Ha : GH} {wa : World} (hs : Sl Ha wa) (a0 : Int) :
  Calls Tryz.prog 176 #[Value.int .u16 a0] wa (Sc Ha wa (Value.bool (PF.impl_mask_one a0))) := by
 obtain ⟨r, hp⟩ : ∃ r, (PF.impl_mask_one a0) = r := ⟨_, rfl⟩
 rw [hp]
 unfold PF.impl_mask_one at hp
 have S0 := St.init hs
 refine calls_go (N := 12) (args := [Value.int .u16 a0]) Tryz.func176 rfl rfl rfl ?_
 refine FW.seq (FW.region ?_)
 refine FL.v (E.assign (v := Value.bool false) rfl) ?_
 refine FL.nil (FW.seq (FW.region ?_))
 refine FL.v (E.move (v := Value.int .u16 a0) rfl) ?_
 refine FL.v (E.neq rfl rfl) ?_
 refine FL.v (E.move (v := Value.bool (!(a0 == 0))) rfl) ?_
 refine FL.cut 6 (fun f w => ∃ H : GH, St Ha wa H w [] ∧ Inc Ha H ∧ f 11 = Value.bool (bif (!(a0 == 0)) then ((andK false 16 a0 (wrk false 16 (a0 - 1))) == 0) else false)) ?_ ?_
 ·
  rcases bcase (!(a0 == 0)) with c27 | c27
  ·
   refine FL.val (wF_yes rfl rfl rfl c27) rfl rfl (E.move (v := Value.int .u16 a0) rfl) ?_
   refine FL.val (wF_yes rfl rfl rfl c27) rfl rfl (E.move (v := Value.int .u16 a0) rfl) ?_
   refine FL.val (wF_yes rfl rfl rfl c27) rfl rfl (E.subK rfl rfl) ?_
   refine FL.val (wF_yes rfl rfl rfl c27) rfl rfl (E.and rfl rfl) ?_
   refine FL.val (wF_yes rfl rfl rfl c27) rfl rfl (E.eql rfl rfl) ?_
   refine FL.v (E.pickT rfl c27 rfl) ?_
   exact FL.nil ⟨rfl, _, S0, (Inc.rfl _), (congrArg Value.bool (bifT c27).symm)⟩
  ·
   refine FL.skip (wF_no rfl rfl rfl c27) rfl ?_
   refine FL.skip (wF_no rfl rfl rfl c27) rfl ?_
   refine FL.skip (wF_no rfl rfl rfl c27) rfl ?_
   refine FL.skip (wF_no rfl rfl rfl c27) rfl ?_
   refine FL.skip (wF_no rfl rfl rfl c27) rfl ?_
   refine FL.v (E.pickF rfl c27 rfl) ?_
   exact FL.nil ⟨rfl, _, S0, (Inc.rfl _), (congrArg Value.bool (bifF c27).symm)⟩
 rintro f26 w25 ⟨H22, S23, i24, k28⟩
 refine FL.v (E.assign k28) ?_
 refine FL.nil ?_
 refine FW.ret ?_
 obtain rfl := hp
 exact ⟨.inr rfl, res1 rfl rfl ⟨rfl, S23.back⟩⟩

theorem w_impl_mask_count {Ha : GH} {wa : World} (hs : Sl Ha wa) (a0 : Int) {r : Int} (hp : (PF.impl_mask_count a0) = some r) :
  Calls Tryz.prog 177 #[Value.int .u16 a0] wa (Sc Ha wa (Value.int .i64 r)) := by
 unfold PF.impl_mask_count at hp
 have S0 := St.init hs
 refine calls_go (N := 13) (args := [Value.int .u16 a0]) Tryz.func177 rfl rfl rfl ?_
 refine FW.seq (FW.region ?_)
 refine FL.v (E.assign (v := Value.int .i64 0) rfl) ?_
 refine FL.nil (FW.seq (FW.region ?_))
 refine FL.v (E.assign (v := Value.int .i64 0) rfl) ?_
 refine FL.nil (FW.seq ?_)
 obtain ⟨q21, hq, hp⟩ := bndR hp
 refine FW.block ?_
 refine FW.mono (FW.iter (S := (Int × Int)) (X := Empty) (fun (s21 : (Int × Int)) f w => ∃ H : GH, St Ha wa H w [] ∧ Inc Ha H ∧ f 0 = Value.int .u16 s21.1 ∧ f 3 = Value.int .i64 s21.2) (fun (q : Rs (Int × Int) Empty) e f w => match q with | .go s21 => e = Exit.exit 0 ∧ (∃ H : GH, St Ha wa H w [] ∧ Inc Ha H ∧ f 3 = Value.int .i64 s21.2) | .rt x => x.elim) hq ⟨_, S0, (Inc.rfl _), rfl, rfl⟩ ?_) ?_
 ·
  clear hp hq
  rintro s21 f34 w33 ⟨H30, S31, i32, k35, k36⟩ o38 hp
  refine FW.seq (FW.seq (FW.region ?_))
  refine FL.v (E.move k35) ?_
  refine FL.v (E.neq rfl rfl) ?_
  refine FL.nil ?_
  rcases ifB hp with ⟨c37, hp⟩ | ⟨c37, hp⟩
  ·
   refine FW.condT rfl c37 ?_
   refine FW.skip (FW.seq (FW.block (FW.region ?_)))
   refine FL.v (E.move k36) ?_
   refine FL.v (E.add rfl rfl) ?_
   refine FL.v (E.assign (v := Value.int .i64 (wr (s21.2 + 1))) rfl) ?_
   refine FL.nil (FW.region ?_)
   refine FL.v (E.move k35) ?_
   refine FL.v (E.move k35) ?_
   refine FL.v (E.subK rfl rfl) ?_
   refine FL.v (E.and rfl rfl) ?_
   refine FL.v (E.assign (v := Value.int .u16 (andK false 16 s21.1 (wrk false 16 (s21.1 - 1)))) rfl) ?_
   refine FL.nil ?_
   obtain rfl := Option.some.inj hp
   exact ⟨rfl, ⟨_, S31, i32, rfl, rfl⟩⟩
  ·
   refine FW.condF rfl c37 ?_
   refine FW.exit ?_
   obtain rfl := Option.some.inj hp
   exact ⟨nofun, rfl, ⟨_, S31, i32, k36⟩⟩
 ·
  clear hq
  intro e f43 w42 hD
  rcases q21 with s21 | x21
  ·
   obtain ⟨rfl, hD⟩ := hD
   obtain ⟨H39, S40, i41, k44⟩ := hD
   replace hp := el_go hp
   refine FW.seq (FW.region ?_)
   refine FL.v (E.move k44) ?_
   refine FL.v (E.assign (v := Value.int .i64 s21.2) rfl) ?_
   refine FL.nil ?_
   refine FW.ret ?_
   obtain rfl := Option.some.inj hp
   exact ⟨.inr rfl, res1 rfl rfl ⟨rfl, S40.back⟩⟩
  ·
   exact x21.elim

@[reducible] def p_impl_closureOf (Ha : GH) (wa : World) (r : (Option closure)) : Ending → World → Prop :=
 fun e w' => ∃ H' : GH, ∃ v0 : Value, e = .returned (v0) ∧ Run wa.heap.size Ha wa H' w' ∧ OP (fun (q : Addr) (x : closure) => ∃ v0R_0 : Value, ∃ v0R_1 : Value, RSl (up wa.heap.size H') (eN .u16) 1 v0R_0 x.masks ∧ MAt (K := Int) (V := Int) H' (Value.int .u16) (Value.int .i64) v0R_1 x.rounds ∧ CAt H' q [v0R_0, v0R_1, Value.int .i64 x.last]) v0 r
set_option maxHeartbeats 4000000 in
theorem w_impl_closureOf {Ha : GH} {wa : World} (hs : Sl Ha wa) (a0 : Cnf) (v0_1 : Value) (p0_1 : RSl Ha (eL eI 1) 1 v0_1 a0.clauses) (a1 : Int) {r : (Option closure)} (hp : (PF.impl_closureOf a0 a1) = some r) :
  Calls Tryz.prog 85 #[Value.agg #[Value.int .i64 a0.vars, v0_1], Value.int .i64 a1] wa (p_impl_closureOf Ha wa r) := by
 unfold PF.impl_closureOf at hp
 have S0 := St.init hs
 refine calls_go (N := 99) (args := [Value.agg #[Value.int .i64 a0.vars, v0_1], Value.int .i64 a1]) Tryz.func85 rfl rfl rfl ?_
 refine FW.seq (FW.region ?_)
 obtain ⟨b21, w22, run23, S24⟩ := S0.box (P := Tryz.prog) 30 [Value.int .i64 a0.vars, v0_1] (v := Value.agg #[Value.int .i64 a0.vars, v0_1]) rfl (ones_cons rfl (ones_cons p0_1.one ones_nil))
 refine FL.v (E.box rfl run23) ?_
 obtain ⟨H25, S26, i27, at28⟩ := S24.sealBox (i := 0) (l' := []) rfl rfl
 refine FL.v (E.assign (v := Value.pointer none) rfl) ?_
 refine FL.nil (FW.seq (FW.region ?_))
 obtain ⟨b29, o30, w31, run32, S33, hm34⟩ := S26.makeMap (P := Tryz.prog) (K := Int) (V := Int) 167 (Value.int .u16) (Value.int .i64)
 refine FL.v (E.makeMap run32) ?_
 refine FL.v (E.build (B1 rfl) (run_build _ 170 #[(1, Value.map (some b29))] #[Value.slice none 0 0, Value.map (some b29), Value.int .i64 0] (by rfl))) ?_
 have S39 := S33.nil 173 1
 have els40 : Els (up wa.heap.size H25) (eN .u16) 1 [] [] := Els.nil
 obtain ⟨b35, w36, run37, S38⟩ := S39.box (P := Tryz.prog) 170 [(Value.slice none 0 0), Value.map (some b29), Value.int .i64 0] (v := Value.agg #[Value.slice none 0 0, Value.map (some b29), Value.int .i64 0]) rfl (ones_cons (Ln.one (S39.row_ln (i := 0) rfl)) (ones_cons rfl (ones_cons rfl ones_nil)))
 refine FL.v (E.box rfl run37) ?_
 refine FL.v (E.assign (v := Value.pointer (some (⟨b35, 0, none⟩ : Addr))) rfl) ?_
 refine FL.nil (FW.seq (FW.seq (FW.region ?_)))
 refine FL.v (E.fieldAddr tf30_1 rfl) ?_
 refine FL.v (E.load rfl (run_load1 Tryz.isAgg22 (at28.now S38.sl) rfl)) ?_
 refine FL.v (E.lenP te22 rfl p0_1) ?_
 refine FL.v (E.move (v := Value.int .i64 0) rfl) ?_
 refine FL.nil ?_
 obtain ⟨q42, hq, hp⟩ := bndR hp
 refine FW.block ?_
 refine FW.mono (FW.forL (S := ((List Int) × Int × (List (Int × Int)))) (X := Empty) (fun (i42 : Nat) (s42 : ((List Int) × Int × (List (Int × Int)))) f w => ∃ H : GH, ∃ v107 : Value, ∃ n108 : Nat, ∃ cs109 : List Value, ∃ o111 : Obj, St Ha wa H w [.box b35 170 [v107, Value.map (some b29), Value.int .i64 s42.2.1], .row 173 1 v107 n108 cs109, .raw b29 o111] ∧ Inc H25 H ∧ Els (up wa.heap.size H) (eN .u16) 1 cs109 s42.1 ∧ MapOf (K := Int) (V := Int) (Value.int .u16) (Value.int .i64) o111 s42.2.2 ∧ f 23 = Value.int .i64 ((i42 : Nat) : Int) ∧ f 1 = Value.int .i64 a1 ∧ f 5 = Value.pointer (some (⟨b35, 0, none⟩ : Addr)) ∧ f 21 = v0_1 ∧ f 22 = Value.int .i64 (len a0.clauses)) (fun (q : Rs ((List Int) × Int × (List (Int × Int))) Empty) e f w => match q with | .go s42 => e = Exit.exit 0 ∧ (∃ H : GH, ∃ v107 : Value, ∃ n108 : Nat, ∃ cs109 : List Value, ∃ o111 : Obj, St Ha wa H w [.box b35 170 [v107, Value.map (some b29), Value.int .i64 s42.2.1], .row 173 1 v107 n108 cs109, .raw b29 o111] ∧ Inc H25 H ∧ Els (up wa.heap.size H) (eN .u16) 1 cs109 s42.1 ∧ MapOf (K := Int) (V := Int) (Value.int .u16) (Value.int .i64) o111 s42.2.2 ∧ f 1 = Value.int .i64 a1 ∧ f 5 = Value.pointer (some (⟨b35, 0, none⟩ : Addr))) | .rt x => x.elim) hq ⟨_, _, _, _, _, S38, (Inc.rfl _), els40, hm34, rfl, rfl, rfl, rfl, rfl⟩ ?_ ?_) ?_
 ·
  clear hp hq
  rintro i42 y41 s42 f181 w180 ⟨H177, v107, n108, cs109, o111, S178, i179, els110, hm112, k182, k183, k184, k185, k186⟩ hx42 o269 hp
  refine FW.seq (FW.region ?_)
  refine FL.v (E.lssT k182 k186 (lss_len hx42)) ?_
  refine FL.nil (FW.seq ?_)
  refine FW.condT rfl rfl ?_
  refine FW.skip (FW.seq (FW.block (FW.seq (FW.region ?_))))
  obtain ⟨p187, cs188, pt189, l190, at191, rel192⟩ := p0_1.at (ix_nat hx42)
  obtain ⟨v193, rfl, h194⟩ := eL_open rel192
  refine FL.v (E.indexAddr te22 k185 k182 pt189) ?_
  refine FL.v (E.load rfl (run_load0 Tryz.isAgg25 ((at191.mono (i27.tr i179)).now S178.sl) rfl)) ?_
  refine FL.v (E.assign (v := v193) rfl) ?_
  refine FL.nil (FW.seq (FW.region ?_))
  refine FL.v (E.move (v := v193) rfl) ?_
  refine FL.v (E.lenP te25 rfl h194) ?_
  refine FL.v (E.move k183) ?_
  refine FL.v (E.leq rfl rfl) ?_
  refine FL.nil ?_
  rcases ifB hp with ⟨c195, hp⟩ | ⟨c195, hp⟩
  ·
   refine FW.condT rfl c195 ?_
   refine FW.region ?_
   refine FL.v (E.move k184) ?_
   refine FL.v (E.move (v := v193) rfl) ?_
   obtain ⟨r196, hr197, hp⟩ := bnd hp
   refine FL.call rfl rfl rfl (E.call Tryz.call174 (A1 rfl)) (w_impl_maskOf S178.sl v193 y41 (h194.mono (i27.tr i179)) hr197) ?_
   rintro e w198 ⟨rfl, r199⟩
   refine ⟨_, rfl, ?_⟩
   have S200 := S178.call r199
   obtain ⟨s229, hq229, hp⟩ := bnd hp
   obtain ⟨R229, hR229⟩ : ∃ R229 : ((List Int) × Int × (List (Int × Int))) → Ending → World → Prop, R229 = (fun s229 e w => ∃ H : GH, ∃ v230 : Value, ∃ n231 : Nat, ∃ cs232 : List Value, ∃ o234 : Obj, e = Ending.returned (Value.tuple #[]) ∧ St Ha wa H w [.box b35 170 [v230, Value.map (some b29), Value.int .i64 s229.2.1], .row 173 1 v230 n231 cs232, .raw b29 o234] ∧ Inc H177 H ∧ Els (up wa.heap.size H) (eN .u16) 1 cs232 s229.1 ∧ MapOf (K := Int) (V := Int) (Value.int .u16) (Value.int .i64) o234 s229.2.2) := ⟨_, rfl⟩
   have hc229 : Calls Tryz.prog 173 #[Value.pointer (some (⟨b35, 0, none⟩ : Addr)), Value.int .u16 r196, Value.int .i64 0] w198 (R229 s229) := by
    clear hp; have hp := hq229; clear hq229
    refine calls_go (N := 39) (args := [Value.pointer (some (⟨b35, 0, none⟩ : Addr)), Value.int .u16 r196, Value.int .i64 0]) Tryz.func173 rfl rfl rfl ?_
    refine FW.seq (FW.region ?_)
    refine FL.v (E.move (v := Value.pointer (some (⟨b35, 0, none⟩ : Addr))) rfl) ?_
    refine FL.v (E.nilCheck rfl) ?_
    refine FL.v (E.fieldAddr tf170_1 rfl) ?_
    refine FL.v (E.load rfl (run_load1 Tryz.isAgg167 (S200.box_now (i := 0) rfl) rfl)) ?_
    refine FL.v (E.move (v := Value.int .u16 r196) rfl) ?_
    refine FL.v (E.lookup rfl rfl (S200.mapGetOk (P := Tryz.prog) (i := 2) rfl hm112 Tryz.runUnderlying167 (KeyNow.intk Tryz.runUnderlying173) (z := 0) Tryz.zeroValue3 r196)) ?_
    refine FL.v (E.move (v := Value.tuple #[Value.int .i64 ((mget s42.2.2 r196).getD 0), Value.bool ((mget s42.2.2 r196).isSome)]) rfl) ?_
    refine FL.v (E.extract (i := 0) rfl rfl) ?_
    refine FL.v (E.extract (i := 1) rfl rfl) ?_
    refine FL.v (E.assign (v := Value.int .i64 ((mget s42.2.2 r196).getD 0)) rfl) ?_
    refine FL.v (E.assign (v := Value.bool ((mget s42.2.2 r196).isSome)) rfl) ?_
    refine FL.nil (FW.seq (FW.region ?_))
    refine FL.v (E.move (v := Value.bool ((mget s42.2.2 r196).isSome)) rfl) ?_
    refine FL.v (E.not rfl) ?_
    refine FL.nil ?_
    rcases ifB hp with ⟨c236, hp⟩ | ⟨c236, hp⟩
    ·
     refine FW.condT rfl c236 ?_
     refine FW.seq (FW.region ?_)
     refine FL.v (E.move (v := Value.pointer (some (⟨b35, 0, none⟩ : Addr))) rfl) ?_
     refine FL.v (E.nilCheck rfl) ?_
     refine FL.v (E.fieldAddr tf170_1 rfl) ?_
     refine FL.v (E.load rfl (run_load1 Tryz.isAgg167 (S200.box_now (i := 0) rfl) rfl)) ?_
     refine FL.v (E.move (v := Value.int .u16 r196) rfl) ?_
     refine FL.v (E.move (v := Value.int .i64 0) rfl) ?_
     obtain ⟨o237, w238, run239, S240, hm241⟩ := S200.mapPut (P := Tryz.prog) (i := 2) rfl hm112 Tryz.runUnderlying167 (KeyNow.intk Tryz.runUnderlying173) r196 0
     have S240 : St Ha wa H177 w238 [.box b35 170 [v107, Value.map (some b29), Value.int .i64 s42.2.1], .row 173 1 v107 n108 cs109, .raw b29 o237] := S240
     refine FL.act rfl rfl (E.mapUpdate rfl rfl rfl run239) ?_
     refine FL.nil (FW.seq (FW.region ?_))
     refine FL.v (E.move (v := Value.pointer (some (⟨b35, 0, none⟩ : Addr))) rfl) ?_
     refine FL.v (E.move (v := Value.pointer (some (⟨b35, 0, none⟩ : Addr))) rfl) ?_
     refine FL.v (E.nilCheck rfl) ?_
     refine FL.v (E.fieldAddr tf170_0 rfl) ?_
     refine FL.v (E.load rfl (run_load1 Tryz.isAgg168 (S240.box_now (i := 0) rfl) rfl)) ?_
     refine FL.v (E.move (v := Value.int .u16 r196) rfl) ?_
     obtain ⟨v242, w243, run244, S245⟩ := S240.buildSlice (P := Tryz.prog) te168 [Value.int .u16 r196] (parts := #[(0, Value.int .u16 r196)]) (cells := [Value.int .u16 r196]) rfl (szs_cons rfl szs_nil) (fc_cons rfl fc_nil) (ones_cons rfl ones_nil) (Nat.le_of_ble_eq_true rfl)
     have els246 : Els (up wa.heap.size H177) (eN .u16) 1 [Value.int .u16 r196] [r196] := (Els.snoc (H := (up wa.heap.size H177)) (E := (eN .u16)) (k := 1) (c := [Value.int .u16 r196]) (x := r196) Els.nil rfl rfl)
     refine FL.v (E.buildSlice (B1 rfl) run244) ?_
     obtain ⟨xs247, hz248, hp⟩ := bnd hp
     obtain ⟨v249, w252, n250, cs251, run253, S254, els255, ce256⟩ := S245.appendO (P := Tryz.prog) te168 (i := 2) (j := 0) rfl els110 rfl els246 hz248
     have S254 : St Ha wa H177 w252 [.row 173 1 v242 1 [Value.int .u16 r196], .box b35 170 [v107, Value.map (some b29), Value.int .i64 s42.2.1], .row 173 1 v249 n250 cs251, .raw b29 o237] := S254
     have S257 : St Ha wa H177 w252 [.box b35 170 [v107, Value.map (some b29), Value.int .i64 s42.2.1], .row 173 1 v249 n250 cs251, .raw b29 o237] := S254.drop 0
     refine FL.v (E.append rfl rfl run253) ?_
     refine FL.v (E.nilCheck rfl) ?_
     refine FL.v (E.fieldAddr tf170_0 rfl) ?_
     obtain ⟨w258, run259, S260⟩ := S257.store (P := Tryz.prog) (t := 168) (i := 0) (j := 0) (cs' := [v249, Value.map (some b29), Value.int .i64 s42.2.1]) (l' := [.box b35 170 [v249, Value.map (some b29), Value.int .i64 s42.2.1], .row 173 1 v249 n250 cs251, .raw b29 o237]) (v := v249) (c := [v249]) rfl Tryz.sizeOf168 (Ln.cells (S257.row_ln (i := 1) rfl)) rfl (ones_cons (Ln.one (S257.row_ln (i := 1) rfl)) ones_nil) (Nat.le_of_ble_eq_true rfl) rfl rfl
     refine FL.act rfl rfl (E.store rfl rfl run259) ?_
     refine FL.nil (FW.region ?_)
     refine FL.v (E.move (v := Value.pointer (some (⟨b35, 0, none⟩ : Addr))) rfl) ?_
     refine FL.v (E.move (v := Value.int .i64 0) rfl) ?_
     refine FL.v (E.nilCheck rfl) ?_
     refine FL.v (E.fieldAddr tf170_2 rfl) ?_
     obtain ⟨w261, run262, S263⟩ := S260.store (P := Tryz.prog) (t := 3) (i := 0) (j := 2) (cs' := [v249, Value.map (some b29), Value.int .i64 0]) (l' := [.box b35 170 [v249, Value.map (some b29), Value.int .i64 0], .row 173 1 v249 n250 cs251, .raw b29 o237]) (v := Value.int .i64 0) (c := [Value.int .i64 0]) rfl Tryz.sizeOf3 rfl rfl (ones_cons rfl ones_nil) (Nat.le_of_ble_eq_true rfl) rfl rfl
     refine FL.act rfl rfl (E.store rfl rfl run262) ?_
     refine FL.nil ?_
     obtain rfl := Option.some.inj hp
     exact ⟨.inl rfl, res0 rfl (by rw [hR229]; exact ⟨_, _, _, _, _, rfl, S263, (Inc.rfl _), els255, hm241⟩)⟩
    ·
     refine FW.condF rfl c236 ?_
     refine FW.skip ?_
     obtain rfl := Option.some.inj hp
     exact ⟨.inl rfl, res0 rfl (by rw [hR229]; exact ⟨_, _, _, _, _, rfl, S200, (Inc.rfl _), els110, hm112⟩)⟩
   clear hq229
   refine FL.call rfl rfl rfl (E.call Tryz.call173 (A3 rfl rfl rfl)) hc229 ?_
   intro e w267 hQ229
   rw [hR229] at hQ229
   obtain ⟨H264, v230, n231, cs232, o234, rfl, S265, i266, els233, hm235⟩ := hQ229
   refine ⟨_, rfl, ?_⟩
   refine FL.nil (FW.region ?_)
   refine FL.v (E.add k182 rfl) ?_
   refine FL.v (E.move (v := Value.int .i64 (wr (((i42 : Nat) : Int) + 1))) rfl) ?_
   refine FL.nil ?_
   obtain rfl := Option.some.inj hp
   exact ⟨rfl, ⟨_, _, _, _, _, S265, (i179.tr i266), els233, hm235, (nat_succ rfl (lt_of_get hx42) (p0_1.mono ((i27.tr i179).tr i266)).le), k183, k184, k185, k186⟩⟩
  ·
   refine FW.condF rfl c195 ?_
   refine FW.skip (FW.region ?_)
   refine FL.v (E.add k182 rfl) ?_
   refine FL.v (E.move (v := Value.int .i64 (wr (((i42 : Nat) : Int) + 1))) rfl) ?_
   refine FL.nil ?_
   obtain rfl := Option.some.inj hp
   exact ⟨rfl, ⟨_, _, _, _, _, S178, i179, els110, hm112, (nat_succ rfl (lt_of_get hx42) (p0_1.mono (i27.tr i179)).le), k183, k184, k185, k186⟩⟩
 ·
  clear hp hq
  rintro s42 f311 w310 ⟨H307, v107, n108, cs109, o111, S308, i309, els110, hm112, k312, k313, k314, k315, k316⟩
  refine FW.seq (FW.region ?_)
  refine FL.v (E.lss k312 k316) ?_
  refine FL.nil (FW.seq ?_)
  refine FW.condF rfl dlt_len ?_
  refine FW.exit ?_
  exact ⟨nofun, rfl, ⟨_, _, _, _, _, S308, i309, els110, hm112, k313, k314⟩⟩
 ·
  clear hq
  intro e f274 w273 hD
  rcases q42 with s42 | x42
  ·
   obtain ⟨rfl, hD⟩ := hD
   obtain ⟨H270, v107, n108, cs109, o111, S271, i272, els110, hm112, k275, k276⟩ := hD
   replace hp := el_go hp
   refine FW.seq (FW.seq (FW.region ?_))
   refine FL.v (E.assign (v := Value.int .i64 0) rfl) ?_
   refine FL.v (E.assign (v := Value.int .i64 1) rfl) ?_
   refine FL.nil ?_
   obtain ⟨q277, hq, hp⟩ := bndR hp
   refine FW.block ?_
   refine FW.mono (FW.iter (S := ((List Int) × Int × (List (Int × Int)) × Int × Int)) (X := Empty) (fun (s277 : ((List Int) × Int × (List (Int × Int)) × Int × Int)) f w => ∃ H : GH, ∃ v756 : Value, ∃ n757 : Nat, ∃ cs758 : List Value, ∃ o760 : Obj, St Ha wa H w [.box b35 170 [v756, Value.map (some b29), Value.int .i64 s277.2.1], .row 173 1 v756 n757 cs758, .raw b29 o760] ∧ Inc H270 H ∧ Els (up wa.heap.size H) (eN .u16) 1 cs758 s277.1 ∧ MapOf (K := Int) (V := Int) (Value.int .u16) (Value.int .i64) o760 s277.2.2.1 ∧ f 1 = Value.int .i64 a1 ∧ f 5 = Value.pointer (some (⟨b35, 0, none⟩ : Addr)) ∧ f 8 = Value.int .i64 s277.2.2.2.1 ∧ f 9 = Value.int .i64 s277.2.2.2.2) (fun (q : Rs ((List Int) × Int × (List (Int × Int)) × Int × Int) Empty) e f w => match q with | .go s277 => e = Exit.exit 2 ∧ (∃ H : GH, ∃ v756 : Value, ∃ n757 : Nat, ∃ cs758 : List Value, ∃ o760 : Obj, St Ha wa H w [.box b35 170 [v756, Value.map (some b29), Value.int .i64 s277.2.1], .row 173 1 v756 n757 cs758, .raw b29 o760] ∧ Inc H270 H ∧ Els (up wa.heap.size H) (eN .u16) 1 cs758 s277.1 ∧ MapOf (K := Int) (V := Int) (Value.int .u16) (Value.int .i64) o760 s277.2.2.1 ∧ f 5 = Value.pointer (some (⟨b35, 0, none⟩ : Addr))) | .rt x => x.elim) hq ⟨_, _, _, _, _, S271, (Inc.rfl _), els110, hm112, k275, k276, rfl, rfl⟩ ?_) ?_
   ·
    clear hp hq
    rintro s277 f47 w46 ⟨H43, v756, n757, cs758, o760, S44, i45, els759, hm761, k48, k49, k50, k51⟩ o287 hp
    refine FW.seq (FW.seq (FW.region ?_))
    refine FL.v (E.move k50) ?_
    refine FL.v (E.move k49) ?_
    refine FL.v (E.nilCheck rfl) ?_
    refine FL.v (E.fieldAddr tf170_0 rfl) ?_
    refine FL.v (E.load rfl (run_load1 Tryz.isAgg168 (S44.box_now (i := 0) rfl) rfl)) ?_
    refine FL.v (E.lenO te168 rfl S44 (i := 1) rfl els759 (by decide)) ?_
    refine FL.v (E.lss rfl rfl) ?_
    refine FL.nil ?_
    rcases ifB hp with ⟨c52, hp⟩ | ⟨c52, hp⟩
    ·
     refine FW.condT rfl c52 ?_
     refine FW.skip (FW.seq (FW.block (FW.seq (FW.region ?_))))
     refine FL.v (E.move k49) ?_
     refine FL.v (E.nilCheck rfl) ?_
     refine FL.v (E.fieldAddr tf170_0 rfl) ?_
     refine FL.v (E.load rfl (run_load1 Tryz.isAgg168 (S44.box_now (i := 0) rfl) rfl)) ?_
     refine FL.v (E.lenO te168 rfl S44 (i := 1) rfl els759 (by decide)) ?_
     refine FL.v (E.assign (v := Value.int .i64 (len s277.1)) rfl) ?_
     refine FL.nil (FW.seq (FW.seq (FW.region ?_)))
     refine FL.v (E.move k50) ?_
     refine FL.v (E.assign (v := Value.int .i64 s277.2.2.2.1) rfl) ?_
     refine FL.nil ?_
     obtain ⟨q53, hq, hp⟩ := bndR hp
     refine FW.block ?_
     refine FW.mono (FW.iter (S := ((List Int) × Int × (List (Int × Int)) × Int)) (X := Empty) (fun (s53 : ((List Int) × Int × (List (Int × Int)) × Int)) f w => ∃ H : GH, ∃ v54 : Value, ∃ n55 : Nat, ∃ cs56 : List Value, ∃ o58 : Obj, St Ha wa H w [.box b35 170 [v54, Value.map (some b29), Value.int .i64 s53.2.1], .row 173 1 v54 n55 cs56, .raw b29 o58] ∧ Inc H43 H ∧ Els (up wa.heap.size H) (eN .u16) 1 cs56 s53.1 ∧ MapOf (K := Int) (V := Int) (Value.int .u16) (Value.int .i64) o58 s53.2.2.1 ∧ f 1 = Value.int .i64 a1 ∧ f 5 = Value.pointer (some (⟨b35, 0, none⟩ : Addr)) ∧ f 9 = Value.int .i64 s277.2.2.2.2 ∧ f 10 = Value.int .i64 (len s277.1) ∧ f 11 = Value.int .i64 s53.2.2.2) (fun (q : Rs ((List Int) × Int × (List (Int × Int)) × Int) Empty) e f w => match q with | .go s53 => e = Exit.exit 4 ∧ (∃ H : GH, ∃ v54 : Value, ∃ n55 : Nat, ∃ cs56 : List Value, ∃ o58 : Obj, St Ha wa H w [.box b35 170 [v54, Value.map (some b29), Value.int .i64 s53.2.1], .row 173 1 v54 n55 cs56, .raw b29 o58] ∧ Inc H43 H ∧ Els (up wa.heap.size H) (eN .u16) 1 cs56 s53.1 ∧ MapOf (K := Int) (V := Int) (Value.int .u16) (Value.int .i64) o58 s53.2.2.1 ∧ f 1 = Value.int .i64 a1 ∧ f 5 = Value.pointer (some (⟨b35, 0, none⟩ : Addr)) ∧ f 9 = Value.int .i64 s277.2.2.2.2 ∧ f 10 = Value.int .i64 (len s277.1)) | .rt x => x.elim) hq ⟨_, _, _, _, _, S44, (Inc.rfl _), els759, hm761, k48, k49, k51, rfl, rfl⟩ ?_) ?_
     ·
      clear hp hq
      rintro s53 f64 w63 ⟨H60, v54, n55, cs56, o58, S61, i62, els57, hm59, k65, k66, k67, k68, k69⟩ o268 hp
      refine FW.seq (FW.seq (FW.region ?_))
      refine FL.v (E.move k69) ?_
      refine FL.v (E.move k68) ?_
      refine FL.v (E.lss rfl rfl) ?_
      refine FL.nil ?_
      rcases ifB hp with ⟨c70, hp⟩ | ⟨c70, hp⟩
      ·
       refine FW.condT rfl c70 ?_
       refine FW.skip (FW.seq (FW.block (FW.seq (FW.region ?_))))
       refine FL.v (E.move k66) ?_
       refine FL.v (E.nilCheck rfl) ?_
       refine FL.v (E.fieldAddr tf170_0 rfl) ?_
       refine FL.v (E.load rfl (run_load1 Tryz.isAgg168 (S61.box_now (i := 0) rfl) rfl)) ?_
       refine FL.v (E.move k69) ?_
       obtain ⟨xs71, hc72, hp⟩ := bnd hp
       obtain ⟨v73, cs74, run75, S76, vw77, els78, vl79⟩ := S61.view te168 (kk := .i64) (i := 1) rfl els57 hc72
       refine FL.v (E.slice te168 rfl rfl (congrArg some rfl) rfl (run75 _)) ?_
       refine FL.v (E.len te168 rfl vl79.ln) ?_
       refine FL.v (E.move (v := Value.int .i64 0) rfl) ?_
       refine FL.nil ?_
       obtain ⟨q81, hq, hp⟩ := bndR hp
       refine FW.block ?_
       refine FW.mono (FW.forL (S := ((List Int) × Int × (List (Int × Int)))) (X := Empty) (fun (i81 : Nat) (s81 : ((List Int) × Int × (List (Int × Int)))) f w => ∃ H : GH, ∃ v82 : Value, ∃ n83 : Nat, ∃ cs84 : List Value, ∃ o86 : MO, ∃ o88 : Obj, St Ha wa H w [o86, .box b35 170 [v82, Value.map (some b29), Value.int .i64 s81.2.1], .row 173 1 v82 n83 cs84, .raw b29 o88] ∧ Inc H60 H ∧ Els (up wa.heap.size H) (eN .u16) 1 cs84 s81.1 ∧ View 1 v82 v73 cs84 cs74 o86 ∧ MapOf (K := Int) (V := Int) (Value.int .u16) (Value.int .i64) o88 s81.2.2 ∧ f 63 = Value.int .i64 ((i81 : Nat) : Int) ∧ f 1 = Value.int .i64 a1 ∧ f 5 = Value.pointer (some (⟨b35, 0, none⟩ : Addr)) ∧ f 9 = Value.int .i64 s277.2.2.2.2 ∧ f 10 = Value.int .i64 (len s277.1) ∧ f 11 = Value.int .i64 s53.2.2.2 ∧ f 61 = v73 ∧ f 62 = Value.int .i64 (len xs71)) (fun (q : Rs ((List Int) × Int × (List (Int × Int))) Empty) e f w => match q with | .go s81 => e = Exit.exit 6 ∧ (∃ H : GH, ∃ v82 : Value, ∃ n83 : Nat, ∃ cs84 : List Value, ∃ o86 : MO, ∃ o88 : Obj, St Ha wa H w [o86, .box b35 170 [v82, Value.map (some b29), Value.int .i64 s81.2.1], .row 173 1 v82 n83 cs84, .raw b29 o88] ∧ Inc H60 H ∧ Els (up wa.heap.size H) (eN .u16) 1 cs84 s81.1 ∧ View 1 v82 v73 cs84 cs74 o86 ∧ MapOf (K := Int) (V := Int) (Value.int .u16) (Value.int .i64) o88 s81.2.2 ∧ f 1 = Value.int .i64 a1 ∧ f 5 = Value.pointer (some (⟨b35, 0, none⟩ : Addr)) ∧ f 9 = Value.int .i64 s277.2.2.2.2 ∧ f 10 = Value.int .i64 (len s277.1) ∧ f 11 = Value.int .i64 s53.2.2.2) | .rt x => x.elim) hq ⟨_, _, _, _, _, _, S76, (Inc.rfl _), els57, vw77, hm59, rfl, k65, k66, k67, k68, k69, rfl, rfl⟩ ?_ ?_) ?_
       ·
        clear hp hq
        rintro i81 y80 s81 f94 w93 ⟨H90, v82, n83, cs84, o86, o88, S91, i92, els85, vw87, hm89, k95, k96, k97, k98, k99, k100, k101, k102⟩ hx81 o205 hp
        refine FW.seq (FW.region ?_)
        refine FL.v (E.lssT k95 k102 (lss_len hx81)) ?_
        refine FL.nil (FW.seq ?_)
        refine FW.condT rfl rfl ?_
        refine FW.skip (FW.seq (FW.block (FW.seq (FW.region ?_))))
        obtain ⟨p103, cs104, pt105, l106, at113, rel114⟩ := S91.view_at (i := 2) (q := 0) rfl rfl vw87 els78 (by decide) (ix_nat hx81)
        obtain rfl := eN_open rel114
        refine FL.v (E.indexAddr te168 k101 k95 pt105) ?_
        refine FL.v (E.load rfl (run_load0 Tryz.isAgg173 at113 rfl)) ?_
        refine FL.v (E.assign (v := Value.int .u16 y80) rfl) ?_
        refine FL.nil (FW.seq (FW.region ?_))
        refine FL.v (E.move k97) ?_
        refine FL.v (E.nilCheck rfl) ?_
        refine FL.v (E.fieldAddr tf170_0 rfl) ?_
        refine FL.v (E.load rfl (run_load1 Tryz.isAgg168 (S91.box_now (i := 1) rfl) rfl)) ?_
        refine FL.v (E.move k100) ?_
        obtain ⟨x121, hx122, hp⟩ := bnd hp
        obtain ⟨p115, cs116, pt117, l118, at119, rel120⟩ := S91.row_at (i := 2) rfl els85 (by decide) hx122
        obtain rfl := eN_open rel120
        refine FL.v (E.indexAddr te168 rfl rfl pt117) ?_
        refine FL.v (E.load rfl (run_load0 Tryz.isAgg173 at119 rfl)) ?_
        refine FL.v (E.assign (v := Value.int .u16 x121) rfl) ?_
        refine FL.nil (FW.seq (FW.region ?_))
        refine FL.v (E.move (v := Value.int .u16 x121) rfl) ?_
        refine FL.v (E.move (v := Value.int .u16 y80) rfl) ?_
        refine FL.call rfl rfl rfl (E.call Tryz.call175 (A2 rfl rfl)) (w_impl_bothOf S91.sl x121 y80) ?_
        rintro e w123 ⟨rfl, r124⟩
        refine ⟨_, rfl, ?_⟩
        have S125 := S91.call r124
        refine FL.v (E.assign (v := Value.int .u16 (PF.impl_bothOf x121 y80)) rfl) ?_
        refine FL.nil (FW.seq (FW.seq (FW.region ?_)))
        refine FL.v (E.move (v := Value.int .u16 (PF.impl_bothOf x121 y80)) rfl) ?_
        refine FL.call rfl rfl rfl (E.call Tryz.call176 (A1 rfl)) (w_impl_mask_one S125.sl (PF.impl_bothOf x121 y80)) ?_
        rintro e w126 ⟨rfl, r127⟩
        refine ⟨_, rfl, ?_⟩
        have S128 := S125.call r127
        refine FL.v (E.not rfl) ?_
        refine FL.nil ?_
        rcases ifB hp with ⟨c129, hp⟩ | ⟨c129, hp⟩
        ·
         refine FW.condT rfl c129 ?_
         refine FW.exit ?_
         refine FW.region ?_
         refine FL.v (E.add k95 rfl) ?_
         refine FL.v (E.move (v := Value.int .i64 (wr (((i81 : Nat) : Int) + 1))) rfl) ?_
         refine FL.nil ?_
         obtain rfl := Option.some.inj hp
         exact ⟨rfl, ⟨_, _, _, _, _, _, S128, i92, els85, vw87, hm89, (nat_succ rfl (lt_of_get hx81) vl79.le), k96, k97, k98, k99, k100, k101, k102⟩⟩
        ·
         refine FW.condF rfl c129 ?_
         refine FW.skip (FW.seq (FW.region ?_))
         refine FL.v (E.move (v := Value.int .u16 x121) rfl) ?_
         refine FL.v (E.move (v := Value.int .u16 y80) rfl) ?_
         refine FL.v (E.or rfl rfl) ?_
         refine FL.v (E.move (v := Value.int .u16 (PF.impl_bothOf x121 y80)) rfl) ?_
         refine FL.v (E.move (v := Value.int .u16 (PF.impl_bothOf x121 y80)) rfl) ?_
         refine FL.v (E.shl rfl rfl (by decide)) ?_
         refine FL.v (E.or rfl rfl) ?_
         refine FL.v (E.andNot rfl rfl) ?_
         refine FL.v (E.assign (v := Value.int .u16 (anK false 16 (orK false 16 x121 y80) (orK false 16 (PF.impl_bothOf x121 y80) (shlK false 16 (PF.impl_bothOf x121 y80) 6)))) rfl) ?_
         refine FL.nil (FW.seq (FW.region ?_))
         refine FL.v (E.move (v := Value.int .u16 (anK false 16 (orK false 16 x121 y80) (orK false 16 (PF.impl_bothOf x121 y80) (shlK false 16 (PF.impl_bothOf x121 y80) 6)))) rfl) ?_
         obtain ⟨r130, hr131, hp⟩ := bnd hp
         refine FL.call rfl rfl rfl (E.call Tryz.call177 (A1 rfl)) (w_impl_mask_count S128.sl (anK false 16 (orK false 16 x121 y80) (orK false 16 (PF.impl_bothOf x121 y80) (shlK false 16 (PF.impl_bothOf x121 y80) 6))) hr131) ?_
         rintro e w132 ⟨rfl, r133⟩
         refine ⟨_, rfl, ?_⟩
         have S134 := S128.call r133
         refine FL.v (E.move k96) ?_
         refine FL.v (E.leq rfl rfl) ?_
         refine FL.nil ?_
         rcases ifB hp with ⟨c135, hp⟩ | ⟨c135, hp⟩
         ·
          refine FW.condT rfl c135 ?_
          refine FW.region ?_
          refine FL.v (E.move k97) ?_
          refine FL.v (E.move (v := Value.int .u16 (anK false 16 (orK false 16 x121 y80) (orK false 16 (PF.impl_bothOf x121 y80) (shlK false 16 (PF.impl_bothOf x121 y80) 6)))) rfl) ?_
          refine FL.v (E.move k98) ?_
          obtain ⟨s136, hq136, hp⟩ := bnd hp
          obtain ⟨R136, hR136⟩ : ∃ R136 : ((List Int) × Int × (List (Int × Int))) → Ending → World → Prop, R136 = (fun s136 e w => ∃ H : GH, ∃ v137 : Value, ∃ n138 : Nat, ∃ cs139 : List Value, ∃ o141 : MO, ∃ o143 : Obj, e = Ending.returned (Value.tuple #[]) ∧ St Ha wa H w [o141, .box b35 170 [v137, Value.map (some b29), Value.int .i64 s136.2.1], .row 173 1 v137 n138 cs139, .raw b29 o143] ∧ Inc H90 H ∧ Els (up wa.heap.size H) (eN .u16) 1 cs139 s136.1 ∧ View 1 v137 v73 cs139 cs74 o141 ∧ MapOf (K := Int) (V := Int) (Value.int .u16) (Value.int .i64) o143 s136.2.2) := ⟨_, rfl⟩
          have hc136 : Calls Tryz.prog 173 #[Value.pointer (some (⟨b35, 0, none⟩ : Addr)), Value.int .u16 (anK false 16 (orK false 16 x121 y80) (orK false 16 (PF.impl_bothOf x121 y80) (shlK false 16 (PF.impl_bothOf x121 y80) 6))), Value.int .i64 s277.2.2.2.2] w132 (R136 s136) := by
           clear hp; have hp := hq136; clear hq136
           refine calls_go (N := 39) (args := [Value.pointer (some (⟨b35, 0, none⟩ : Addr)), Value.int .u16 (anK false 16 (orK false 16 x121 y80) (orK false 16 (PF.impl_bothOf x121 y80) (shlK false 16 (PF.impl_bothOf x121 y80) 6))), Value.int .i64 s277.2.2.2.2]) Tryz.func173 rfl rfl rfl ?_
           refine FW.seq (FW.region ?_)
           refine FL.v (E.move (v := Value.pointer (some (⟨b35, 0, none⟩ : Addr))) rfl) ?_
           refine FL.v (E.nilCheck rfl) ?_
           refine FL.v (E.fieldAddr tf170_1 rfl) ?_
           refine FL.v (E.load rfl (run_load1 Tryz.isAgg167 (S134.box_now (i := 1) rfl) rfl)) ?_
           refine FL.v (E.move (v := Value.int .u16 (anK false 16 (orK false 16 x121 y80) (orK false 16 (PF.impl_bothOf x121 y80) (shlK false 16 (PF.impl_bothOf x121 y80) 6)))) rfl) ?_
           refine FL.v (E.lookup rfl rfl (S134.mapGetOk (P := Tryz.prog) (i := 3) rfl hm89 Tryz.runUnderlying167 (KeyNow.intk Tryz.runUnderlying173) (z := 0) Tryz.zeroValue3 (anK false 16 (orK false 16 x121 y80) (orK false 16 (PF.impl_bothOf x121 y80) (shlK false 16 (PF.impl_bothOf x121 y80) 6))))) ?_
           refine FL.v (E.move (v := Value.tuple #[Value.int .i64 ((mget s81.2.2 (anK false 16 (orK false 16 x121 y80) (orK false 16 (PF.impl_bothOf x121 y80) (shlK false 16 (PF.impl_bothOf x121 y80) 6)))).getD 0), Value.bool ((mget s81.2.2 (anK false 16 (orK false 16 x121 y80) (orK false 16 (PF.impl_bothOf x121 y80) (shlK false 16 (PF.impl_bothOf x121 y80) 6)))).isSome)]) rfl) ?_
           refine FL.v (E.extract (i := 0) rfl rfl) ?_
           refine FL.v (E.extract (i := 1) rfl rfl) ?_
           refine FL.v (E.assign (v := Value.int .i64 ((mget s81.2.2 (anK false 16 (orK false 16 x121 y80) (orK false 16 (PF.impl_bothOf x121 y80) (shlK false 16 (PF.impl_bothOf x121 y80) 6)))).getD 0)) rfl) ?_
           refine FL.v (E.assign (v := Value.bool ((mget s81.2.2 (anK false 16 (orK false 16 x121 y80) (orK false 16 (PF.impl_bothOf x121 y80) (shlK false 16 (PF.impl_bothOf x121 y80) 6)))).isSome)) rfl) ?_
           refine FL.nil (FW.seq (FW.region ?_))
           refine FL.v (E.move (v := Value.bool ((mget s81.2.2 (anK false 16 (orK false 16 x121 y80) (orK false 16 (PF.impl_bothOf x121 y80) (shlK false 16 (PF.impl_bothOf x121 y80) 6)))).isSome)) rfl) ?_
           refine FL.v (E.not rfl) ?_
           refine FL.nil ?_
           rcases ifB hp with ⟨c145, hp⟩ | ⟨c145, hp⟩
           ·
            refine FW.condT rfl c145 ?_
            refine FW.seq (FW.region ?_)
            refine FL.v (E.move (v := Value.pointer (some (⟨b35, 0, none⟩ : Addr))) rfl) ?_
            refine FL.v (E.nilCheck rfl) ?_
            refine FL.v (E.fieldAddr tf170_1 rfl) ?_
            refine FL.v (E.load rfl (run_load1 Tryz.isAgg167 (S134.box_now (i := 1) rfl) rfl)) ?_
            refine FL.v (E.move (v := Value.int .u16 (anK false 16 (orK false 16 x121 y80) (orK false 16 (PF.impl_bothOf x121 y80) (shlK false 16 (PF.impl_bothOf x121 y80) 6)))) rfl) ?_
            refine FL.v (E.move (v := Value.int .i64 s277.2.2.2.2) rfl) ?_
            obtain ⟨o146, w147, run148, S149, hm150⟩ := S134.mapPut (P := Tryz.prog) (i := 3) rfl hm89 Tryz.runUnderlying167 (KeyNow.intk Tryz.runUnderlying173) (anK false 16 (orK false 16 x121 y80) (orK false 16 (PF.impl_bothOf x121 y80) (shlK false 16 (PF.impl_bothOf x121 y80) 6))) s277.2.2.2.2
            have S149 : St Ha wa H90 w147 [o86, .box b35 170 [v82, Value.map (some b29), Value.int .i64 s81.2.1], .row 173 1 v82 n83 cs84, .raw b29 o146] := S149
            refine FL.act rfl rfl (E.mapUpdate rfl rfl rfl run148) ?_
            refine FL.nil (FW.seq (FW.region ?_))
            refine FL.v (E.move (v := Value.pointer (some (⟨b35, 0, none⟩ : Addr))) rfl) ?_
            refine FL.v (E.move (v := Value.pointer (some (⟨b35, 0, none⟩ : Addr))) rfl) ?_
            refine FL.v (E.nilCheck rfl) ?_
            refine FL.v (E.fieldAddr tf170_0 rfl) ?_
            refine FL.v (E.load rfl (run_load1 Tryz.isAgg168 (S149.box_now (i := 1) rfl) rfl)) ?_
            refine FL.v (E.move (v := Value.int .u16 (anK false 16 (orK false 16 x121 y80) (orK false 16 (PF.impl_bothOf x121 y80) (shlK false 16 (PF.impl_bothOf x121 y80) 6)))) rfl) ?_
            obtain ⟨v151, w152, run153, S154⟩ := S149.buildSlice (P := Tryz.prog) te168 [Value.int .u16 (anK false 16 (orK false 16 x121 y80) (orK false 16 (PF.impl_bothOf x121 y80) (shlK false 16 (PF.impl_bothOf x121 y80) 6)))] (parts := #[(0, Value.int .u16 (anK false 16 (orK false 16 x121 y80) (orK false 16 (PF.impl_bothOf x121 y80) (shlK false 16 (PF.impl_bothOf x121 y80) 6))))]) (cells := [Value.int .u16 (anK false 16 (orK false 16 x121 y80) (orK false 16 (PF.impl_bothOf x121 y80) (shlK false 16 (PF.impl_bothOf x121 y80) 6)))]) rfl (szs_cons rfl szs_nil) (fc_cons rfl fc_nil) (ones_cons rfl ones_nil) (Nat.le_of_ble_eq_true rfl)
            have els155 : Els (up wa.heap.size H90) (eN .u16) 1 [Value.int .u16 (anK false 16 (orK false 16 x121 y80) (orK false 16 (PF.impl_bothOf x121 y80) (shlK false 16 (PF.impl_bothOf x121 y80) 6)))] [(anK false 16 (orK false 16 x121 y80) (orK false 16 (PF.impl_bothOf x121 y80) (shlK false 16 (PF.impl_bothOf x121 y80) 6)))] := (Els.snoc (H := (up wa.heap.size H90)) (E := (eN .u16)) (k := 1) (c := [Value.int .u16 (anK false 16 (orK false 16 x121 y80) (orK false 16 (PF.impl_bothOf x121 y80) (shlK false 16 (PF.impl_bothOf x121 y80) 6)))]) (x := (anK false 16 (orK false 16 x121 y80) (orK false 16 (PF.impl_bothOf x121 y80) (shlK false 16 (PF.impl_bothOf x121 y80) 6)))) Els.nil rfl rfl)
            refine FL.v (E.buildSlice (B1 rfl) run153) ?_
            obtain ⟨xs156, hz157, hp⟩ := bnd hp
            obtain ⟨v158, w161, n159, cs160, o166, run162, S163, els164, ce165, vw167⟩ := S154.appendVO (P := Tryz.prog) te168 (i := 3) (j := 0) (q := 1) rfl els85 rfl els155 hz157 rfl vw87
            have S163 : St Ha wa H90 w161 [.row 173 1 v151 1 [Value.int .u16 (anK false 16 (orK false 16 x121 y80) (orK false 16 (PF.impl_bothOf x121 y80) (shlK false 16 (PF.impl_bothOf x121 y80) 6)))], o166, .box b35 170 [v82, Value.map (some b29), Value.int .i64 s81.2.1], .row 173 1 v158 n159 cs160, .raw b29 o146] := S163
            have S169 : St Ha wa H90 w161 [o166, .box b35 170 [v82, Value.map (some b29), Value.int .i64 s81.2.1], .row 173 1 v158 n159 cs160, .raw b29 o146] := S163.drop 0
            refine FL.v (E.append rfl rfl run162) ?_
            refine FL.v (E.nilCheck rfl) ?_
            refine FL.v (E.fieldAddr tf170_0 rfl) ?_
            obtain ⟨w171, run172, S173⟩ := S169.store (P := Tryz.prog) (t := 168) (i := 1) (j := 0) (cs' := [v158, Value.map (some b29), Value.int .i64 s81.2.1]) (l' := [o166, .box b35 170 [v158, Value.map (some b29), Value.int .i64 s81.2.1], .row 173 1 v158 n159 cs160, .raw b29 o146]) (v := v158) (c := [v158]) rfl Tryz.sizeOf168 (Ln.cells (S169.row_ln (i := 2) rfl)) rfl (ones_cons (Ln.one (S169.row_ln (i := 2) rfl)) ones_nil) (Nat.le_of_ble_eq_true rfl) rfl rfl
            refine FL.act rfl rfl (E.store rfl rfl run172) ?_
            refine FL.nil (FW.region ?_)
            refine FL.v (E.move (v := Value.pointer (some (⟨b35, 0, none⟩ : Addr))) rfl) ?_
            refine FL.v (E.move (v := Value.int .i64 s277.2.2.2.2) rfl) ?_
            refine FL.v (E.nilCheck rfl) ?_
            refine FL.v (E.fieldAddr tf170_2 rfl) ?_
            obtain ⟨w174, run175, S176⟩ := S173.store (P := Tryz.prog) (t := 3) (i := 1) (j := 2) (cs' := [v158, Value.map (some b29), Value.int .i64 s277.2.2.2.2]) (l' := [o166, .box b35 170 [v158, Value.map (some b29), Value.int .i64 s277.2.2.2.2], .row 173 1 v158 n159 cs160, .raw b29 o146]) (v := Value.int .i64 s277.2.2.2.2) (c := [Value.int .i64 s277.2.2.2.2]) rfl Tryz.sizeOf3 rfl rfl (ones_cons rfl ones_nil) (Nat.le_of_ble_eq_true rfl) rfl rfl
            refine FL.act rfl rfl (E.store rfl rfl run175) ?_
            refine FL.nil ?_
            obtain rfl := Option.some.inj hp
            exact ⟨.inl rfl, res0 rfl (by rw [hR136]; exact ⟨_, _, _, _, _, _, rfl, S176, (Inc.rfl _), els164, vw167, hm150⟩)⟩
           ·
            refine FW.condF rfl c145 ?_
            refine FW.skip ?_
            obtain rfl := Option.some.inj hp
            exact ⟨.inl rfl, res0 rfl (by rw [hR136]; exact ⟨_, _, _, _, _, _, rfl, S134, (Inc.rfl _), els85, vw87, hm89⟩)⟩
          clear hq136
          refine FL.call rfl rfl rfl (E.call Tryz.call173 (A3 rfl rfl rfl)) hc136 ?_
          intro e w204 hQ136
          rw [hR136] at hQ136
          obtain ⟨H201, v137, n138, cs139, o141, o143, rfl, S202, i203, els140, vw142, hm144⟩ := hQ136
          refine ⟨_, rfl, ?_⟩
          refine FL.nil (FW.region ?_)
          refine FL.v (E.add k95 rfl) ?_
          refine FL.v (E.move (v := Value.int .i64 (wr (((i81 : Nat) : Int) + 1))) rfl) ?_
          refine FL.nil ?_
          obtain rfl := Option.some.inj hp
          exact ⟨rfl, ⟨_, _, _, _, _, _, S202, (i92.tr i203), els140, vw142, hm144, (nat_succ rfl (lt_of_get hx81) vl79.le), k96, k97, k98, k99, k100, k101, k102⟩⟩
         ·
          refine FW.condF rfl c135 ?_
          refine FW.skip (FW.region ?_)
          refine FL.v (E.add k95 rfl) ?_
          refine FL.v (E.move (v := Value.int .i64 (wr (((i81 : Nat) : Int) + 1))) rfl) ?_
          refine FL.nil ?_
          obtain rfl := Option.some.inj hp
          exact ⟨rfl, ⟨_, _, _, _, _, _, S134, i92, els85, vw87, hm89, (nat_succ rfl (lt_of_get hx81) vl79.le), k96, k97, k98, k99, k100, k101, k102⟩⟩
       ·
        clear hp hq
        rintro s81 f220 w219 ⟨H216, v82, n83, cs84, o86, o88, S217, i218, els85, vw87, hm89, k221, k222, k223, k224, k225, k226, k227, k228⟩
        refine FW.seq (FW.region ?_)
        refine FL.v (E.lss k221 k228) ?_
        refine FL.nil (FW.seq ?_)
        refine FW.condF rfl dlt_len ?_
        refine FW.exit ?_
        exact ⟨nofun, rfl, ⟨_, _, _, _, _, _, S217, i218, els85, vw87, hm89, k222, k223, k224, k225, k226⟩⟩
       ·
        clear hq
        intro e f210 w209 hD
        rcases q81 with s81 | x81
        ·
         obtain ⟨rfl, hD⟩ := hD
         obtain ⟨H206, v82, n83, cs84, o86, o88, S207, i208, els85, vw87, hm89, k211, k212, k213, k214, k215⟩ := hD
         replace hp := el_go hp
         refine FW.region ?_
         refine FL.v (E.move k215) ?_
         refine FL.v (E.add rfl rfl) ?_
         refine FL.v (E.assign (v := Value.int .i64 (wr (s53.2.2.2 + 1))) rfl) ?_
         refine FL.nil ?_
         obtain rfl := Option.some.inj hp
         exact ⟨rfl, ⟨_, _, _, _, _, (S207.sel [1, 2, 3] (by decide) rfl), (i62.tr i208), els85, hm89, k211, k212, k213, k214, rfl⟩⟩
        ·
         exact x81.elim
      ·
       refine FW.condF rfl c70 ?_
       refine FW.exit ?_
       obtain rfl := Option.some.inj hp
       exact ⟨nofun, rfl, ⟨_, _, _, _, _, S61, i62, els57, hm59, k65, k66, k67, k68⟩⟩
     ·
      clear hq
      intro e f282 w281 hD
      rcases q53 with s53 | x53
      ·
       obtain ⟨rfl, hD⟩ := hD
       obtain ⟨H278, v54, n55, cs56, o58, S279, i280, els57, hm59, k283, k284, k285, k286⟩ := hD
       replace hp := el_go hp
       refine FW.region ?_
       refine FL.v (E.move k286) ?_
       refine FL.v (E.assign (v := Value.int .i64 (len s277.1)) rfl) ?_
       refine FL.nil (FW.region ?_)
       refine FL.v (E.move k285) ?_
       refine FL.v (E.add rfl rfl) ?_
       refine FL.v (E.assign (v := Value.int .i64 (wr (s277.2.2.2.2 + 1))) rfl) ?_
       refine FL.nil ?_
       obtain rfl := Option.some.inj hp
       exact ⟨rfl, ⟨_, _, _, _, _, S279, (i45.tr i280), els57, hm59, k283, k284, rfl, rfl⟩⟩
      ·
       exact x53.elim
    ·
     refine FW.condF rfl c52 ?_
     refine FW.exit ?_
     obtain rfl := Option.some.inj hp
     exact ⟨nofun, rfl, ⟨_, _, _, _, _, S44, i45, els759, hm761, k49⟩⟩
   ·
    clear hq
    intro e f292 w291 hD
    rcases q277 with s277 | x277
    ·
     obtain ⟨rfl, hD⟩ := hD
     obtain ⟨H288, v756, n757, cs758, o760, S289, i290, els759, hm761, k293⟩ := hD
     replace hp := el_go hp
     refine FW.seq (FW.region ?_)
     refine FL.v (E.move k293) ?_
     refine FL.v (E.assign (v := Value.pointer (some (⟨b35, 0, none⟩ : Addr))) rfl) ?_
     refine FL.nil ?_
     refine FW.ret ?_
     obtain ⟨H294, S295, i296, h297, nv298⟩ := S289.sealRowU (i := 1) (l' := [.box b35 170 [v756, Value.map (some b29), Value.int .i64 s277.2.1], .raw b29 o760]) rfl els759 (by decide) rfl
     obtain ⟨H299, S300, i301, h302⟩ := S295.sealMap (i := 1) (l' := [.box b35 170 [v756, Value.map (some b29), Value.int .i64 s277.2.1]]) rfl hm761 rfl
     obtain ⟨H303, S304, i305, at306⟩ := S300.sealBox (i := 0) (l' := []) rfl rfl
     obtain rfl := Option.some.inj hp
     exact ⟨.inr rfl, res1 rfl rfl ⟨_, _, rfl, S304.run, ⟨_, rfl, _, _, (h297.mono (up_mono (i301.tr i305))), (h302.mono i305), at306⟩⟩⟩
    ·
     exact x277.elim
  ·
   exact x42.elim

theorem w_impl_closure_round {Ha : GH} {wa : World} (hs : Sl Ha wa) (q0P : Addr) (a0 : closure) (v0P_0 : Value) (v0P_1 : Value) (p0P_0 : RSl Ha (eN .u16) 1 v0P_0 a0.masks) (p0P_1 : MAt (K := Int) (V := Int) Ha (Value.int .u16) (Value.int .i64) v0P_1 a0.rounds) (c0P : CAt Ha q0P [v0P_0, v0P_1, Value.int .i64 a0.last]) (v1 : Value) (a1 : List Int) (p1 : RSl Ha eI 1 v1 a1) {r : Int} (hp : (PF.impl_closure_round a0 a1) = some r) :
  Calls Tryz.prog 86 #[Value.pointer (some q0P), v1] wa (Sc Ha wa (Value.int .i64 r)) := by
 unfold PF.impl_closure_round at hp
 have S0 := St.init hs
 refine calls_go (N := 19) (args := [Value.pointer (some q0P), v1]) Tryz.func86 rfl rfl rfl ?_
 refine FW.seq (FW.region ?_)
 refine FL.v (E.assign (v := Value.int .i64 0) rfl) ?_
 refine FL.nil (FW.seq (FW.seq ?_))
 refine FW.draw (fun w' => Run wa.heap.size Ha wa Ha w') (by kernel_rfl) (by kernel_rfl) (run_drew S0.sl) ?_
 refine FD.val rfl rfl rfl (fun w' hw' => (E.move (v := Value.pointer (some q0P)) rfl)) ?_
 refine FD.val rfl rfl rfl (fun w' hw' => (E.nilCheck rfl)) ?_
 refine FD.val rfl rfl rfl (fun w' hw' => (E.fieldAddr tf170_1 rfl)) ?_
 refine FD.val rfl rfl rfl (fun w' hw' => (E.load rfl (run_load1 Tryz.isAgg167 (c0P.now (S0.call hw').sl) rfl))) ?_
 refine FD.val rfl rfl rfl (fun w' hw' => (E.move (v := v1) rfl)) ?_
 obtain ⟨r22, hr23, hp⟩ := bnd hp
 refine FD.call rfl rfl rfl (fun w' hw' => (E.call Tryz.call174 (A1 rfl))) (fun w' hw' => Calls.cls hw' (w_impl_maskOf (S0.call hw').sl v1 a1 p1 hr23)) ?_
 refine FD.val rfl rfl rfl (fun w' hw' => (E.lookup rfl rfl (p0P_1.getOk (P := Tryz.prog) (S0.call hw').sl Tryz.runUnderlying167 (KeyNow.intk Tryz.runUnderlying173) (z := 0) Tryz.zeroValue3 r22))) ?_
 refine FD.val rfl rfl rfl (fun w' hw' => (E.move (v := Value.tuple #[Value.int .i64 ((mget a0.rounds r22).getD 0), Value.bool ((mget a0.rounds r22).isSome)]) rfl)) ?_
 refine FD.val rfl rfl rfl (fun w' hw' => (E.extract (i := 0) rfl rfl)) ?_
 refine FD.val rfl rfl rfl (fun w' hw' => (E.extract (i := 1) rfl rfl)) ?_
 refine FD.val rfl rfl rfl (fun w' hw' => (E.assign (v := Value.int .i64 ((mget a0.rounds r22).getD 0)) rfl)) ?_
 refine FD.val rfl rfl rfl (fun w' hw' => (E.assign (v := Value.bool ((mget a0.rounds r22).isSome)) rfl)) ?_
 refine FD.nil ?_
 intro w24 r26
 have S25 := S0.call r26
 refine FW.seq (FW.region ?_)
 refine FL.v (E.move (v := Value.bool ((mget a0.rounds r22).isSome)) rfl) ?_
 refine FL.nil ?_
 rcases ifB hp with ⟨c27, hp⟩ | ⟨c27, hp⟩
 ·
  refine FW.condT rfl c27 ?_
  refine FW.seq (FW.region ?_)
  refine FL.v (E.move (v := Value.int .i64 ((mget a0.rounds r22).getD 0)) rfl) ?_
  refine FL.v (E.assign (v := Value.int .i64 ((mget a0.rounds r22).getD 0)) rfl) ?_
  refine FL.nil ?_
  refine FW.ret ?_
  obtain rfl := Option.some.inj hp
  exact ⟨.inr rfl, res1 rfl rfl ⟨rfl, S25.back⟩⟩
 ·
  refine FW.condF rfl c27 ?_
  refine FW.skip (FW.seq (FW.region ?_))
  refine FL.v (E.assign (v := Value.int .i64 (-1)) rfl) ?_
  refine FL.nil ?_
  refine FW.ret ?_
  obtain rfl := Option.some.inj hp
  exact ⟨.inr rfl, res1 rfl rfl ⟨rfl, S25.back⟩⟩

theorem w_impl_narrow {Ha : GH} {wa : World} (hs : Sl Ha wa) (a0 : Cnf) (v0_1 : Value) (p0_1 : RSl Ha (eL eI 1) 1 v0_1 a0.clauses) (a1 : Int) {r : Bool} (hp : (PF.impl_narrow a0 a1) = some r) :
  Calls Tryz.prog 115 #[Value.agg #[Value.int .i64 a0.vars, v0_1], Value.int .i64 a1] wa (Sc Ha wa (Value.bool r)) := by
 unfold PF.impl_narrow at hp
 have S0 := St.init hs
 refine calls_go (N := 10) (args := [Value.agg #[Value.int .i64 a0.vars, v0_1], Value.int .i64 a1]) Tryz.func115 rfl rfl rfl ?_
 refine FW.seq (FW.region ?_)
 obtain ⟨b21, w22, run23, S24⟩ := S0.box (P := Tryz.prog) 30 [Value.int .i64 a0.vars, v0_1] (v := Value.agg #[Value.int .i64 a0.vars, v0_1]) rfl (ones_cons rfl (ones_cons p0_1.one ones_nil))
 refine FL.v (E.box rfl run23) ?_
 obtain ⟨H25, S26, i27, at28⟩ := S24.sealBox (i := 0) (l' := []) rfl rfl
 refine FL.v (E.assign (v := Value.bool false) rfl) ?_
 refine FL.nil (FW.seq (FW.region ?_))
 refine FL.v (E.load rfl (run_loadA Tryz.isAgg30 Tryz.sizeOf30 (at28.now S26.sl) rfl)) ?_
 refine FL.v (E.move (v := Value.int .i64 a1) rfl) ?_
 obtain ⟨r29, hr30, hp⟩ := bnd hp
 refine FL.call rfl rfl rfl (E.call Tryz.call85 (A2 rfl rfl)) (w_impl_closureOf S26.sl a0 v0_1 (p0_1.mono i27) a1 hr30) ?_
 rintro e w32 ⟨H31, v35, rfl, r34, h36⟩
 refine ⟨_, rfl, ?_⟩
 have S33 := S26.call r34
 obtain ⟨y37, hy38, hp⟩ := bnd hp
 rw [hy38] at h36
 obtain ⟨q39, rfl, v40, v43, h41, h44, at45⟩ := h36
 have nv42 : New H25 [v40] := New.of_up S26.sl h41.dom
 have h41 := h41.mono (up_le S26.size)
 obtain ⟨r46, hr47, hp⟩ := bnd hp
 refine FL.call rfl rfl rfl (E.call Tryz.call86 (A2 rfl rfl)) (w_impl_closure_round S33.sl q39 y37 v40 v43 (h41.mono upI) h44 at45 _ [] (RSl.nil _ _ _) hr47) ?_
 rintro e w48 ⟨rfl, r49⟩
 refine ⟨_, rfl, ?_⟩
 have S50 := S33.call r49
 refine FL.v (E.geq rfl rfl) ?_
 refine FL.v (E.assign (v := Value.bool (decide (0 ≤ r46))) rfl) ?_
 refine FL.nil ?_
 refine FW.ret ?_
 obtain rfl := Option.some.inj hp
 exact ⟨.inr rfl, res1 rfl rfl ⟨rfl, S50.back⟩⟩

set_option maxHeartbeats 4000000 in
theorem w_impl_LeastWidth {Ha : GH} {wa : World} (hs : Sl Ha wa) (a0 : Cnf) (v0_1 : Value) (p0_1 : RSl Ha (eL eI 1) 1 v0_1 a0.clauses) {r : (Int × Bool)} (hp : (PF.impl_LeastWidth a0) = some r) :
  Calls Tryz.prog 75 #[Value.agg #[Value.int .i64 a0.vars, v0_1]] wa (Sc Ha wa (Value.tuple #[Value.int .i64 r.1, Value.bool r.2])) := by
 unfold PF.impl_LeastWidth at hp
 have S0 := St.init hs
 refine calls_go (N := 16) (args := [Value.agg #[Value.int .i64 a0.vars, v0_1]]) Tryz.func75 rfl rfl rfl ?_
 refine FW.seq (FW.region ?_)
 obtain ⟨b21, w22, run23, S24⟩ := S0.box (P := Tryz.prog) 30 [Value.int .i64 a0.vars, v0_1] (v := Value.agg #[Value.int .i64 a0.vars, v0_1]) rfl (ones_cons rfl (ones_cons p0_1.one ones_nil))
 refine FL.v (E.box rfl run23) ?_
 obtain ⟨H25, S26, i27, at28⟩ := S24.sealBox (i := 0) (l' := []) rfl rfl
 refine FL.v (E.assign (v := Value.int .i64 0) rfl) ?_
 refine FL.v (E.assign (v := Value.bool false) rfl) ?_
 refine FL.nil (FW.seq (FW.seq (FW.region ?_)))
 refine FL.v (E.load rfl (run_loadA Tryz.isAgg30 Tryz.sizeOf30 (at28.now S26.sl) rfl)) ?_
 obtain ⟨r29, hr30, hp⟩ := bnd hp
 refine FL.call rfl rfl rfl (E.call Tryz.call83 (A2 rfl rfl)) (w_impl_narrowOk S26.sl a0 v0_1 (p0_1.mono i27) 0 hr30) ?_
 rintro e w31 ⟨rfl, r32⟩
 refine ⟨_, rfl, ?_⟩
 have S33 := S26.call r32
 refine FL.v (E.not rfl) ?_
 refine FL.nil ?_
 rcases ifB hp with ⟨c34, hp⟩ | ⟨c34, hp⟩
 ·
  refine FW.condT rfl c34 ?_
  refine FW.seq (FW.region ?_)
  refine FL.v (E.assign (v := Value.int .i64 0) rfl) ?_
  refine FL.v (E.assign (v := Value.bool false) rfl) ?_
  refine FL.nil ?_
  refine FW.ret ?_
  obtain rfl := Option.some.inj hp
  exact ⟨.inr rfl, res2 rfl rfl rfl ⟨rfl, S33.back⟩⟩
 ·
  refine FW.condF rfl c34 ?_
  refine FW.skip (FW.seq (FW.seq (FW.region ?_)))
  refine FL.v (E.assign (v := Value.int .i64 0) rfl) ?_
  refine FL.nil ?_
  obtain ⟨q35, hq, hp⟩ := bndR hp
  refine FW.block ?_
  refine FW.mono (FW.iter (S := Int) (X := (Int × Bool)) (fun (s35 : Int) f w => ∃ H : GH, St Ha wa H w [] ∧ Inc H25 H ∧ f 1 = Value.pointer (some ⟨b21, 0, none⟩) ∧ f 4 = Value.int .i64 s35) (fun q e f w => match q with | .go s35 => e = Exit.exit 0 ∧ (∃ H : GH, St Ha wa H w [] ∧ Inc H25 H) | .rt x => ((e = Exit.ret) ∧ (fun e f w => (e = Exit.normal ∨ e = Exit.ret) ∧ ∀ a, Fr (δ := []) 16 a f → ∃ v, (results Tryz.f75 a.tmps).run Tryz.prog w = .ok v w ∧ (Sc Ha wa (Value.tuple #[Value.int .i64 x.1, Value.bool x.2])) (.returned v) w) e f w)) hq ⟨_, S33, (Inc.rfl _), rfl, rfl⟩ ?_) ?_
  ·
   clear hp hq
   rintro s35 f54 w53 ⟨H50, S51, i52, k55, k56⟩ o64 hp
   refine FW.seq (FW.seq (FW.region ?_))
   refine FL.v (E.move k56) ?_
   refine FL.v (E.leq rfl rfl) ?_
   refine FL.nil ?_
   rcases ifB hp with ⟨c57, hp⟩ | ⟨c57, hp⟩
   ·
    refine FW.condT rfl c57 ?_
    refine FW.skip (FW.seq (FW.block (FW.seq (FW.region ?_))))
    refine FL.v (E.load k55 (run_loadA Tryz.isAgg30 Tryz.sizeOf30 ((at28.mono i52).now S51.sl) rfl)) ?_
    refine FL.v (E.move k56) ?_
    obtain ⟨r58, hr59, hp⟩ := bnd hp
    refine FL.call rfl rfl rfl (E.call Tryz.call115 (A2 rfl rfl)) (w_impl_narrow S51.sl a0 v0_1 (p0_1.mono (i27.tr i52)) s35 hr59) ?_
    rintro e w60 ⟨rfl, r61⟩
    refine ⟨_, rfl, ?_⟩
    have S62 := S51.call r61
    refine FL.nil ?_
    rcases ifB hp with ⟨c63, hp⟩ | ⟨c63, hp⟩
    ·
     refine FW.condT rfl c63 ?_
     refine FW.seq (FW.region ?_)
     refine FL.v (E.move k56) ?_
     refine FL.v (E.assign (v := Value.int .i64 s35) rfl) ?_
     refine FL.v (E.assign (v := Value.bool true) rfl) ?_
     refine FL.nil ?_
     refine FW.ret ?_
     obtain rfl := Option.some.inj hp
     exact ⟨nofun, rfl, ⟨.inr rfl, res2 rfl rfl rfl ⟨rfl, S62.back⟩⟩⟩
    ·
     refine FW.condF rfl c63 ?_
     refine FW.skip (FW.region ?_)
     refine FL.v (E.move k56) ?_
     refine FL.v (E.add rfl rfl) ?_
     refine FL.v (E.assign (v := Value.int .i64 (wr (s35 + 1))) rfl) ?_
     refine FL.nil ?_
     obtain rfl := Option.some.inj hp
     exact ⟨rfl, ⟨_, S62, i52, k55, rfl⟩⟩
   ·
    refine FW.condF rfl c57 ?_
    refine FW.exit ?_
    obtain rfl := Option.some.inj hp
    exact ⟨nofun, rfl, ⟨_, S51, i52⟩⟩
  ·
   clear hq
   intro e f69 w68 hD
   rcases q35 with s35 | x35
   ·
    obtain ⟨rfl, hD⟩ := hD
    obtain ⟨H65, S66, i67⟩ := hD
    replace hp := el_go hp
    refine FW.seq (FW.region ?_)
    refine FL.v (E.assign (v := Value.int .i64 0) rfl) ?_
    refine FL.v (E.assign (v := Value.bool false) rfl) ?_
    refine FL.nil ?_
    refine FW.ret ?_
    obtain rfl := Option.some.inj hp
    exact ⟨.inr rfl, res2 rfl rfl rfl ⟨rfl, S66.back⟩⟩
   ·
    obtain ⟨he, hL⟩ := hD
    replace hp := el_rt hp
    obtain rfl := Option.some.inj hp
    subst he
    exact hL

@[reducible] def p_impl_mask_clause (Ha : GH) (wa : World) (r : (List Int)) : Ending → World → Prop :=
 fun e w' => ∃ H' : GH, ∃ v0 : Value, ∃ n0 : Nat, ∃ c0 : List Value, e = .returned (v0) ∧ St Ha wa H' w' [.row 3 1 v0 n0 c0] ∧ Els (up wa.heap.size H') eI 1 c0 r
set_option maxHeartbeats 4000000 in
theorem w_impl_mask_clause {Ha : GH} {wa : World} (hs : Sl Ha wa) (a0 : Int) {r : (List Int)} (hp : (PF.impl_mask_clause a0) = some r) :
  Calls Tryz.prog 219 #[Value.int .u16 a0] wa (p_impl_mask_clause Ha wa r) := by
 unfold PF.impl_mask_clause at hp
 have S0 := St.init hs
 refine calls_go (N := 32) (args := [Value.int .u16 a0]) Tryz.func219 rfl rfl rfl ?_
 refine FW.seq (FW.region ?_)
 refine FL.v (E.assign (v := Value.slice none 0 0) rfl) ?_
 refine FL.nil (FW.seq (FW.region ?_))
 refine FL.v (E.assign (v := Value.slice none 0 0) rfl) ?_
 refine FL.nil (FW.seq (FW.seq (FW.region ?_)))
 refine FL.v (E.assign (v := Value.int .i64 1) rfl) ?_
 refine FL.nil ?_
 obtain ⟨q21, hq, hp⟩ := bndR hp
 refine FW.block ?_
 refine FW.mono (FW.iter (S := ((List Int) × Int)) (X := Empty) (fun (s21 : ((List Int) × Int)) f w => ∃ H : GH, ∃ v22 : Value, ∃ n23 : Nat, ∃ cs24 : List Value, St Ha wa H w [.row 3 1 v22 n23 cs24] ∧ Inc Ha H ∧ Els (up wa.heap.size H) eI 1 cs24 s21.1 ∧ f 0 = Value.int .u16 a0 ∧ f 3 = v22 ∧ f 4 = Value.int .i64 s21.2) (fun (q : Rs ((List Int) × Int) Empty) e f w => match q with | .go s21 => e = Exit.exit 0 ∧ (∃ H : GH, ∃ v22 : Value, ∃ n23 : Nat, ∃ cs24 : List Value, St Ha wa H w [.row 3 1 v22 n23 cs24] ∧ Inc Ha H ∧ Els (up wa.heap.size H) eI 1 cs24 s21.1 ∧ f 3 = v22) | .rt x => x.elim) hq ⟨_, _, _, _, (S0.nil 3 1), (Inc.rfl _), Els.nil, rfl, rfl, rfl⟩ ?_) ?_
 ·
  clear hp hq
  rintro s21 f92 w91 ⟨H88, v22, n23, cs24, S89, i90, els25, k93, k94, k95⟩ o154 hp
  refine FW.seq (FW.seq (FW.region ?_))
  refine FL.v (E.move k95) ?_
  refine FL.v (E.leq rfl rfl) ?_
  refine FL.nil ?_
  rcases ifB hp with ⟨c96, hp⟩ | ⟨c96, hp⟩
  ·
   refine FW.condT rfl c96 ?_
   refine FW.skip (FW.seq (FW.block (FW.seq (FW.seq (FW.region ?_)))))
   refine FL.v (E.move k93) ?_
   refine FL.v (E.move k95) ?_
   refine FL.v (E.sub rfl rfl) ?_
   obtain ⟨u98, z97, hp⟩ := bnd hp
   refine FL.v (E.shr rfl rfl (nn_ge z97)) ?_
   refine FL.v (E.and rfl rfl) ?_
   refine FL.v (E.eql rfl rfl) ?_
   refine FL.nil ?_
   rcases ifB hp with ⟨c99, hp⟩ | ⟨c99, hp⟩
   ·
    refine FW.condT rfl c99 ?_
    refine FW.region ?_
    refine FL.v (E.move k94) ?_
    refine FL.v (E.move k95) ?_
    obtain ⟨v100, w101, run102, S103, els104⟩ := S89.ints (P := Tryz.prog) te25 (up wa.heap.size H88) 1 [s21.2]
    refine FL.v (E.buildSlice (B1 rfl) run102) ?_
    obtain ⟨xs105, hz106, hp⟩ := bnd hp
    obtain ⟨v107, w110, n108, cs109, run111, S112, els113, ce114⟩ := S103.appendO (P := Tryz.prog) te25 (i := 1) (j := 0) rfl els25 rfl els104 hz106
    have S112 : St Ha wa H88 w110 [.row 3 1 v100 1 (iC [s21.2]), .row 3 1 v107 n108 cs109] := S112
    have S115 : St Ha wa H88 w110 [.row 3 1 v107 n108 cs109] := S112.drop 0
    refine FL.v (E.append rfl rfl run111) ?_
    refine FL.v (E.assign (v := v107) rfl) ?_
    refine FL.nil (FW.seq (FW.region ?_))
    refine FL.v (E.move k93) ?_
    refine FL.v (E.move k95) ?_
    refine FL.v (E.add rfl rfl) ?_
    refine FL.v (E.sub rfl rfl) ?_
    obtain ⟨u117, z116, hp⟩ := bnd hp
    refine FL.v (E.shr rfl rfl (nn_ge z116)) ?_
    refine FL.v (E.and rfl rfl) ?_
    refine FL.v (E.eql rfl rfl) ?_
    refine FL.nil ?_
    rcases ifB hp with ⟨c118, hp⟩ | ⟨c118, hp⟩
    ·
     refine FW.condT rfl c118 ?_
     refine FW.region ?_
     refine FL.v (E.move (v := v107) rfl) ?_
     refine FL.v (E.move k95) ?_
     refine FL.v (E.neg rfl) ?_
     obtain ⟨v119, w120, run121, S122, els123⟩ := S115.ints (P := Tryz.prog) te25 (up wa.heap.size H88) 1 [(wr (-s21.2))]
     refine FL.v (E.buildSlice (B1 rfl) run121) ?_
     obtain ⟨xs124, hz125, hp⟩ := bnd hp
     obtain ⟨v126, w129, n127, cs128, run130, S131, els132, ce133⟩ := S122.appendO (P := Tryz.prog) te25 (i := 1) (j := 0) rfl els113 rfl els123 hz125
     have S131 : St Ha wa H88 w129 [.row 3 1 v119 1 (iC [(wr (-s21.2))]), .row 3 1 v126 n127 cs128] := S131
     have S134 : St Ha wa H88 w129 [.row 3 1 v126 n127 cs128] := S131.drop 0
     refine FL.v (E.append rfl rfl run130) ?_
     refine FL.v (E.assign (v := v126) rfl) ?_
     refine FL.nil (FW.region ?_)
     refine FL.v (E.move k95) ?_
     refine FL.v (E.add rfl rfl) ?_
     refine FL.v (E.assign (v := Value.int .i64 (wr (s21.2 + 1))) rfl) ?_
     refine FL.nil ?_
     obtain rfl := Option.some.inj hp
     exact ⟨rfl, ⟨_, _, _, _, S134, i90, els132, k93, rfl, rfl⟩⟩
    ·
     refine FW.condF rfl c118 ?_
     refine FW.skip (FW.region ?_)
     refine FL.v (E.move k95) ?_
     refine FL.v (E.add rfl rfl) ?_
     refine FL.v (E.assign (v := Value.int .i64 (wr (s21.2 + 1))) rfl) ?_
     refine FL.nil ?_
     obtain rfl := Option.some.inj hp
     exact ⟨rfl, ⟨_, _, _, _, S115, i90, els113, k93, rfl, rfl⟩⟩
   ·
    refine FW.condF rfl c99 ?_
    refine FW.skip (FW.seq (FW.region ?_))
    refine FL.v (E.move k93) ?_
    refine FL.v (E.move k95) ?_
    refine FL.v (E.add rfl rfl) ?_
    refine FL.v (E.sub rfl rfl) ?_
    obtain ⟨u136, z135, hp⟩ := bnd hp
    refine FL.v (E.shr rfl rfl (nn_ge z135)) ?_
    refine FL.v (E.and rfl rfl) ?_
    refine FL.v (E.eql rfl rfl) ?_
    refine FL.nil ?_
    rcases ifB hp with ⟨c137, hp⟩ | ⟨c137, hp⟩
    ·
     refine FW.condT rfl c137 ?_
     refine FW.region ?_
     refine FL.v (E.move k94) ?_
     refine FL.v (E.move k95) ?_
     refine FL.v (E.neg rfl) ?_
     obtain ⟨v138, w139, run140, S141, els142⟩ := S89.ints (P := Tryz.prog) te25 (up wa.heap.size H88) 1 [(wr (-s21.2))]
     refine FL.v (E.buildSlice (B1 rfl) run140) ?_
     obtain ⟨xs143, hz144, hp⟩ := bnd hp
     obtain ⟨v145, w148, n146, cs147, run149, S150, els151, ce152⟩ := S141.appendO (P := Tryz.prog) te25 (i := 1) (j := 0) rfl els25 rfl els142 hz144
     have S150 : St Ha wa H88 w148 [.row 3 1 v138 1 (iC [(wr (-s21.2))]), .row 3 1 v145 n146 cs147] := S150
     have S153 : St Ha wa H88 w148 [.row 3 1 v145 n146 cs147] := S150.drop 0
     refine FL.v (E.append rfl rfl run149) ?_
     refine FL.v (E.assign (v := v145) rfl) ?_
     refine FL.nil (FW.region ?_)
     refine FL.v (E.move k95) ?_
     refine FL.v (E.add rfl rfl) ?_
     refine FL.v (E.assign (v := Value.int .i64 (wr (s21.2 + 1))) rfl) ?_
     refine FL.nil ?_
     obtain rfl := Option.some.inj hp
     exact ⟨rfl, ⟨_, _, _, _, S153, i90, els151, k93, rfl, rfl⟩⟩
    ·
     refine FW.condF rfl c137 ?_
     refine FW.skip (FW.region ?_)
     refine FL.v (E.move k95) ?_
     refine FL.v (E.add rfl rfl) ?_
     refine FL.v (E.assign (v := Value.int .i64 (wr (s21.2 + 1))) rfl) ?_
     refine FL.nil ?_
     obtain rfl := Option.some.inj hp
     exact ⟨rfl, ⟨_, _, _, _, S89, i90, els25, k93, k94, rfl⟩⟩
  ·
   refine FW.condF rfl c96 ?_
   refine FW.exit ?_
   obtain rfl := Option.some.inj hp
   exact ⟨nofun, rfl, ⟨_, _, _, _, S89, i90, els25, k94⟩⟩
 ·
  clear hq
  intro e f159 w158 hD
  rcases q21 with s21 | x21
  ·
   obtain ⟨rfl, hD⟩ := hD
   obtain ⟨H155, v22, n23, cs24, S156, i157, els25, k160⟩ := hD
   replace hp := el_go hp
   refine FW.seq (FW.region ?_)
   refine FL.v (E.move k160) ?_
   refine FL.v (E.assign (v := v22) rfl) ?_
   refine FL.nil ?_
   refine FW.ret ?_
   obtain rfl := Option.some.inj hp
   exact ⟨.inr rfl, res1 rfl rfl ⟨_, _, _, _, rfl, S156, els25⟩⟩
  ·
   exact x21.elim

@[reducible] def p_slices_SortFunc_LLint_Lint (H0 : GH) (w0 : World) (Ha : GH) (L : List MO) (v0 : Value) (n0 : Nat) (r : (List (List Int))) : Ending → World → Prop :=
 fun e w' => ∃ H' : GH, ∃ c0k : List Value, e = .returned (Value.tuple #[]) ∧ (St H0 w0 H' w' (.row 25 1 v0 n0 c0k :: L) ∧ Inc Ha H') ∧ Els (up w0.heap.size H') (eL eI 1) 1 c0k r ∧ (bl c0k).Nodup
theorem w_slices_SortFunc_LLint_Lint {H0 Ha : GH} {w0 wa : World} {L : List MO} {v0 : Value} {n0 : Nat} {k0 : List Value} (S0 : St H0 w0 Ha wa (.row 25 1 v0 n0 k0 :: L)) (a0 : List (List Int)) (p0 : Els (up w0.heap.size Ha) (eL eI 1) 1 k0 a0) (d0 : (bl k0).Nodup) (v1 : Value) (a1 : (List Int) → (List Int) → Option Int) (p1 : Fn_List_Int_List_Int_to_I Tryz.prog Ha v1 a1) {r : (List (List Int))} (hp : (PF.slices_SortFunc_LLint_Lint a0 a1) = some r) :
  Calls Tryz.prog 99 #[v0, v1] wa (p_slices_SortFunc_LLint_Lint H0 w0 Ha L v0 n0 r) := by
 refine (St.sortF (l := .row 25 1 v0 n0 k0 :: L) (i := 0) upI S0 rfl p0 (fun H2 w2 hi hs2 c x hc d y hd r hr => by obtain ⟨y0, e0, z0⟩ := eL_open hc; cases e0; obtain ⟨y1, e1, z1⟩ := eL_open hd; cases e1; exact p1 H2 w2 hi hs2 x c z0 y d z1 r hr) (fun p cap fv w => AnyF.slices_SortFunc_none (P := Tryz.prog) (ρ := Tryz.sort99_ren) { Tryz.sort99 with } p cap fv w) (fun α _ enc h1 cf hO g cb blk off cap d w eg hc hH hb hs => Any.slices_SortFunc Tryz.sort99 enc h1 cf hO g cb blk off cap d w eg hc hH hb hs) hp).mono ?_
 rintro e w' ⟨rfl, c', h1, h2, hq⟩
 exact ⟨_, _, rfl, ⟨h1, Inc.rfl _⟩, h2, nd_perm hq d0⟩

theorem w_cmp_isNaN_int {Ha : GH} {wa : World} (hs : Sl Ha wa) (a0 : Int) :
  Calls Tryz.prog 280 #[Value.int .i64 a0] wa (Sc Ha wa (Value.bool (PF.cmp_isNaN_int a0))) := by
 obtain ⟨r, hp⟩ : ∃ r, (PF.cmp_isNaN_int a0) = r := ⟨_, rfl⟩
 rw [hp]
 unfold PF.cmp_isNaN_int at hp
 have S0 := St.init hs
 refine calls_go (N := 6) (args := [Value.int .i64 a0]) Tryz.func280 rfl rfl rfl ?_
 refine FW.seq (FW.region ?_)
 refine FL.v (E.assign (v := Value.bool false) rfl) ?_
 refine FL.nil (FW.seq (FW.region ?_))
 refine FL.v (E.move (v := Value.int .i64 a0) rfl) ?_
 refine FL.v (E.move (v := Value.int .i64 a0) rfl) ?_
 refine FL.v (E.neq rfl rfl) ?_
 refine FL.v (E.assign (v := Value.bool (!(a0 == a0))) rfl) ?_
 refine FL.nil ?_
 refine FW.ret ?_
 obtain rfl := hp
 exact ⟨.inr rfl, res1 rfl rfl ⟨rfl, S0.back⟩⟩

set_option maxHeartbeats 4000000 in
theorem w_cmp_Compare_int {Ha : GH} {wa : World} (hs : Sl Ha wa) (a0 : Int) (a1 : Int) :
  Calls Tryz.prog 191 #[Value.int .i64 a0, Value.int .i64 a1] wa (Sc Ha wa (Value.int .i64 (PF.cmp_Compare_int a0 a1))) := by
 obtain ⟨r, hp⟩ : ∃ r, (PF.cmp_Compare_int a0 a1) = r := ⟨_, rfl⟩
 rw [hp]
 unfold PF.cmp_Compare_int at hp
 have S0 := St.init hs
 refine calls_go (N := 20) (args := [Value.int .i64 a0, Value.int .i64 a1]) Tryz.func191 rfl rfl rfl ?_
 refine FW.seq (FW.region ?_)
 refine FL.v (E.assign (v := Value.int .i64 0) rfl) ?_
 refine FL.nil (FW.seq (FW.region ?_))
 refine FL.v (E.move (v := Value.int .i64 a0) rfl) ?_
 refine FL.call rfl rfl rfl (E.call Tryz.call280 (A1 rfl)) (w_cmp_isNaN_int S0.sl a0) ?_
 rintro e w21 ⟨rfl, r22⟩
 refine ⟨_, rfl, ?_⟩
 have S23 := S0.call r22
 refine FL.v (E.assign (v := Value.bool (PF.cmp_isNaN_int a0)) rfl) ?_
 refine FL.nil (FW.seq (FW.region ?_))
 refine FL.v (E.move (v := Value.int .i64 a1) rfl) ?_
 refine FL.call rfl rfl rfl (E.call Tryz.call280 (A1 rfl)) (w_cmp_isNaN_int S23.sl a1) ?_
 rintro e w24 ⟨rfl, r25⟩
 refine ⟨_, rfl, ?_⟩
 have S26 := S23.call r25
 refine FL.v (E.assign (v := Value.bool (PF.cmp_isNaN_int a1)) rfl) ?_
 refine FL.nil (FW.seq (FW.seq (FW.region ?_)))
 refine FL.v (E.move (v := Value.bool (PF.cmp_isNaN_int a0)) rfl) ?_
 refine FL.nil ?_
 rcases ifT hp with ⟨c27, hp⟩ | ⟨c27, hp⟩
 ·
  refine FW.condT rfl c27 ?_
  refine FW.seq (FW.seq (FW.region ?_))
  refine FL.v (E.move (v := Value.bool (PF.cmp_isNaN_int a1)) rfl) ?_
  refine FL.nil ?_
  rcases ifT hp with ⟨c28, hp⟩ | ⟨c28, hp⟩
  ·
   refine FW.condT rfl c28 ?_
   refine FW.seq (FW.region ?_)
   refine FL.v (E.assign (v := Value.int .i64 0) rfl) ?_
   refine FL.nil ?_
   refine FW.ret ?_
   obtain rfl := hp
   exact ⟨.inr rfl, res1 rfl rfl ⟨rfl, S26.back⟩⟩
  ·
   refine FW.condF rfl c28 ?_
   refine FW.skip (FW.seq (FW.region ?_))
   refine FL.v (E.assign (v := Value.int .i64 (-1)) rfl) ?_
   refine FL.nil ?_
   refine FW.ret ?_
   obtain rfl := hp
   exact ⟨.inr rfl, res1 rfl rfl ⟨rfl, S26.back⟩⟩
 ·
  refine FW.condF rfl c27 ?_
  refine FW.skip (FW.seq (FW.seq (FW.region ?_)))
  refine FL.v (E.move (v := Value.bool (PF.cmp_isNaN_int a1)) rfl) ?_
  refine FL.nil ?_
  rcases ifT hp with ⟨c29, hp⟩ | ⟨c29, hp⟩
  ·
   refine FW.condT rfl c29 ?_
   refine FW.seq (FW.region ?_)
   refine FL.v (E.assign (v := Value.int .i64 1) rfl) ?_
   refine FL.nil ?_
   refine FW.ret ?_
   obtain rfl := hp
   exact ⟨.inr rfl, res1 rfl rfl ⟨rfl, S26.back⟩⟩
  ·
   refine FW.condF rfl c29 ?_
   refine FW.skip (FW.seq (FW.seq (FW.region ?_)))
   refine FL.v (E.move (v := Value.int .i64 a0) rfl) ?_
   refine FL.v (E.move (v := Value.int .i64 a1) rfl) ?_
   refine FL.v (E.lss rfl rfl) ?_
   refine FL.nil ?_
   rcases ifT hp with ⟨c30, hp⟩ | ⟨c30, hp⟩
   ·
    refine FW.condT rfl c30 ?_
    refine FW.seq (FW.region ?_)
    refine FL.v (E.assign (v := Value.int .i64 (-1)) rfl) ?_
    refine FL.nil ?_
    refine FW.ret ?_
    obtain rfl := hp
    exact ⟨.inr rfl, res1 rfl rfl ⟨rfl, S26.back⟩⟩
   ·
    refine FW.condF rfl c30 ?_
    refine FW.skip (FW.seq (FW.seq (FW.region ?_)))
    refine FL.v (E.move (v := Value.int .i64 a0) rfl) ?_
    refine FL.v (E.move (v := Value.int .i64 a1) rfl) ?_
    refine FL.v (E.gtr rfl rfl) ?_
    refine FL.nil ?_
    rcases ifT hp with ⟨c31, hp⟩ | ⟨c31, hp⟩
    ·
     refine FW.condT rfl c31 ?_
     refine FW.seq (FW.region ?_)
     refine FL.v (E.assign (v := Value.int .i64 1) rfl) ?_
     refine FL.nil ?_
     refine FW.ret ?_
     obtain rfl := hp
     exact ⟨.inr rfl, res1 rfl rfl ⟨rfl, S26.back⟩⟩
    ·
     refine FW.condF rfl c31 ?_
     refine FW.skip (FW.seq (FW.region ?_))
     refine FL.v (E.assign (v := Value.int .i64 0) rfl) ?_
     refine FL.nil ?_
     refine FW.ret ?_
     obtain rfl := hp
     exact ⟨.inr rfl, res1 rfl rfl ⟨rfl, S26.back⟩⟩

set_option maxHeartbeats 4000000 in
theorem w_slices_CompareFunc_int_int_int_int {Ha : GH} {wa : World} (hs : Sl Ha wa) (v0 : Value) (a0 : List Int) (p0 : RSl Ha eI 1 v0 a0) (v1 : Value) (a1 : List Int) (p1 : RSl Ha eI 1 v1 a1) (v2 : Value) (a2 : Int → Int → Option Int) (p2 : Fn_I_I_to_I Tryz.prog Ha v2 a2) {r : Int} (hp : (PF.slices_CompareFunc_int_int_int_int a0 a1 a2) = some r) :
  Calls Tryz.prog 192 #[v0, v1, v2] wa (Sc Ha wa (Value.int .i64 r)) := by
 unfold PF.slices_CompareFunc_int_int_int_int at hp
 have S0 := St.init hs
 refine calls_go (N := 39) (args := [v0, v1, v2]) Tryz.func192 rfl rfl rfl ?_
 refine FW.seq (FW.region ?_)
 refine FL.v (E.assign (v := Value.int .i64 0) rfl) ?_
 refine FL.nil (FW.seq (FW.seq (FW.region ?_)))
 refine FL.v (E.move (v := v0) rfl) ?_
 refine FL.v (E.lenP te25 rfl p0) ?_
 refine FL.v (E.move (v := Value.int .i64 0) rfl) ?_
 refine FL.nil ?_
 obtain ⟨q22, hq, hp⟩ := bndR hp
 refine FW.block ?_
 refine FW.mono (FW.forL (S := Unit) (X := Int) (fun (i22 : Nat) (s22 : Unit) f w => ∃ H : GH, St Ha wa H w [] ∧ Inc Ha H ∧ f 13 = Value.int .i64 ((i22 : Nat) : Int) ∧ f 0 = v0 ∧ f 1 = v1 ∧ f 2 = v2 ∧ f 11 = v0 ∧ f 12 = Value.int .i64 (len a0)) (fun q e f w => match q with | .go s22 => e = Exit.exit 0 ∧ (∃ H : GH, St Ha wa H w [] ∧ Inc Ha H ∧ f 0 = v0 ∧ f 1 = v1) | .rt x => ((e = Exit.ret) ∧ (fun e f w => (e = Exit.normal ∨ e = Exit.ret) ∧ ∀ a, Fr (δ := []) 39 a f → ∃ v, (results Tryz.f192 a.tmps).run Tryz.prog w = .ok v w ∧ (Sc Ha wa (Value.int .i64 x)) (.returned v) w) e f w)) hq ⟨_, S0, (Inc.rfl _), rfl, rfl, rfl, rfl, rfl, rfl⟩ ?_ ?_) ?_
 ·
  clear hp hq
  rintro i22 y21 s22 f64 w63 ⟨H60, S61, i62, k65, k66, k67, k68, k69, k70⟩ hx22 o97 hp
  refine FW.seq (FW.region ?_)
  refine FL.v (E.lssT k65 k70 (lss_len hx22)) ?_
  refine FL.nil (FW.seq ?_)
  refine FW.condT rfl rfl ?_
  refine FW.skip (FW.seq (FW.block (FW.seq (FW.region ?_))))
  refine FL.v (E.move k65) ?_
  obtain ⟨p71, cs72, pt73, l74, at75, rel76⟩ := p0.at (ix_nat hx22)
  obtain rfl := eI_open rel76
  refine FL.v (E.indexAddr te25 k69 k65 pt73) ?_
  refine FL.v (E.load rfl (run_load0 Tryz.isAgg3 ((at75.mono i62).now S61.sl) rfl)) ?_
  refine FL.v (E.assign (v := Value.int .i64 ((i22 : Nat) : Int)) rfl) ?_
  refine FL.v (E.assign (v := Value.int .i64 y21) rfl) ?_
  refine FL.nil (FW.seq (FW.seq (FW.region ?_)))
  refine FL.v (E.move (v := Value.int .i64 ((i22 : Nat) : Int)) rfl) ?_
  refine FL.v (E.move k67) ?_
  refine FL.v (E.lenP te25 rfl p1) ?_
  refine FL.v (E.geq rfl rfl) ?_
  refine FL.nil ?_
  rcases ifB hp with ⟨c77, hp⟩ | ⟨c77, hp⟩
  ·
   refine FW.condT rfl c77 ?_
   refine FW.seq (FW.region ?_)
   refine FL.v (E.assign (v := Value.int .i64 1) rfl) ?_
   refine FL.nil ?_
   refine FW.ret ?_
   obtain rfl := Option.some.inj hp
   exact ⟨nofun, rfl, ⟨.inr rfl, res1 rfl rfl ⟨rfl, S61.back⟩⟩⟩
  ·
   refine FW.condF rfl c77 ?_
   refine FW.skip (FW.seq (FW.region ?_))
   refine FL.v (E.move k67) ?_
   refine FL.v (E.move (v := Value.int .i64 ((i22 : Nat) : Int)) rfl) ?_
   obtain ⟨x84, hx85, hp⟩ := bnd hp
   obtain ⟨p78, cs79, pt80, l81, at82, rel83⟩ := p1.at hx85
   obtain rfl := eI_open rel83
   refine FL.v (E.indexAddr te25 rfl rfl pt80) ?_
   refine FL.v (E.load rfl (run_load0 Tryz.isAgg3 ((at82.mono i62).now S61.sl) rfl)) ?_
   refine FL.v (E.assign (v := Value.int .i64 x84) rfl) ?_
   refine FL.nil (FW.seq (FW.region ?_))
   refine FL.v (E.move k68) ?_
   refine FL.v (E.move (v := Value.int .i64 y21) rfl) ?_
   refine FL.v (E.move (v := Value.int .i64 x84) rfl) ?_
   obtain ⟨r86, hr87, hp⟩ := bnd hp
   obtain ⟨fi91, cs92, hv93, he94, hc95⟩ := (p2.mono i62) H60 w63 (Inc.rfl _) S61.sl y21 x84 r86 hr87
   refine FL.call rfl rfl rfl (E.callV he94 (Eq.trans rfl hv93) (appA (A2 rfl rfl) cs92)) hc95 ?_
   rintro e w88 ⟨rfl, r89⟩
   refine ⟨_, rfl, ?_⟩
   have S90 := S61.call r89
   refine FL.v (E.assign (v := Value.int .i64 r86) rfl) ?_
   refine FL.nil (FW.seq (FW.region ?_))
   refine FL.v (E.move (v := Value.int .i64 r86) rfl) ?_
   refine FL.v (E.neq rfl rfl) ?_
   refine FL.nil ?_
   rcases ifB hp with ⟨c96, hp⟩ | ⟨c96, hp⟩
   ·
    refine FW.condT rfl c96 ?_
    refine FW.seq (FW.region ?_)
    refine FL.v (E.move (v := Value.int .i64 r86) rfl) ?_
    refine FL.v (E.assign (v := Value.int .i64 r86) rfl) ?_
    refine FL.nil ?_
    refine FW.ret ?_
    obtain rfl := Option.some.inj hp
    exact ⟨nofun, rfl, ⟨.inr rfl, res1 rfl rfl ⟨rfl, S90.back⟩⟩⟩
   ·
    refine FW.condF rfl c96 ?_
    refine FW.skip (FW.region ?_)
    refine FL.v (E.add k65 rfl) ?_
    refine FL.v (E.move (v := Value.int .i64 (wr (((i22 : Nat) : Int) + 1))) rfl) ?_
    refine FL.nil ?_
    obtain rfl := Option.some.inj hp
    exact ⟨rfl, ⟨_, S90, i62, (nat_succ rfl (lt_of_get hx22) (p0.mono i62).le), k66, k67, k68, k69, k70⟩⟩
 ·
  clear hp hq
  rintro s22 f110 w109 ⟨H106, S107, i108, k111, k112, k113, k114, k115, k116⟩
  refine FW.seq (FW.region ?_)
  refine FL.v (E.lss k111 k116) ?_
  refine FL.nil (FW.seq ?_)
  refine FW.condF rfl dlt_len ?_
  refine FW.exit ?_
  exact ⟨nofun, rfl, ⟨_, S107, i108, k112, k113⟩⟩
 ·
  clear hq
  intro e f102 w101 hD
  rcases q22 with s22 | x22
  ·
   obtain ⟨rfl, hD⟩ := hD
   obtain ⟨H98, S99, i100, k103, k104⟩ := hD
   replace hp := el_go hp
   refine FW.seq (FW.seq (FW.region ?_))
   refine FL.v (E.move k103) ?_
   refine FL.v (E.lenP te25 rfl p0) ?_
   refine FL.v (E.move k104) ?_
   refine FL.v (E.lenP te25 rfl p1) ?_
   refine FL.v (E.lss rfl rfl) ?_
   refine FL.nil ?_
   rcases ifB hp with ⟨c105, hp⟩ | ⟨c105, hp⟩
   ·
    refine FW.condT rfl c105 ?_
    refine FW.seq (FW.region ?_)
    refine FL.v (E.assign (v := Value.int .i64 (-1)) rfl) ?_
    refine FL.nil ?_
    refine FW.ret ?_
    obtain rfl := Option.some.inj hp
    exact ⟨.inr rfl, res1 rfl rfl ⟨rfl, S99.back⟩⟩
   ·
    refine FW.condF rfl c105 ?_
    refine FW.skip (FW.seq (FW.region ?_))
    refine FL.v (E.assign (v := Value.int .i64 0) rfl) ?_
    refine FL.nil ?_
    refine FW.ret ?_
    obtain rfl := Option.some.inj hp
    exact ⟨.inr rfl, res1 rfl rfl ⟨rfl, S99.back⟩⟩
  ·
   obtain ⟨he, hL⟩ := hD
   replace hp := el_rt hp
   obtain rfl := Option.some.inj hp
   subst he
   exact hL

theorem w_cmp_Or_int {Ha : GH} {wa : World} (hs : Sl Ha wa) (v0 : Value) (a0 : List Int) (p0 : RSl Ha eI 1 v0 a0) {r : Int} (hp : (PF.cmp_Or_int a0) = some r) :
  Calls Tryz.prog 190 #[v0] wa (Sc Ha wa (Value.int .i64 r)) := by
 unfold PF.cmp_Or_int at hp
 have S0 := St.init hs
 refine calls_go (N := 18) (args := [v0]) Tryz.func190 rfl rfl rfl ?_
 refine FW.seq (FW.region ?_)
 refine FL.v (E.assign (v := Value.int .i64 0) rfl) ?_
 refine FL.nil (FW.seq (FW.region ?_))
 refine FL.v (E.assign (v := Value.int .i64 0) rfl) ?_
 refine FL.nil (FW.seq (FW.seq (FW.region ?_)))
 refine FL.v (E.move (v := v0) rfl) ?_
 refine FL.v (E.lenP te25 rfl p0) ?_
 refine FL.v (E.move (v := Value.int .i64 0) rfl) ?_
 refine FL.nil ?_
 obtain ⟨q22, hq, hp⟩ := bndR hp
 refine FW.block ?_
 refine FW.mono (FW.forL (S := Unit) (X := Int) (fun (i22 : Nat) (s22 : Unit) f w => ∃ H : GH, St Ha wa H w [] ∧ Inc Ha H ∧ f 8 = Value.int .i64 ((i22 : Nat) : Int) ∧ f 3 = Value.int .i64 0 ∧ f 6 = v0 ∧ f 7 = Value.int .i64 (len a0)) (fun q e f w => match q with | .go s22 => e = Exit.exit 0 ∧ (∃ H : GH, St Ha wa H w [] ∧ Inc Ha H ∧ f 3 = Value.int .i64 0) | .rt x => ((e = Exit.ret) ∧ (fun e f w => (e = Exit.normal ∨ e = Exit.ret) ∧ ∀ a, Fr (δ := []) 18 a f → ∃ v, (results Tryz.f190 a.tmps).run Tryz.prog w = .ok v w ∧ (Sc Ha wa (Value.int .i64 x)) (.returned v) w) e f w)) hq ⟨_, S0, (Inc.rfl _), rfl, rfl, rfl, rfl⟩ ?_ ?_) ?_
 ·
  clear hp hq
  rintro i22 y21 s22 f43 w42 ⟨H39, S40, i41, k44, k45, k46, k47⟩ hx22 o55 hp
  refine FW.seq (FW.region ?_)
  refine FL.v (E.lssT k44 k47 (lss_len hx22)) ?_
  refine FL.nil (FW.seq ?_)
  refine FW.condT rfl rfl ?_
  refine FW.skip (FW.seq (FW.block (FW.seq (FW.region ?_))))
  obtain ⟨p48, cs49, pt50, l51, at52, rel53⟩ := p0.at (ix_nat hx22)
  obtain rfl := eI_open rel53
  refine FL.v (E.indexAddr te25 k46 k44 pt50) ?_
  refine FL.v (E.load rfl (run_load0 Tryz.isAgg3 ((at52.mono i41).now S40.sl) rfl)) ?_
  refine FL.v (E.assign (v := Value.int .i64 y21) rfl) ?_
  refine FL.nil (FW.seq (FW.region ?_))
  refine FL.v (E.move (v := Value.int .i64 y21) rfl) ?_
  refine FL.v (E.move k45) ?_
  refine FL.v (E.neq rfl rfl) ?_
  refine FL.nil ?_
  rcases ifB hp with ⟨c54, hp⟩ | ⟨c54, hp⟩
  ·
   refine FW.condT rfl c54 ?_
   refine FW.seq (FW.region ?_)
   refine FL.v (E.move (v := Value.int .i64 y21) rfl) ?_
   refine FL.v (E.assign (v := Value.int .i64 y21) rfl) ?_
   refine FL.nil ?_
   refine FW.ret ?_
   obtain rfl := Option.some.inj hp
   exact ⟨nofun, rfl, ⟨.inr rfl, res1 rfl rfl ⟨rfl, S40.back⟩⟩⟩
  ·
   refine FW.condF rfl c54 ?_
   refine FW.skip (FW.region ?_)
   refine FL.v (E.add k44 rfl) ?_
   refine FL.v (E.move (v := Value.int .i64 (wr (((i22 : Nat) : Int) + 1))) rfl) ?_
   refine FL.nil ?_
   obtain rfl := Option.some.inj hp
   exact ⟨rfl, ⟨_, S40, i41, (nat_succ rfl (lt_of_get hx22) (p0.mono i41).le), k45, k46, k47⟩⟩
 ·
  clear hp hq
  rintro s22 f66 w65 ⟨H62, S63, i64, k67, k68, k69, k70⟩
  refine FW.seq (FW.region ?_)
  refine FL.v (E.lss k67 k70) ?_
  refine FL.nil (FW.seq ?_)
  refine FW.condF rfl dlt_len ?_
  refine FW.exit ?_
  exact ⟨nofun, rfl, ⟨_, S63, i64, k68⟩⟩
 ·
  clear hq
  intro e f60 w59 hD
  rcases q22 with s22 | x22
  ·
   obtain ⟨rfl, hD⟩ := hD
   obtain ⟨H56, S57, i58, k61⟩ := hD
   replace hp := el_go hp
   refine FW.seq (FW.region ?_)
   refine FL.v (E.move k61) ?_
   refine FL.v (E.assign (v := Value.int .i64 0) rfl) ?_
   refine FL.nil ?_
   refine FW.ret ?_
   obtain rfl := Option.some.inj hp
   exact ⟨.inr rfl, res1 rfl rfl ⟨rfl, S57.back⟩⟩
  ·
   obtain ⟨he, hL⟩ := hD
   replace hp := el_rt hp
   obtain rfl := Option.some.inj hp
   subst he
   exact hL

theorem w_impl_compareLiterals {Ha : GH} {wa : World} (hs : Sl Ha wa) (a0 : Int) (a1 : Int) {r : Int} (hp : (PF.impl_compareLiterals a0 a1) = some r) :
  Calls Tryz.prog 193 #[Value.int .i64 a0, Value.int .i64 a1] wa (Sc Ha wa (Value.int .i64 r)) := by
 unfold PF.impl_compareLiterals at hp
 have S0 := St.init hs
 refine calls_go (N := 15) (args := [Value.int .i64 a0, Value.int .i64 a1]) Tryz.func193 rfl rfl rfl ?_
 refine FW.seq (FW.region ?_)
 refine FL.v (E.assign (v := Value.int .i64 0) rfl) ?_
 refine FL.nil (FW.seq (FW.region ?_))
 refine FL.v (E.move (v := Value.int .i64 a0) rfl) ?_
 refine FL.call rfl rfl rfl (E.call Tryz.call171 (A1 rfl)) (w_impl_abs S0.sl a0) ?_
 rintro e w21 ⟨rfl, r22⟩
 refine ⟨_, rfl, ?_⟩
 have S23 := S0.call r22
 refine FL.v (E.move (v := Value.int .i64 a1) rfl) ?_
 refine FL.call rfl rfl rfl (E.call Tryz.call171 (A1 rfl)) (w_impl_abs S23.sl a1) ?_
 rintro e w24 ⟨rfl, r25⟩
 refine ⟨_, rfl, ?_⟩
 have S26 := S23.call r25
 refine FL.call rfl rfl rfl (E.call Tryz.call191 (A2 rfl rfl)) (w_cmp_Compare_int S26.sl (PF.impl_abs a0) (PF.impl_abs a1)) ?_
 rintro e w27 ⟨rfl, r28⟩
 refine ⟨_, rfl, ?_⟩
 have S29 := S26.call r28
 refine FL.v (E.move (v := Value.int .i64 a1) rfl) ?_
 refine FL.v (E.move (v := Value.int .i64 a0) rfl) ?_
 refine FL.call rfl rfl rfl (E.call Tryz.call191 (A2 rfl rfl)) (w_cmp_Compare_int S29.sl a1 a0) ?_
 rintro e w30 ⟨rfl, r31⟩
 refine ⟨_, rfl, ?_⟩
 have S32 := S29.call r31
 obtain ⟨v33, w34, run35, S36, els37⟩ := S32.ints (P := Tryz.prog) te25 (up wa.heap.size Ha) 2 [(PF.cmp_Compare_int (PF.impl_abs a0) (PF.impl_abs a1)), (PF.cmp_Compare_int a1 a0)]
 refine FL.v (E.buildSlice (B2 rfl rfl) run35) ?_
 obtain ⟨H38, S39, i40, h41, nv42⟩ := S36.sealRowU (i := 0) (l' := []) rfl els37 (by decide) rfl
 obtain ⟨r43, hr44, hp⟩ := bnd hp
 refine FL.call rfl rfl rfl (E.call Tryz.call190 (A1 rfl)) (w_cmp_Or_int S39.sl v33 [(PF.cmp_Compare_int (PF.impl_abs a0) (PF.impl_abs a1)), (PF.cmp_Compare_int a1 a0)] (h41.mono upI) hr44) ?_
 rintro e w45 ⟨rfl, r46⟩
 refine ⟨_, rfl, ?_⟩
 have r46 := Run.lend i40 S36.sl r46
 have S47 := S36.call r46
 refine FL.v (E.assign (v := Value.int .i64 r43) rfl) ?_
 refine FL.nil ?_
 refine FW.ret ?_
 obtain rfl := Option.some.inj hp
 exact ⟨.inr rfl, res1 rfl rfl ⟨rfl, S47.back⟩⟩

theorem w_impl_compareClauses {Ha : GH} {wa : World} (hs : Sl Ha wa) (v0 : Value) (a0 : List Int) (p0 : RSl Ha eI 1 v0 a0) (v1 : Value) (a1 : List Int) (p1 : RSl Ha eI 1 v1 a1) {r : Int} (hp : (PF.impl_compareClauses a0 a1) = some r) :
  Calls Tryz.prog 100 #[v0, v1] wa (Sc Ha wa (Value.int .i64 r)) := by
 unfold PF.impl_compareClauses at hp
 have S0 := St.init hs
 refine calls_go (N := 15) (args := [v0, v1]) Tryz.func100 rfl rfl rfl ?_
 refine FW.seq (FW.region ?_)
 refine FL.v (E.assign (v := Value.int .i64 0) rfl) ?_
 refine FL.nil (FW.seq (FW.region ?_))
 refine FL.v (E.move (v := v0) rfl) ?_
 refine FL.v (E.lenP te25 rfl p0) ?_
 refine FL.v (E.move (v := v1) rfl) ?_
 refine FL.v (E.lenP te25 rfl p1) ?_
 refine FL.call rfl rfl rfl (E.call Tryz.call191 (A2 rfl rfl)) (w_cmp_Compare_int S0.sl (len a0) (len a1)) ?_
 rintro e w21 ⟨rfl, r22⟩
 refine ⟨_, rfl, ?_⟩
 have S23 := S0.call r22
 refine FL.v (E.move (v := v0) rfl) ?_
 refine FL.v (E.move (v := v1) rfl) ?_
 obtain ⟨r24, hr25, hp⟩ := bnd hp
 refine FL.call rfl rfl rfl (E.call Tryz.call192 (A3 rfl rfl rfl)) (w_slices_CompareFunc_int_int_int_int S23.sl v0 a0 p0 v1 a1 p1 (Value.func (.func 193) #[] #[]) (fun x0 x1 => PF.impl_compareLiterals x0 x1) (fun H2 w2 hi2 hs2 x0 x1 r hr => ⟨193, #[], rfl, Tryz.call193, w_impl_compareLiterals hs2 x0 x1  hr⟩) hr25) ?_
 rintro e w26 ⟨rfl, r27⟩
 refine ⟨_, rfl, ?_⟩
 have S28 := S23.call r27
 obtain ⟨v29, w30, run31, S32, els33⟩ := S28.ints (P := Tryz.prog) te25 (up wa.heap.size Ha) 2 [(PF.cmp_Compare_int (len a0) (len a1)), r24]
 refine FL.v (E.buildSlice (B2 rfl rfl) run31) ?_
 obtain ⟨H34, S35, i36, h37, nv38⟩ := S32.sealRowU (i := 0) (l' := []) rfl els33 (by decide) rfl
 obtain ⟨r39, hr40, hp⟩ := bnd hp
 refine FL.call rfl rfl rfl (E.call Tryz.call190 (A1 rfl)) (w_cmp_Or_int S35.sl v29 [(PF.cmp_Compare_int (len a0) (len a1)), r24] (h37.mono upI) hr40) ?_
 rintro e w41 ⟨rfl, r42⟩
 refine ⟨_, rfl, ?_⟩
 have r42 := Run.lend i36 S32.sl r42
 have S43 := S32.call r42
 refine FL.v (E.assign (v := Value.int .i64 r39) rfl) ?_
 refine FL.nil ?_
 refine FW.ret ?_
 obtain rfl := Option.some.inj hp
 exact ⟨.inr rfl, res1 rfl rfl ⟨rfl, S43.back⟩⟩

@[reducible] def p_impl_closure_clauses (Ha : GH) (wa : World) (r : (List (List Int))) : Ending → World → Prop :=
 fun e w' => ∃ H' : GH, ∃ v0 : Value, ∃ n0 : Nat, ∃ c0 : List Value, e = .returned (v0) ∧ St Ha wa H' w' [.row 25 1 v0 n0 c0] ∧ Els (up wa.heap.size H') (eL eI 1) 1 c0 r ∧ (bl c0).Nodup
set_option maxHeartbeats 4000000 in
theorem w_impl_closure_clauses {Ha : GH} {wa : World} (hs : Sl Ha wa) (q0P : Addr) (a0 : closure) (v0P_0 : Value) (v0P_1 : Value) (p0P_0 : RSl Ha (eN .u16) 1 v0P_0 a0.masks) (p0P_1 : MAt (K := Int) (V := Int) Ha (Value.int .u16) (Value.int .i64) v0P_1 a0.rounds) (c0P : CAt Ha q0P [v0P_0, v0P_1, Value.int .i64 a0.last]) {r : (List (List Int))} (hp : (PF.impl_closure_clauses a0) = some r) :
  Calls Tryz.prog 119 #[Value.pointer (some q0P)] wa (p_impl_closure_clauses Ha wa r) := by
 unfold PF.impl_closure_clauses at hp
 have S0 := St.init hs
 refine calls_go (N := 24) (args := [Value.pointer (some q0P)]) Tryz.func119 rfl rfl rfl ?_
 refine FW.seq (FW.region ?_)
 refine FL.v (E.assign (v := Value.slice none 0 0) rfl) ?_
 refine FL.nil (FW.seq (FW.region ?_))
 refine FL.v (E.assign (v := Value.slice none 0 0) rfl) ?_
 refine FL.nil (FW.seq (FW.seq (FW.region ?_)))
 refine FL.v (E.move (v := Value.pointer (some q0P)) rfl) ?_
 refine FL.v (E.nilCheck rfl) ?_
 refine FL.v (E.fieldAddr tf170_0 rfl) ?_
 refine FL.v (E.load rfl (run_load1 Tryz.isAgg168 (c0P.now S0.sl) rfl)) ?_
 refine FL.v (E.lenP te168 rfl p0P_0) ?_
 refine FL.v (E.move (v := Value.int .i64 0) rfl) ?_
 refine FL.nil ?_
 obtain ⟨q22, hq, hp⟩ := bndR hp
 refine FW.block ?_
 refine FW.mono (FW.forL (S := (List (List Int))) (X := Empty) (fun (i22 : Nat) (s22 : (List (List Int))) f w => ∃ H : GH, ∃ v23 : Value, ∃ n24 : Nat, ∃ cs25 : List Value, St Ha wa H w [.row 25 1 v23 n24 cs25] ∧ Inc Ha H ∧ Els (up wa.heap.size H) (eL eI 1) 1 cs25 s22 ∧ (bl cs25).Nodup ∧ f 11 = Value.int .i64 ((i22 : Nat) : Int) ∧ f 3 = v23 ∧ f 9 = v0P_0 ∧ f 10 = Value.int .i64 (len a0.masks)) (fun (q : Rs (List (List Int)) Empty) e f w => match q with | .go s22 => e = Exit.exit 0 ∧ (∃ H : GH, ∃ v23 : Value, ∃ n24 : Nat, ∃ cs25 : List Value, St Ha wa H w [.row 25 1 v23 n24 cs25] ∧ Inc Ha H ∧ Els (up wa.heap.size H) (eL eI 1) 1 cs25 s22 ∧ (bl cs25).Nodup ∧ f 3 = v23) | .rt x => x.elim) hq ⟨_, _, _, _, (S0.nil 25 1), (Inc.rfl _), Els.nil, List.nodup_nil, rfl, rfl, rfl, rfl⟩ ?_ ?_) ?_
 ·
  clear hp hq
  rintro i22 y21 s22 f80 w79 ⟨H76, v23, n24, cs25, S77, i78, els26, nd27, k81, k82, k83, k84⟩ hx22 o124 hp
  refine FW.seq (FW.region ?_)
  refine FL.v (E.lssT k81 k84 (lss_len hx22)) ?_
  refine FL.nil (FW.seq ?_)
  refine FW.condT rfl rfl ?_
  refine FW.skip (FW.seq (FW.block (FW.seq (FW.region ?_))))
  obtain ⟨p85, cs86, pt87, l88, at89, rel90⟩ := p0P_0.at (ix_nat hx22)
  obtain rfl := eN_open rel90
  refine FL.v (E.indexAddr te168 k83 k81 pt87) ?_
  refine FL.v (E.load rfl (run_load0 Tryz.isAgg173 ((at89.mono i78).now S77.sl) rfl)) ?_
  refine FL.v (E.assign (v := Value.int .u16 y21) rfl) ?_
  refine FL.nil (FW.region ?_)
  refine FL.v (E.move k82) ?_
  refine FL.v (E.move (v := Value.int .u16 y21) rfl) ?_
  obtain ⟨r91, hr92, hp⟩ := bnd hp
  refine FL.call rfl rfl rfl (E.call Tryz.call219 (A1 rfl)) (w_impl_mask_clause S77.sl y21 hr92) ?_
  rintro e w94 ⟨H93, v97, n98, cs99, rfl, r96, els100⟩
  refine ⟨_, rfl, ?_⟩
  have els100 := els100.mono (up_le S77.size)
  have S95 := S77.join (l' := [.row 3 1 v97 n98 cs99, .row 25 1 v23 n24 cs25]) r96 rfl
  obtain ⟨H101, S102, i103, h104, nv105⟩ := S95.sealRowU (i := 0) (l' := [.row 25 1 v23 n24 cs25]) rfl els100 (by decide) rfl
  obtain ⟨v106, w107, run108, S109⟩ := S102.buildSlice (P := Tryz.prog) te22 [v97] (parts := #[(0, v97)]) (cells := [v97]) rfl (szs_cons (cells_size h104.cells) szs_nil) (fc_cons h104.cells fc_nil) (ones_cons h104.one ones_nil) (Nat.le_of_ble_eq_true rfl)
  have els110 : Els (up wa.heap.size H101) (eL eI 1) 1 [v97] [r91] := (Els.snoc (H := (up wa.heap.size H101)) (E := (eL eI 1)) (k := 1) (c := [v97]) (x := r91) Els.nil rfl ⟨_, rfl, h104⟩)
  have nd111 : (bl [v97]).Nodup := by exact nd_one v97
  refine FL.v (E.buildSlice (B1 rfl) run108) ?_
  obtain ⟨xs112, hz113, hp⟩ := bnd hp
  obtain ⟨v114, w117, n115, cs116, run118, S119, els120, ce121⟩ := S109.appendO (P := Tryz.prog) te22 (i := 1) (j := 0) rfl (els26.mono (up_mono (r96.run.inc.tr i103))) rfl els110 hz113
  have S119 : St Ha wa H101 w117 [.row 25 1 v106 1 [v97], .row 25 1 v114 n115 cs116] := S119
  have nd122 : (bl cs116).Nodup := by rw [ce121]; exact nd_app nd27 nd111 (Els.dom (els26.mono (upI.tr r96.run.inc))) (by exact nv105)
  have S123 : St Ha wa H101 w117 [.row 25 1 v114 n115 cs116] := S119.drop 0
  refine FL.v (E.append rfl rfl run118) ?_
  refine FL.v (E.assign (v := v114) rfl) ?_
  refine FL.nil (FW.region ?_)
  refine FL.v (E.add k81 rfl) ?_
  refine FL.v (E.move (v := Value.int .i64 (wr (((i22 : Nat) : Int) + 1))) rfl) ?_
  refine FL.nil ?_
  obtain rfl := Option.some.inj hp
  exact ⟨rfl, ⟨_, _, _, _, S123, ((i78.tr r96.run.inc).tr i103), els120, nd122, (nat_succ rfl (lt_of_get hx22) (p0P_0.mono ((i78.tr r96.run.inc).tr i103)).le), rfl, k83, k84⟩⟩
 ·
  clear hp hq
  rintro s22 f144 w143 ⟨H140, v23, n24, cs25, S141, i142, els26, nd27, k145, k146, k147, k148⟩
  refine FW.seq (FW.region ?_)
  refine FL.v (E.lss k145 k148) ?_
  refine FL.nil (FW.seq ?_)
  refine FW.condF rfl dlt_len ?_
  refine FW.exit ?_
  exact ⟨nofun, rfl, ⟨_, _, _, _, S141, i142, els26, nd27, k146⟩⟩
 ·
  clear hq
  intro e f129 w128 hD
  rcases q22 with s22 | x22
  ·
   obtain ⟨rfl, hD⟩ := hD
   obtain ⟨H125, v23, n24, cs25, S126, i127, els26, nd27, k130⟩ := hD
   replace hp := el_go hp
   refine FW.seq (FW.region ?_)
   refine FL.v (E.move k130) ?_
   obtain ⟨r131, hr132, hp⟩ := bnd hp
   refine FL.call rfl rfl rfl (E.call Tryz.call99 (A2 rfl rfl)) (w_slices_SortFunc_LLint_Lint (L := []) S126 s22 els26 nd27 (Value.func (.func 100) #[] #[]) (fun x0 x1 => PF.impl_compareClauses x0 x1) (fun H2 w2 hi2 hs2 x0 y0 z0 x1 y1 z1 r hr => ⟨100, #[], rfl, Tryz.call100, w_impl_compareClauses hs2 y0 x0 z0 y1 x1 z1  hr⟩) hr132) ?_
   rintro e w134 ⟨H133, cs137, rfl, ⟨S135, i136⟩, els138, nd139⟩
   refine ⟨_, rfl, ?_⟩
   have S135 : St Ha wa H133 w134 [.row 25 1 v23 n24 cs137] := S135
   refine FL.nil (FW.seq (FW.region ?_))
   refine FL.v (E.move k130) ?_
   refine FL.v (E.assign (v := v23) rfl) ?_
   refine FL.nil ?_
   refine FW.ret ?_
   obtain rfl := Option.some.inj hp
   exact ⟨.inr rfl, res1 rfl rfl ⟨_, _, _, _, rfl, S135, els138, nd139⟩⟩
  ·
   exact x22.elim

theorem w_slices_IndexFunc_LLint_Lint {Ha : GH} {wa : World} (hs : Sl Ha wa) (v0 : Value) (a0 : List (List Int)) (p0 : RSl Ha (eL eI 1) 1 v0 a0) (v1 : Value) (a1 : (List Int) → Option Bool) (p1 : Fn_List_Int_to_B Tryz.prog Ha v1 a1) {r : Int} (hp : (PF.slices_IndexFunc_LLint_Lint a0 a1) = some r) :
  Calls Tryz.prog 260 #[v0, v1] wa (Sc Ha wa (Value.int .i64 r)) := by
 unfold PF.slices_IndexFunc_LLint_Lint at hp
 have S0 := St.init hs
 refine calls_go (N := 19) (args := [v0, v1]) Tryz.func260 rfl rfl rfl ?_
 refine FW.seq (FW.region ?_)
 refine FL.v (E.assign (v := Value.int .i64 0) rfl) ?_
 refine FL.nil (FW.seq (FW.seq (FW.region ?_)))
 refine FL.v (E.move (v := v0) rfl) ?_
 refine FL.v (E.lenP te22 rfl p0) ?_
 refine FL.v (E.move (v := Value.int .i64 0) rfl) ?_
 refine FL.nil ?_
 obtain ⟨q22, hq, hp⟩ := bndR hp
 refine FW.block ?_
 refine FW.mono (FW.forL (S := Unit) (X := Int) (fun (i22 : Nat) (s22 : Unit) f w => ∃ H : GH, St Ha wa H w [] ∧ Inc Ha H ∧ f 8 = Value.int .i64 ((i22 : Nat) : Int) ∧ f 0 = v0 ∧ f 1 = v1 ∧ f 7 = Value.int .i64 (len a0)) (fun q e f w => match q with | .go s22 => e = Exit.exit 0 ∧ (∃ H : GH, St Ha wa H w [] ∧ Inc Ha H) | .rt x => ((e = Exit.ret) ∧ (fun e f w => (e = Exit.normal ∨ e = Exit.ret) ∧ ∀ a, Fr (δ := []) 19 a f → ∃ v, (results Tryz.f260 a.tmps).run Tryz.prog w = .ok v w ∧ (Sc Ha wa (Value.int .i64 x)) (.returned v) w) e f w)) hq ⟨_, S0, (Inc.rfl _), rfl, rfl, rfl, rfl⟩ ?_ ?_) ?_
 ·
  clear hp hq
  rintro i22 y21 s22 f55 w54 ⟨H51, S52, i53, k56, k57, k58, k59⟩ hx22 o79 hp
  refine FW.seq (FW.region ?_)
  refine FL.v (E.lssT k56 k59 (lss_len hx22)) ?_
  refine FL.nil (FW.seq ?_)
  refine FW.condT rfl rfl ?_
  refine FW.skip (FW.seq (FW.block (FW.seq (FW.region ?_))))
  refine FL.v (E.move k56) ?_
  refine FL.v (E.assign (v := Value.int .i64 ((i22 : Nat) : Int)) rfl) ?_
  refine FL.nil (FW.seq (FW.region ?_))
  refine FL.v (E.move k58) ?_
  refine FL.v (E.move k57) ?_
  refine FL.v (E.move (v := Value.int .i64 ((i22 : Nat) : Int)) rfl) ?_
  obtain ⟨p60, cs61, pt62, l63, at64, rel65⟩ := p0.at (ix_nat hx22)
  obtain ⟨v66, rfl, h67⟩ := eL_open rel65
  refine FL.v (E.indexAddr te22 rfl rfl pt62) ?_
  refine FL.v (E.load rfl (run_load0 Tryz.isAgg25 ((at64.mono i53).now S52.sl) rfl)) ?_
  obtain ⟨r68, hr69, hp⟩ := bnd hp
  obtain ⟨fi73, cs74, hv75, he76, hc77⟩ := (p1.mono i53) H51 w54 (Inc.rfl _) S52.sl y21 v66 (h67.mono i53) r68 hr69
  refine FL.call rfl rfl rfl (E.callV he76 (Eq.trans rfl hv75) (appA (A1 rfl) cs74)) hc77 ?_
  rintro e w70 ⟨rfl, r71⟩
  refine ⟨_, rfl, ?_⟩
  have S72 := S52.call r71
  refine FL.nil ?_
  rcases ifB hp with ⟨c78, hp⟩ | ⟨c78, hp⟩
  ·
   refine FW.condT rfl c78 ?_
   refine FW.seq (FW.region ?_)
   refine FL.v (E.move (v := Value.int .i64 ((i22 : Nat) : Int)) rfl) ?_
   refine FL.v (E.assign (v := Value.int .i64 ((i22 : Nat) : Int)) rfl) ?_
   refine FL.nil ?_
   refine FW.ret ?_
   obtain rfl := Option.some.inj hp
   exact ⟨nofun, rfl, ⟨.inr rfl, res1 rfl rfl ⟨rfl, S72.back⟩⟩⟩
  ·
   refine FW.condF rfl c78 ?_
   refine FW.skip (FW.region ?_)
   refine FL.v (E.add k56 rfl) ?_
   refine FL.v (E.move (v := Value.int .i64 (wr (((i22 : Nat) : Int) + 1))) rfl) ?_
   refine FL.nil ?_
   obtain rfl := Option.some.inj hp
   exact ⟨rfl, ⟨_, S72, i53, (nat_succ rfl (lt_of_get hx22) (p0.mono i53).le), k57, k58, k59⟩⟩
 ·
  clear hp hq
  rintro s22 f89 w88 ⟨H85, S86, i87, k90, k91, k92, k93⟩
  refine FW.seq (FW.region ?_)
  refine FL.v (E.lss k90 k93) ?_
  refine FL.nil (FW.seq ?_)
  refine FW.condF rfl dlt_len ?_
  refine FW.exit ?_
  exact ⟨nofun, rfl, ⟨_, S86, i87⟩⟩
 ·
  clear hq
  intro e f84 w83 hD
  rcases q22 with s22 | x22
  ·
   obtain ⟨rfl, hD⟩ := hD
   obtain ⟨H80, S81, i82⟩ := hD
   replace hp := el_go hp
   refine FW.seq (FW.region ?_)
   refine FL.v (E.assign (v := Value.int .i64 (-1)) rfl) ?_
   refine FL.nil ?_
   refine FW.ret ?_
   obtain rfl := Option.some.inj hp
   exact ⟨.inr rfl, res1 rfl rfl ⟨rfl, S81.back⟩⟩
  ·
   obtain ⟨he, hL⟩ := hD
   replace hp := el_rt hp
   obtain rfl := Option.some.inj hp
   subst he
   exact hL

@[reducible] def p_slices_DeleteFunc_LLint_Lint (H0 : GH) (w0 : World) (Ha : GH) (L : List MO) (r : (List (List Int))) : Ending → World → Prop :=
 fun e w' => ∃ H' : GH, ∃ v0r : Value, ∃ n0r : Nat, ∃ c0r : List Value, e = .returned (v0r) ∧ (St H0 w0 H' w' (.row 25 1 v0r n0r c0r :: L) ∧ Inc Ha H') ∧ Els (up w0.heap.size H') (eL eI 1) 1 c0r r
set_option maxHeartbeats 4000000 in
theorem w_slices_DeleteFunc_LLint_Lint {H0 Ha : GH} {w0 wa : World} {L : List MO} {v0 : Value} {n0 : Nat} {k0 : List Value} (S0 : St H0 w0 Ha wa (.row 25 1 v0 n0 k0 :: L)) (a0 : List (List Int)) (p0 : Els (up w0.heap.size Ha) (eL eI 1) 1 k0 a0) (v1 : Value) (a1 : (List Int) → Option Bool) (p1 : Fn_List_Int_to_B Tryz.prog Ha v1 a1) {r : (List (List Int))} (hp : (PF.slices_DeleteFunc_LLint_Lint a0 a1) = some r) :
  Calls Tryz.prog 205 #[v0, v1] wa (p_slices_DeleteFunc_LLint_Lint H0 w0 Ha L r) := by
 unfold PF.slices_DeleteFunc_LLint_Lint at hp
 refine calls_go (N := 42) (args := [v0, v1]) Tryz.func205 rfl rfl rfl ?_
 refine FW.seq (FW.region ?_)
 refine FL.v (E.assign (v := Value.slice none 0 0) rfl) ?_
 refine FL.nil (FW.seq (FW.region ?_))
 refine FL.v (E.move (v := v0) rfl) ?_
 refine FL.v (E.move (v := v1) rfl) ?_
 obtain ⟨H21, S22, i23, h24, nv25⟩ := S0.sealRowU (i := 0) (l' := L) rfl p0 (by decide) rfl
 obtain ⟨r26, hr27, hp⟩ := bnd hp
 refine FL.call rfl rfl rfl (E.call Tryz.call260 (A2 rfl rfl)) (w_slices_IndexFunc_LLint_Lint S22.sl v0 a0 (h24.mono upI) v1 a1 (p1.mono i23) hr27) ?_
 rintro e w28 ⟨rfl, r29⟩
 refine ⟨_, rfl, ?_⟩
 have r29 := Run.lend i23 S0.sl r29
 have S30 := S0.call r29
 refine FL.v (E.assign (v := Value.int .i64 r26) rfl) ?_
 refine FL.nil (FW.seq (FW.seq (FW.region ?_)))
 refine FL.v (E.move (v := Value.int .i64 r26) rfl) ?_
 refine FL.v (E.eql rfl rfl) ?_
 refine FL.nil ?_
 rcases ifB hp with ⟨c31, hp⟩ | ⟨c31, hp⟩
 ·
  refine FW.condT rfl c31 ?_
  refine FW.seq (FW.region ?_)
  refine FL.v (E.move (v := v0) rfl) ?_
  refine FL.v (E.assign (v := v0) rfl) ?_
  refine FL.nil ?_
  refine FW.ret ?_
  obtain rfl := Option.some.inj hp
  exact ⟨.inr rfl, res1 rfl rfl ⟨_, _, _, _, rfl, ⟨S30, (Inc.rfl _)⟩, p0⟩⟩
 ·
  refine FW.condF rfl c31 ?_
  refine FW.skip (FW.seq (FW.seq (FW.region ?_)))
  refine FL.v (E.move (v := Value.int .i64 r26) rfl) ?_
  refine FL.v (E.add rfl rfl) ?_
  refine FL.v (E.assign (v := Value.int .i64 (wr (r26 + 1))) rfl) ?_
  refine FL.nil ?_
  obtain ⟨q32, hq, hp⟩ := bndR hp
  refine FW.block ?_
  refine FW.mono (FW.iter (S := ((List (List Int)) × Int × Int)) (X := Empty) (fun (s32 : ((List (List Int)) × Int × Int)) f w => ∃ H : GH, ∃ cs82 : List Value, St H0 w0 H w (.row 25 1 v0 n0 cs82 :: L) ∧ Inc Ha H ∧ Els (up w0.heap.size H) (eL eI 1) 1 cs82 s32.1 ∧ f 0 = v0 ∧ f 1 = v1 ∧ f 5 = Value.int .i64 s32.2.1 ∧ f 6 = Value.int .i64 s32.2.2) (fun (q : Rs ((List (List Int)) × Int × Int) Empty) e f w => match q with | .go s32 => e = Exit.exit 0 ∧ (∃ H : GH, ∃ cs82 : List Value, St H0 w0 H w (.row 25 1 v0 n0 cs82 :: L) ∧ Inc Ha H ∧ Els (up w0.heap.size H) (eL eI 1) 1 cs82 s32.1 ∧ f 0 = v0 ∧ f 5 = Value.int .i64 s32.2.1) | .rt x => x.elim) hq ⟨_, _, S30, (Inc.rfl _), p0, rfl, rfl, rfl, rfl⟩ ?_) ?_
  ·
   clear hp hq
   rintro s32 f137 w136 ⟨H133, cs82, S134, i135, els83, k138, k139, k140, k141⟩ o182 hp
   refine FW.seq (FW.seq (FW.region ?_))
   refine FL.v (E.move k141) ?_
   refine FL.v (E.move k138) ?_
   refine FL.v (E.lenO te22 rfl S134 (i := 0) rfl els83 (by decide)) ?_
   refine FL.v (E.lss rfl rfl) ?_
   refine FL.nil ?_
   rcases ifB hp with ⟨c142, hp⟩ | ⟨c142, hp⟩
   ·
    refine FW.condT rfl c142 ?_
    refine FW.skip (FW.seq (FW.block (FW.seq (FW.region ?_))))
    refine FL.v (E.move k138) ?_
    refine FL.v (E.move k141) ?_
    obtain ⟨x149, hx150, hp⟩ := bnd hp
    obtain ⟨p143, cs144, pt145, l146, at147, rel148⟩ := S134.row_at (i := 0) rfl els83 (by decide) hx150
    obtain ⟨v151, rfl, h152⟩ := eL_open rel148
    refine FL.v (E.indexAddr te22 rfl rfl pt145) ?_
    refine FL.v (E.load rfl (run_load0 Tryz.isAgg25 at147 rfl)) ?_
    refine FL.v (E.assign (v := v151) rfl) ?_
    refine FL.nil (FW.seq (FW.region ?_))
    refine FL.v (E.move k139) ?_
    refine FL.v (E.move (v := v151) rfl) ?_
    obtain ⟨r153, hr154, hp⟩ := bnd hp
    obtain ⟨fi158, cs159, hv160, he161, hc162⟩ := (p1.mono i135) H133 w136 (Inc.rfl _) S134.sl x149 v151 (h152.mono upI) r153 hr154
    refine FL.call rfl rfl rfl (E.callV he161 (Eq.trans rfl hv160) (appA (A1 rfl) cs159)) hc162 ?_
    rintro e w155 ⟨rfl, r156⟩
    refine ⟨_, rfl, ?_⟩
    have S157 := S134.call r156
    refine FL.v (E.not rfl) ?_
    refine FL.nil ?_
    rcases ifB hp with ⟨c163, hp⟩ | ⟨c163, hp⟩
    ·
     refine FW.condT rfl c163 ?_
     refine FW.seq (FW.region ?_)
     refine FL.v (E.move k138) ?_
     refine FL.v (E.move k140) ?_
     refine FL.v (E.move (v := v151) rfl) ?_
     obtain ⟨x170, hx171, hp⟩ := bnd hp
     obtain ⟨p164, cs165, pt166, l167, at168, rel169⟩ := S157.row_at (i := 0) rfl els83 (by decide) hx171
     obtain ⟨v172, rfl, h173⟩ := eL_open rel169
     refine FL.v (E.indexAddr te22 rfl rfl pt166) ?_
     obtain ⟨xs177, hput178, hp⟩ := bnd hp
     obtain ⟨w174, cs180, run175, S176, els179, ce181⟩ := S157.putEls (P := Tryz.prog) (t := 25) (i := 0) rfl els83 hput178 pt166 Tryz.sizeOf25 (u := v151) (c := [v151]) h152.cells rfl (ones_cons h152.one ones_nil) ⟨_, rfl, h152⟩
     have S176 : St H0 w0 H133 w174 (.row 25 1 v0 n0 cs180 :: L) := S176
     refine FL.act rfl rfl (E.store rfl rfl run175) ?_
     refine FL.nil (FW.region ?_)
     refine FL.v (E.move k140) ?_
     refine FL.v (E.add rfl rfl) ?_
     refine FL.v (E.assign (v := Value.int .i64 (wr (s32.2.1 + 1))) rfl) ?_
     refine FL.nil (FW.region ?_)
     refine FL.v (E.move k141) ?_
     refine FL.v (E.add rfl rfl) ?_
     refine FL.v (E.assign (v := Value.int .i64 (wr (s32.2.2 + 1))) rfl) ?_
     refine FL.nil ?_
     obtain rfl := Option.some.inj hp
     exact ⟨rfl, ⟨_, _, S176, i135, els179, k138, k139, rfl, rfl⟩⟩
    ·
     refine FW.condF rfl c163 ?_
     refine FW.skip (FW.region ?_)
     refine FL.v (E.move k141) ?_
     refine FL.v (E.add rfl rfl) ?_
     refine FL.v (E.assign (v := Value.int .i64 (wr (s32.2.2 + 1))) rfl) ?_
     refine FL.nil ?_
     obtain rfl := Option.some.inj hp
     exact ⟨rfl, ⟨_, _, S157, i135, els83, k138, k139, k140, rfl⟩⟩
   ·
    refine FW.condF rfl c142 ?_
    refine FW.exit ?_
    obtain rfl := Option.some.inj hp
    exact ⟨nofun, rfl, ⟨_, _, S134, i135, els83, k138, k140⟩⟩
  ·
   clear hq
   intro e f187 w186 hD
   rcases q32 with s32 | x32
   ·
    obtain ⟨rfl, hD⟩ := hD
    obtain ⟨H183, cs82, S184, i185, els83, k188, k189⟩ := hD
    replace hp := el_go hp
    refine FW.seq (FW.region ?_)
    refine FL.v (E.move k188) ?_
    refine FL.v (E.move k189) ?_
    obtain ⟨xs190, hc191, hp⟩ := bnd hp
    obtain ⟨v192, run193, h194⟩ := S184.tail te22 (kk := .i64) (i := 0) rfl els83 hc191
    refine FL.v (E.slice te22 rfl (congrArg some rfl) rfl rfl (run193 _)) ?_
    obtain ⟨w195, cs196, run197, S198, els199⟩ := S184.clearTail (P := Tryz.prog) te22 (i := 0) rfl els83 h194 ⟨_, rfl, RSl.nil _ _ _⟩ (ones_cons rfl ones_nil)
    have S198 : St H0 w0 H183 w195 (.row 25 1 v0 n0 cs196 :: L) := S198
    refine FL.val0 rfl rfl (E.clear rfl run197) ?_
    refine FL.nil (FW.seq (FW.region ?_))
    refine FL.v (E.move k188) ?_
    refine FL.v (E.move k189) ?_
    obtain ⟨xs200, hc201, hp⟩ := bnd hp
    obtain ⟨v202, n203, cs204, run205, S206, els207, nd208⟩ := S198.cutRow te22 (kk := .i64) (i := 0) rfl els199 hc201
    have S206 : St H0 w0 H183 w195 (.row 25 1 v202 n203 cs204 :: L) := S206
    refine FL.v (E.slice te22 rfl rfl (congrArg some rfl) rfl (run205 _)) ?_
    refine FL.v (E.assign (v := v202) rfl) ?_
    refine FL.nil ?_
    refine FW.ret ?_
    obtain rfl := Option.some.inj hp
    exact ⟨.inr rfl, res1 rfl rfl ⟨_, _, _, _, rfl, ⟨S206, i185⟩, els207⟩⟩
   ·
    exact x32.elim

theorem w_impl_closure_source_1 {Ha : GH} {wa : World} (hs : Sl Ha wa) (v0 : Value) (a0 : List Int) (p0 : RSl Ha eI 1 v0 a0) (q0 : Addr) (b0 : closure) (q0_0C : Addr) (v0_0C_0 : Value) (v0_0C_1 : Value) (p0_0C_0 : RSl Ha (eN .u16) 1 v0_0C_0 b0.masks) (p0_0C_1 : MAt (K := Int) (V := Int) Ha (Value.int .u16) (Value.int .i64) v0_0C_1 b0.rounds) (c0_0C : CAt Ha q0_0C [v0_0C_0, v0_0C_1, Value.int .i64 b0.last]) (c0 : CAt Ha q0 [Value.pointer (some q0_0C)]) (q1 : Addr) (b1 : Int) (c1 : CAt Ha q1 [Value.int .i64 b1]) {r : Bool} (hp : (PF.impl_closure_source_1 a0 b0 b1) = some r) :
  Calls Tryz.prog 310 #[v0, Value.pointer (some q0), Value.pointer (some q1)] wa (Sc Ha wa (Value.bool r)) := by
 unfold PF.impl_closure_source_1 at hp
 have S0 := St.init hs
 refine calls_go (N := 14) (args := [v0, Value.pointer (some q0), Value.pointer (some q1)]) Tryz.func310 rfl rfl rfl ?_
 refine FW.seq (FW.region ?_)
 refine FL.v (E.assign (v := Value.bool false) rfl) ?_
 refine FL.nil (FW.seq ?_)
 refine FW.draw (fun w' => Run wa.heap.size Ha wa Ha w') (by kernel_rfl) (by kernel_rfl) (run_drew S0.sl) ?_
 refine FD.val rfl rfl rfl (fun w' hw' => (E.load rfl (run_load0 Tryz.isAgg92 (c0.now (S0.call hw').sl) rfl))) ?_
 refine FD.val rfl rfl rfl (fun w' hw' => (E.nilCheck rfl)) ?_
 refine FD.val rfl rfl rfl (fun w' hw' => (E.fieldAddr tf170_1 rfl)) ?_
 refine FD.val rfl rfl rfl (fun w' hw' => (E.load rfl (run_load1 Tryz.isAgg167 (c0_0C.now (S0.call hw').sl) rfl))) ?_
 refine FD.val rfl rfl rfl (fun w' hw' => (E.move (v := v0) rfl)) ?_
 obtain ⟨r22, hr23, hp⟩ := bnd hp
 refine FD.call rfl rfl rfl (fun w' hw' => (E.call Tryz.call174 (A1 rfl))) (fun w' hw' => Calls.cls hw' (w_impl_maskOf (S0.call hw').sl v0 a0 p0 hr23)) ?_
 refine FD.val rfl rfl rfl (fun w' hw' => (E.lookup rfl rfl (p0_0C_1.get (P := Tryz.prog) (S0.call hw').sl Tryz.runUnderlying167 (KeyNow.intk Tryz.runUnderlying173) (z := 0) Tryz.zeroValue3 r22))) ?_
 refine FD.val rfl rfl rfl (fun w' hw' => (E.load rfl (run_load0 Tryz.isAgg3 (c1.now (S0.call hw').sl) rfl))) ?_
 refine FD.val rfl rfl rfl (fun w' hw' => (E.geq rfl rfl)) ?_
 refine FD.val rfl rfl rfl (fun w' hw' => (E.assign (v := Value.bool (decide (b1 ≤ ((mget b0.rounds r22).getD 0)))) rfl)) ?_
 refine FD.nil ?_
 intro w24 r26
 have S25 := S0.call r26
 refine FW.ret ?_
 obtain rfl := Option.some.inj hp
 exact ⟨.inr rfl, res1 rfl rfl ⟨rfl, S25.back⟩⟩

end Go.Proofs
