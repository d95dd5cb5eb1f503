/- Part of the walks and plain laws behind the claim: it proves helpers, under no condition beyond their own. -/
import Derived.Test.YtjpjbfbloplacaaGreatPbWk2
set_option linter.unusedVariables false
set_option maxRecDepth 100000
namespace Go.Proofs
open Go.Mr Go.Pu Go.PF Go.RowKit

@[reducible] def p_impl_algebra_span (Ha : GH) (wa : World) (r : (Option echelon)) : Ending → World → Prop :=
  fun e w' => ∃ H' : GH, ∃ v0 : Value, e = .returned (v0) ∧ Run wa.heap.size Ha wa H' w' ∧ OP (fun (q : Addr) (x : echelon) => ∃ v0R_2 : Value, ∃ v0R_3 : Value, RSl H' (eL eI 1) 1 v0R_2 x.rows ∧ RSl (up wa.heap.size H') (eL eI 1) 1 v0R_3 x.made ∧ CAt H' q [Value.int .i64 x.ring.p, Value.int .i64 x.ring.vars, v0R_2, v0R_3, Value.int .i64 x.many]) v0 r
set_option maxHeartbeats 4000000 in
theorem w_impl_algebra_span {Ha : GH} {wa : World} (hs : Sl Ha wa) (q0P : Addr) (a0 : algebra) (v0P_3 : Value) (v0P_4 : Value) (p0P_3 : RSl Ha (eL eI 1) 1 v0P_3 a0.f.clauses) (p0P_4 : RSl Ha (eL eI 1) 1 v0P_4 a0.q) (c0P : CAt Ha q0P [Value.int .i64 a0.ring.p, Value.int .i64 a0.ring.vars, Value.int .i64 a0.f.vars, v0P_3, v0P_4]) (a1 : Int) {r : (Option echelon)} (hp : (PF.impl_algebra_span a0 a1) = some r) :
    Calls Tryz.prog 160 #[Value.pointer (some q0P), Value.int .i64 a1] wa (p_impl_algebra_span Ha wa r) := by
  unfold PF.impl_algebra_span at hp
  have S0 := St.init hs
  refine calls_go (N := 66) (args := [Value.pointer (some q0P), Value.int .i64 a1]) Tryz.func160 rfl rfl rfl ?_
  refine FW.seq (FW.region ?_)
  refine FL.v (E.assign (v := Value.pointer none) rfl) ?_
  refine FL.nil (FW.seq (FW.region ?_))
  refine FL.v (E.move (v := Value.pointer (some q0P)) rfl) ?_
  refine FL.v (E.nilCheck rfl) ?_
  refine FL.v (E.fieldAddr tf105_0 rfl) ?_
  refine FL.v (E.load rfl (run_loadA Tryz.isAgg102 Tryz.sizeOf102 ((c0P.now S0.sl).sub (j := 0) (n := 2) (c := [Value.int .i64 a0.ring.p, Value.int .i64 a0.ring.vars]) rfl) rfl)) ?_
  refine FL.v (E.build (B1 rfl) (run_build _ 148 #[(0, Value.agg #[Value.int .i64 a0.ring.p, Value.int .i64 a0.ring.vars])] #[Value.int .i64 a0.ring.p, Value.int .i64 a0.ring.vars, Value.slice none 0 0, Value.slice none 0 0, Value.int .i64 0] (by rfl))) ?_
  have S25 := S0.nil 99 1
  have els26 : Els (up wa.heap.size Ha) (eL eI 1) 1 [] [] := Els.nil
  have S27 := S25.nil 99 1
  have els28 : Els (up wa.heap.size Ha) (eL eI 1) 1 [] [] := Els.nil
  obtain ⟨b21, w22, run23, S24⟩ := S27.box (P := Tryz.prog) 148 [Value.int .i64 a0.ring.p, Value.int .i64 a0.ring.vars, (Value.slice none 0 0), (Value.slice none 0 0), Value.int .i64 0] (v := Value.agg #[Value.int .i64 a0.ring.p, Value.int .i64 a0.ring.vars, Value.slice none 0 0, Value.slice none 0 0, Value.int .i64 0]) rfl (ones_cons rfl (ones_cons rfl (ones_cons (Ln.one (S27.row_ln (i := 1) rfl)) (ones_cons (Ln.one (S27.row_ln (i := 0) rfl)) (ones_cons rfl ones_nil)))))
  refine FL.v (E.box rfl run23) ?_
  obtain ⟨b29, w30, run31, S32⟩ := S24.alloc (P := Tryz.prog) 138 [(Value.pointer none)] Tryz.zeroValue138 rfl (ones_cons rfl ones_nil)
  refine FL.v (E.alloc run31) ?_
  obtain ⟨w33, run34, S35⟩ := S32.store0 (P := Tryz.prog) (t := 138) (i := 0) (cs' := [Value.pointer (some (⟨b21, 0, none⟩ : Addr))]) (l' := [.box b29 138 [Value.pointer (some (⟨b21, 0, none⟩ : Addr))], .box b21 148 [Value.int .i64 a0.ring.p, Value.int .i64 a0.ring.vars, (Value.slice none 0 0), (Value.slice none 0 0), Value.int .i64 0], .row 99 1 (Value.slice none 0 0) 0 [], .row 99 1 (Value.slice none 0 0) 0 []]) (v := Value.pointer (some (⟨b21, 0, none⟩ : Addr))) (c := [Value.pointer (some (⟨b21, 0, none⟩ : Addr))]) rfl Tryz.sizeOf138 rfl rfl (ones_cons rfl ones_nil) (Nat.le_of_ble_eq_true rfl) rfl rfl
  refine FL.act rfl rfl (E.store rfl rfl run34) ?_
  obtain ⟨H36, S37, i38, at39⟩ := S35.sealBox (i := 0) (l' := [.box b21 148 [Value.int .i64 a0.ring.p, Value.int .i64 a0.ring.vars, (Value.slice none 0 0), (Value.slice none 0 0), Value.int .i64 0], .row 99 1 (Value.slice none 0 0) 0 [], .row 99 1 (Value.slice none 0 0) 0 []]) rfl rfl
  refine FL.nil (FW.seq (FW.seq (FW.region ?_)))
  refine FL.v (E.move (v := Value.pointer (some q0P)) rfl) ?_
  refine FL.v (E.nilCheck rfl) ?_
  refine FL.v (E.fieldAddr tf105_1 rfl) ?_
  refine FL.v (E.fieldAddrN tf32_1 rfl rfl) ?_
  refine FL.v (E.load rfl (run_load1 Tryz.isAgg22 ((c0P.mono i38).now S37.sl) rfl)) ?_
  refine FL.v (E.lenP te22 rfl p0P_3) ?_
  refine FL.v (E.move (v := Value.int .i64 0) rfl) ?_
  refine FL.nil ?_
  obtain ⟨q41, hq, hp⟩ := bndR hp
  refine FW.block ?_
  refine FW.mono (FW.forL (S := ((List (List Int)) × (List (List Int)) × Int × Int × Int)) (X := Empty) (fun (i41 : Nat) (s41 : ((List (List Int)) × (List (List Int)) × Int × Int × Int)) f w => ∃ H : GH, ∃ v42 : Value, ∃ n43 : Nat, ∃ cs44 : List Value, ∃ v46 : Value, ∃ n47 : Nat, ∃ cs48 : List Value, St Ha wa H w [.box b21 148 [Value.int .i64 s41.2.2.1, Value.int .i64 s41.2.2.2.1, v46, v42, Value.int .i64 s41.2.2.2.2], .row 99 1 v42 n43 cs44, .row 99 1 v46 n47 cs48] ∧ Inc H36 H ∧ Els (up wa.heap.size H) (eL eI 1) 1 cs44 s41.1 ∧ Els (up wa.heap.size H) (eL eI 1) 1 cs48 s41.2.1 ∧ (bl cs48).Nodup ∧ f 21 = Value.int .i64 ((i41 : Nat) : Int) ∧ f 0 = Value.pointer (some q0P) ∧ f 1 = Value.int .i64 a1 ∧ f 5 = Value.pointer (some ⟨b29, 0, none⟩) ∧ f 19 = v0P_3 ∧ f 20 = Value.int .i64 (len a0.f.clauses)) (fun (q : Rs ((List (List Int)) × (List (List Int)) × Int × Int × Int) Empty) e f w => match q with | .go s41 => e = Exit.exit 0 ∧ (∃ H : GH, ∃ v42 : Value, ∃ n43 : Nat, ∃ cs44 : List Value, ∃ v46 : Value, ∃ n47 : Nat, ∃ cs48 : List Value, St Ha wa H w [.box b21 148 [Value.int .i64 s41.2.2.1, Value.int .i64 s41.2.2.2.1, v46, v42, Value.int .i64 s41.2.2.2.2], .row 99 1 v42 n43 cs44, .row 99 1 v46 n47 cs48] ∧ Inc H36 H ∧ Els (up wa.heap.size H) (eL eI 1) 1 cs44 s41.1 ∧ Els (up wa.heap.size H) (eL eI 1) 1 cs48 s41.2.1 ∧ (bl cs48).Nodup ∧ f 0 = Value.pointer (some q0P) ∧ f 1 = Value.int .i64 a1 ∧ f 5 = Value.pointer (some ⟨b29, 0, none⟩)) | .rt x => x.elim) hq ⟨_, _, _, _, _, _, _, S37, (Inc.rfl _), (els28.mono (up_mono i38)), (els26.mono (up_mono i38)), (show (bl []).Nodup from List.nodup_nil), rfl, rfl, rfl, rfl, rfl, rfl⟩ ?_ ?_) ?_
  ·
    clear hp hq
    rintro i41 y40 s41 f55 w54 ⟨H51, v42, n43, cs44, v46, n47, cs48, S52, i53, els45, els49, nd50, k56, k57, k58, k59, k60, k61⟩ hx41 o126 hp
    refine FW.seq (FW.region ?_)
    refine FL.v (E.lssT k56 k61 (lss_len hx41)) ?_
    refine FL.nil (FW.seq ?_)
    refine FW.condT rfl rfl ?_
    refine FW.skip (FW.seq (FW.block (FW.seq (FW.region ?_))))
    refine FL.v (E.move k56) ?_
    obtain ⟨p62, cs63, pt64, l65, at66, rel67⟩ := p0P_3.at (ix_nat hx41)
    obtain ⟨v68, rfl, h69⟩ := eL_open rel67
    refine FL.v (E.indexAddr te22 k60 k56 pt64) ?_
    refine FL.v (E.load rfl (run_load0 Tryz.isAgg73 ((at66.mono (i38.tr i53)).now S52.sl) rfl)) ?_
    refine FL.v (E.assign (v := Value.int .i64 ((i41 : Nat) : Int)) rfl) ?_
    refine FL.v (E.assign (v := v68) rfl) ?_
    refine FL.nil (FW.seq (FW.region ?_))
    refine FL.v (E.move (v := v68) rfl) ?_
    refine FL.v (E.lenP te73 rfl h69) ?_
    refine FL.v (E.move k58) ?_
    refine FL.v (E.leq rfl rfl) ?_
    refine FL.nil ?_
    rcases ifB hp with ⟨c70, hp⟩ | ⟨c70, hp⟩
    ·
      refine FW.condT rfl c70 ?_
      obtain ⟨x81, hx82, hp⟩ := bnd hp
      obtain ⟨r85, hr86, hp⟩ := bnd hp
      refine FW.drawB (Sl H51) (fun f w => ∃ H : GH, ∃ v106 : Value, ∃ n107 : Nat, ∃ cs108 : List Value, ∃ v110 : Value, ∃ n111 : Nat, ∃ cs112 : List Value, St Ha wa H w [.box b21 148 [Value.int .i64 r85.2.ring.p, Value.int .i64 r85.2.ring.vars, v110, v106, Value.int .i64 r85.2.many], .row 99 1 v106 n107 cs108, .row 99 1 v110 n111 cs112] ∧ Inc H51 H ∧ Els (up wa.heap.size H) (eL eI 1) 1 cs108 r85.2.made ∧ Els (up wa.heap.size H) (eL eI 1) 1 cs112 r85.2.rows ∧ (bl cs112).Nodup ∧ f 0 = Value.pointer (some q0P) ∧ f 1 = Value.int .i64 a1 ∧ f 5 = Value.pointer (some ⟨b29, 0, none⟩) ∧ f 19 = v0P_3 ∧ f 20 = Value.int .i64 (len a0.f.clauses) ∧ f 21 = Value.int .i64 ((i41 : Nat) : Int)) (by kernel_rfl) S52.sl ?_ ?_
      ·
        intro w71 r72
        have S74 := S52.call r72
        refine FB.t (i := 0) (bs 9 1) rfl (SP.nil S74.sl) rfl (fun w' hw' => (E.load k59 (run_load0 Tryz.isAgg138 ((at39.mono i53).now hw') rfl))) ?_
        refine FB.t (i := 1) (bs 9 3) rfl (SP.nil S74.sl) rfl (fun w' hw' => (E.move k57)) ?_
        refine FB.t (i := 2) (bs 9 7) rfl (SP.nil S74.sl) rfl (fun w' hw' => (E.nilCheck rfl)) ?_
        refine FB.t (i := 3) (bs 9 15) rfl (SP.nil S74.sl) rfl (fun w' hw' => (E.fieldAddr tf105_2 rfl)) ?_
        refine FB.t (i := 4) (bs 9 31) rfl (SP.nil S74.sl) rfl (fun w' hw' => (E.load rfl (run_load1 Tryz.isAgg103 ((c0P.mono (i38.tr i53)).now hw') rfl))) ?_
        refine FB.t (i := 5) (bs 9 63) rfl (SP.nil S74.sl) rfl (fun w' hw' => (E.move (v := Value.int .i64 ((i41 : Nat) : Int)) rfl)) ?_
        obtain ⟨p75, cs76, pt77, l78, at79, rel80⟩ := p0P_4.at hx82
        obtain ⟨v83, rfl, h84⟩ := eL_open rel80
        refine FB.t (i := 6) (bs 9 127) rfl (SP.nil S74.sl) rfl (fun w' hw' => (E.indexAddr te103 rfl rfl pt77)) ?_
        refine FB.t (i := 7) (bs 9 255) rfl (SP.nil S74.sl) rfl (fun w' hw' => (E.load rfl (run_load0 Tryz.isAgg99 ((at79.mono (i38.tr i53)).now hw') rfl))) ?_
        refine FB.all1 (i := 8) (by kernel_rfl) ?_
        ·
          have S87 : St Ha wa H51 w71 [.row 99 1 v42 n43 cs44, .box b21 148 [Value.int .i64 s41.2.2.1, Value.int .i64 s41.2.2.2.1, v46, v42, Value.int .i64 s41.2.2.2.2], .row 99 1 v46 n47 cs48] := S74.front 1 rfl rfl
          have S88 : St Ha wa H51 w71 [.row 99 1 v46 n47 cs48, .row 99 1 v42 n43 cs44, .box b21 148 [Value.int .i64 s41.2.2.1, Value.int .i64 s41.2.2.2.1, v46, v42, Value.int .i64 s41.2.2.2.2]] := S87.front 2 rfl rfl
          have S89 : St Ha wa H51 w71 [.box b21 148 [Value.int .i64 s41.2.2.1, Value.int .i64 s41.2.2.2.1, v46, v42, Value.int .i64 s41.2.2.2.2], .row 99 1 v46 n47 cs48, .row 99 1 v42 n43 cs44] := S88.front 2 rfl rfl
          refine FC.call (l' := (bs 9 511)) rfl (by kernel_rfl) rfl rfl rfl (E.call Tryz.call206 (A2 rfl rfl)) (w_impl_echelon_add (L := []) S89 (a0 := (echelon.mk (ring.mk s41.2.2.1 s41.2.2.2.1) s41.2.1 s41.1 s41.2.2.2.2)) els49 nd50 els45 v83 x81 (h84.mono (i38.tr i53)) hr86) ?_
          rintro e w91 ⟨H90, v94, n95, cs96, v99, n100, cs101, rfl, ⟨S92, i93⟩, els97, nd98, els104⟩
          refine ⟨_, rfl, ?_⟩
          have S92 : St Ha wa H90 w91 [.box b21 148 [Value.int .i64 r85.2.ring.p, Value.int .i64 r85.2.ring.vars, v94, v99, Value.int .i64 r85.2.many], .row 99 1 v94 n95 cs96, .row 99 1 v99 n100 cs101] := S92
          refine ⟨(SP.nil (Sl.of_inc i93 S92.sl)), ?_⟩
          exact FB.done (by kernel_rfl) ⟨_, _, _, _, _, _, _, (S92.sel [0, 2, 1] (by decide) rfl), i93, els104, els97, nd98, k57, k58, k59, k60, k61, k56⟩
      ·
        rintro f119 w118 ⟨H115, v106, n107, cs108, v110, n111, cs112, S116, i117, els109, els113, nd114, k120, k121, k122, k123, k124, k125⟩
        refine FW.region ?_
        refine FL.v (E.add k125 rfl) ?_
        refine FL.v (E.move (v := Value.int .i64 (wr (((i41 : Nat) : Int) + 1))) rfl) ?_
        refine FL.nil ?_
        obtain rfl := Option.some.inj hp
        exact ⟨rfl, ⟨_, _, _, _, _, _, _, S116, (i53.tr i117), els109, els113, nd114, (nat_succ rfl (lt_of_get hx41) (p0P_3.mono ((i38.tr i53).tr i117)).le), k120, k121, k122, k123, k124⟩⟩
    ·
      refine FW.condF rfl c70 ?_
      refine FW.skip (FW.region ?_)
      refine FL.v (E.add k56 rfl) ?_
      refine FL.v (E.move (v := Value.int .i64 (wr (((i41 : Nat) : Int) + 1))) rfl) ?_
      refine FL.nil ?_
      obtain rfl := Option.some.inj hp
      exact ⟨rfl, ⟨_, _, _, _, _, _, _, S52, i53, els45, els49, nd50, (nat_succ rfl (lt_of_get hx41) (p0P_3.mono (i38.tr i53)).le), k57, k58, k59, k60, k61⟩⟩
  ·
    clear hp hq
    rintro s41 f489 w488 ⟨H485, v42, n43, cs44, v46, n47, cs48, S486, i487, els45, els49, nd50, k490, k491, k492, k493, k494, k495⟩
    refine FW.seq (FW.region ?_)
    refine FL.v (E.lss k490 k495) ?_
    refine FL.nil (FW.seq ?_)
    refine FW.condF rfl dlt_len ?_
    refine FW.exit ?_
    exact ⟨nofun, rfl, ⟨_, _, _, _, _, _, _, S486, i487, els45, els49, nd50, k491, k492, k493⟩⟩
  ·
    clear hq
    intro e f131 w130 hD
    rcases q41 with s41 | x41
    ·
      obtain ⟨rfl, hD⟩ := hD
      obtain ⟨H127, v42, n43, cs44, v46, n47, cs48, S128, i129, els45, els49, nd50, k132, k133, k134⟩ := hD
      replace hp := el_go hp
      refine FW.seq (FW.seq (FW.region ?_))
      obtain ⟨b135, w136, run137, S138⟩ := S128.alloc (P := Tryz.prog) 4 [Value.bool false] Tryz.zeroValue4 rfl (ones_cons rfl ones_nil)
      refine FL.v (E.alloc run137) ?_
      obtain ⟨w139, run140, S141⟩ := S138.store0 (P := Tryz.prog) (t := 4) (i := 0) (cs' := [Value.bool true]) (l' := [.box b135 4 [Value.bool true], .box b21 148 [Value.int .i64 s41.2.2.1, Value.int .i64 s41.2.2.2.1, v46, v42, Value.int .i64 s41.2.2.2.2], .row 99 1 v42 n43 cs44, .row 99 1 v46 n47 cs48]) (v := Value.bool true) (c := [Value.bool true]) rfl Tryz.sizeOf4 rfl rfl (ones_cons rfl ones_nil) (Nat.le_of_ble_eq_true rfl) rfl rfl
      refine FL.act rfl rfl (E.store rfl rfl run140) ?_
      refine FL.nil ?_
      obtain ⟨q142, hq, hp⟩ := bndR hp
      refine FW.block ?_
      refine FW.mono (FW.iter (S := ((List (List Int)) × (List (List Int)) × Int × Int × Int × Bool)) (X := Empty) (fun (s142 : ((List (List Int)) × (List (List Int)) × Int × Int × Int × Bool)) f w => ∃ H : GH, ∃ v143 : Value, ∃ n144 : Nat, ∃ cs145 : List Value, ∃ v147 : Value, ∃ n149 : Nat, ∃ cs150 : List Value, ∃ b153 : Nat, St Ha wa H w [.box b21 148 [Value.int .i64 s142.2.2.1, Value.int .i64 s142.2.2.2.1, v147, v143, Value.int .i64 s142.2.2.2.2.1], .row 99 1 v143 n144 cs145, .row 99 1 v147 n149 cs150, .box b153 4 [Value.bool s142.2.2.2.2.2]] ∧ Inc H127 H ∧ Els (up wa.heap.size H) (eL eI 1) 1 cs145 s142.1 ∧ Els (up wa.heap.size H) (eL eI 1) 1 cs150 s142.2.1 ∧ (bl cs150).Nodup ∧ f 0 = Value.pointer (some q0P) ∧ f 1 = Value.int .i64 a1 ∧ f 5 = Value.pointer (some ⟨b29, 0, none⟩) ∧ f 8 = Value.pointer (some (⟨b153, 0, none⟩ : Addr))) (fun (q : Rs ((List (List Int)) × (List (List Int)) × Int × Int × Int × Bool) Empty) e f w => match q with | .go s142 => e = Exit.exit 2 ∧ (∃ H : GH, ∃ v143 : Value, ∃ n144 : Nat, ∃ cs145 : List Value, ∃ v147 : Value, ∃ n149 : Nat, ∃ cs150 : List Value, ∃ b153 : Nat, St Ha wa H w [.box b21 148 [Value.int .i64 s142.2.2.1, Value.int .i64 s142.2.2.2.1, v147, v143, Value.int .i64 s142.2.2.2.2.1], .row 99 1 v143 n144 cs145, .row 99 1 v147 n149 cs150, .box b153 4 [Value.bool s142.2.2.2.2.2]] ∧ Inc H127 H ∧ Els (up wa.heap.size H) (eL eI 1) 1 cs145 s142.1 ∧ Els (up wa.heap.size H) (eL eI 1) 1 cs150 s142.2.1 ∧ (bl cs150).Nodup ∧ f 5 = Value.pointer (some ⟨b29, 0, none⟩)) | .rt x => x.elim) hq ⟨_, _, _, _, _, _, _, _, (S141.sel [1, 2, 3, 0] (by decide) rfl), (Inc.rfl _), els45, els49, nd50, k132, k133, k134, rfl⟩ ?_) ?_
      ·
        clear hp hq
        rintro s142 f158 w157 ⟨H154, v143, n144, cs145, v147, n149, cs150, b153, S155, i156, els146, els151, nd152, k159, k160, k161, k162⟩ o424 hp
        refine FW.seq (FW.seq (FW.region ?_))
        refine FL.v (E.load k162 (run_load0 Tryz.isAgg4 (S155.box_now (i := 3) rfl) rfl)) ?_
        refine FL.nil ?_
        rcases ifB hp with ⟨c163, hp⟩ | ⟨c163, hp⟩
        ·
          refine FW.condT rfl c163 ?_
          refine FW.skip (FW.seq (FW.block (FW.seq (FW.region ?_))))
          obtain ⟨w164, run165, S166⟩ := S155.store0 (P := Tryz.prog) (t := 4) (i := 3) (cs' := [Value.bool false]) (l' := [.box b21 148 [Value.int .i64 s142.2.2.1, Value.int .i64 s142.2.2.2.1, v147, v143, Value.int .i64 s142.2.2.2.2.1], .row 99 1 v143 n144 cs145, .row 99 1 v147 n149 cs150, .box b153 4 [Value.bool false]]) (v := Value.bool false) (c := [Value.bool false]) rfl Tryz.sizeOf4 rfl rfl (ones_cons rfl ones_nil) (Nat.le_of_ble_eq_true rfl) rfl rfl
          refine FL.act rfl rfl (E.store k162 rfl run165) ?_
          refine FL.nil (FW.region ?_)
          refine FL.v (E.move k159) ?_
          refine FL.v (E.load k161 (run_load0 Tryz.isAgg138 ((at39.mono (i129.tr i156)).now S166.sl) rfl)) ?_
          refine FL.v (E.nilCheck rfl) ?_
          refine FL.v (E.fieldAddr tf148_1 rfl) ?_
          refine FL.v (E.load rfl (run_load1 Tryz.isAgg103 (S166.box_now (i := 0) rfl) rfl)) ?_
          obtain ⟨s167, hq167, hp⟩ := bnd hp
          obtain ⟨R167, hR167⟩ : ∃ R167 : (List (List Int)) → Ending → World → Prop, R167 = (fun s167 e w => ∃ H : GH, ∃ v168 : Value, ∃ n169 : Nat, ∃ cs170 : List Value, e = Ending.returned (v168) ∧ St Ha wa H w [.box b21 148 [Value.int .i64 s142.2.2.1, Value.int .i64 s142.2.2.2.1, v147, v143, Value.int .i64 s142.2.2.2.2.1], .row 99 1 v143 n144 cs145, .row 99 1 v147 n149 cs150, .box b153 4 [Value.bool false], .row 99 1 v168 n169 cs170] ∧ Inc H154 H ∧ Els (up wa.heap.size H) (eL eI 1) 1 cs170 s167) := ⟨_, rfl⟩
          have hc167 : Calls Tryz.prog 208 #[v147] w164 (R167 s167) := by
            clear hp; have hp := hq167; clear hq167
            refine calls_go (N := 8) (args := [v147]) Tryz.func208 rfl rfl rfl ?_
            refine FW.seq (FW.region ?_)
            refine FL.v (E.assign (v := Value.slice none 0 0) rfl) ?_
            refine FL.nil (FW.seq (FW.seq (FW.region ?_)))
            refine FL.v (E.move (v := v147) rfl) ?_
            obtain ⟨nb172, run173, hn174⟩ := S166.nilTest te103 (i := 2) rfl els151 (by decide)
            refine FL.v (run173 _ _ _ _ _ _ _ _ _ _ _ _ rfl rfl) ?_
            refine FL.nil ?_
            rcases bcase nb172 with c175 | c175
            ·
              refine FW.condT (b := nb172) rfl c175 ?_
              rw [hn174 c175, app_nil2] at hp
              refine FW.seq (FW.region ?_)
              refine FL.v (E.assign (v := Value.slice none 0 0) rfl) ?_
              refine FL.nil ?_
              refine FW.ret ?_
              obtain rfl := Option.some.inj hp
              exact ⟨.inr rfl, res1 rfl rfl (by rw [hR167]; exact ⟨_, _, _, _, rfl, ((S166.nil 99 1).sel [1, 2, 3, 4, 0] (by decide) rfl), (Inc.rfl _), Els.nil⟩)⟩
            ·
              refine FW.condF (b := nb172) rfl c175 ?_
              refine FW.skip (FW.seq (FW.region ?_))
              obtain ⟨v176, w177, run178, S179⟩ := S166.buildSlice (P := Tryz.prog) te103 [] (parts := #[]) (cells := []) rfl szs_nil fc_nil ones_nil (Nat.le_of_ble_eq_true rfl)
              have els180 : Els (up wa.heap.size H154) (eL eI 1) 1 [] [] := Els.nil
              refine FL.v (E.buildSlice (B0) run178) ?_
              refine FL.v (E.move (v := v147) rfl) ?_
              obtain ⟨xs181, hz182, hp⟩ := bnd hp
              obtain ⟨v183, w186, n184, cs185, run187, S188, els189, ce190⟩ := S179.appendO (P := Tryz.prog) te103 (i := 0) (j := 3) rfl els180 rfl els151 hz182
              have S188 : St Ha wa H154 w186 [.row 99 1 v183 n184 cs185, .box b21 148 [Value.int .i64 s142.2.2.1, Value.int .i64 s142.2.2.2.1, v147, v143, Value.int .i64 s142.2.2.2.2.1], .row 99 1 v143 n144 cs145, .row 99 1 v147 n149 cs150, .box b153 4 [Value.bool false]] := S188
              refine FL.v (E.append rfl rfl run187) ?_
              refine FL.v (E.assign (v := v183) rfl) ?_
              refine FL.nil ?_
              refine FW.ret ?_
              obtain rfl := Option.some.inj hp
              exact ⟨.inr rfl, res1 rfl rfl (by rw [hR167]; exact ⟨_, _, _, _, rfl, (S188.sel [1, 2, 3, 4, 0] (by decide) rfl), (Inc.rfl _), els189⟩)⟩
          clear hq167
          refine FL.call rfl rfl rfl (E.call Tryz.call208 (A1 rfl)) hc167 ?_
          intro e w194 hQ167
          rw [hR167] at hQ167
          obtain ⟨H191, v168, n169, cs170, rfl, S192, i193, els171⟩ := hQ167
          refine ⟨_, rfl, ?_⟩
          refine FL.v (E.move k160) ?_
          refine FL.v (E.makeFunc A0 (A2 k161 k162)) ?_
          obtain ⟨s195, hq195, hp⟩ := bnd hp
          obtain ⟨R195, hR195⟩ : ∃ R195 : ((List (List Int)) × (List (List Int)) × Int × Int × Int × Bool × Bool) → Ending → World → Prop, R195 = (fun s195 e w => ∃ H : GH, ∃ v196 : Value, ∃ n197 : Nat, ∃ cs198 : List Value, ∃ v200 : Value, ∃ n201 : Nat, ∃ cs202 : List Value, e = Ending.returned (Value.bool s195.2.2.2.2.2.2) ∧ St Ha wa H w [.box b21 148 [Value.int .i64 s195.2.2.1, Value.int .i64 s195.2.2.2.1, v200, v196, Value.int .i64 s195.2.2.2.2.1], .row 99 1 v196 n197 cs198, .row 99 1 v200 n201 cs202, .box b153 4 [Value.bool s195.2.2.2.2.2.1], .row 99 1 v168 n169 cs170] ∧ Inc H191 H ∧ Els (up wa.heap.size H) (eL eI 1) 1 cs198 s195.1 ∧ Els (up wa.heap.size H) (eL eI 1) 1 cs202 s195.2.1 ∧ (bl cs202).Nodup) := ⟨_, rfl⟩
          have hc195 : Calls Tryz.prog 207 #[Value.pointer (some q0P), v168, Value.int .i64 a1, Value.func (.func 209) #[] #[Value.pointer (some ⟨b29, 0, none⟩), Value.pointer (some (⟨b153, 0, none⟩ : Addr))]] w194 (R195 s195) := by
            clear hp; have hp := hq195; clear hq195
            refine calls_go (N := 49) (args := [Value.pointer (some q0P), v168, Value.int .i64 a1, Value.func (.func 209) #[] #[Value.pointer (some ⟨b29, 0, none⟩), Value.pointer (some (⟨b153, 0, none⟩ : Addr))]]) Tryz.func207 rfl rfl rfl ?_
            refine FW.seq (FW.region ?_)
            refine FL.v (E.assign (v := Value.bool false) rfl) ?_
            refine FL.nil (FW.seq (FW.seq (FW.region ?_)))
            refine FL.v (E.move (v := v168) rfl) ?_
            refine FL.v (E.lenO te103 rfl S192 (i := 4) rfl els171 (by decide)) ?_
            refine FL.v (E.move (v := Value.int .i64 0) rfl) ?_
            refine FL.nil ?_
            obtain ⟨m205, hchk206, hp⟩ := bnd hp
            obtain ⟨q206, hq, hp⟩ := bndR hp
            refine FW.block ?_
            refine FW.mono (FW.forR (S := ((List (List Int)) × (List (List Int)) × Int × Int × Int × Bool)) (X := ((List (List Int)) × (List (List Int)) × Int × Int × Int × Bool × Bool)) (fun (i206 : Nat) (s206 : ((List (List Int)) × (List (List Int)) × Int × Int × Int × Bool)) f w => ∃ H : GH, ∃ v207 : Value, ∃ n208 : Nat, ∃ cs209 : List Value, ∃ v211 : Value, ∃ n212 : Nat, ∃ cs213 : List Value, St Ha wa H w [.box b21 148 [Value.int .i64 s206.2.2.1, Value.int .i64 s206.2.2.2.1, v211, v207, Value.int .i64 s206.2.2.2.2.1], .row 99 1 v207 n208 cs209, .row 99 1 v211 n212 cs213, .box b153 4 [Value.bool s206.2.2.2.2.2], .row 99 1 v168 n169 cs170] ∧ Inc H191 H ∧ Els (up wa.heap.size H) (eL eI 1) 1 cs209 s206.1 ∧ Els (up wa.heap.size H) (eL eI 1) 1 cs213 s206.2.1 ∧ (bl cs213).Nodup ∧ f 14 = Value.int .i64 ((i206 : Nat) : Int) ∧ f 0 = Value.pointer (some q0P) ∧ f 2 = Value.int .i64 a1 ∧ f 3 = Value.func (.func 209) #[] #[Value.pointer (some ⟨b29, 0, none⟩), Value.pointer (some (⟨b153, 0, none⟩ : Addr))] ∧ f 12 = v168 ∧ f 13 = Value.int .i64 (len s167)) (fun q e f w => match q with | .go s206 => e = Exit.exit 0 ∧ (∃ H : GH, ∃ v207 : Value, ∃ n208 : Nat, ∃ cs209 : List Value, ∃ v211 : Value, ∃ n212 : Nat, ∃ cs213 : List Value, St Ha wa H w [.box b21 148 [Value.int .i64 s206.2.2.1, Value.int .i64 s206.2.2.2.1, v211, v207, Value.int .i64 s206.2.2.2.2.1], .row 99 1 v207 n208 cs209, .row 99 1 v211 n212 cs213, .box b153 4 [Value.bool s206.2.2.2.2.2], .row 99 1 v168 n169 cs170] ∧ Inc H191 H ∧ Els (up wa.heap.size H) (eL eI 1) 1 cs209 s206.1 ∧ Els (up wa.heap.size H) (eL eI 1) 1 cs213 s206.2.1 ∧ (bl cs213).Nodup) | .rt x => ((e = Exit.ret) ∧ (fun e f w => (e = Exit.normal ∨ e = Exit.ret) ∧ ∀ a, Fr (δ := []) 49 a f → ∃ v, (results Tryz.f207 a.tmps).run Tryz.prog w = .ok v w ∧ R195 x (.returned v) w) e f w)) hq ⟨_, _, _, _, _, _, _, S192, (Inc.rfl _), (els146.mono (up_mono i193)), (els151.mono (up_mono i193)), nd152, rfl, rfl, rfl, rfl, rfl, rfl⟩ ?_ ?_) ?_
            ·
              clear hp hq
              rintro i206 s206 f220 w219 ⟨H216, v207, n208, cs209, v211, n212, cs213, S217, i218, els210, els214, nd215, k221, k222, k223, k224, k225, k226⟩ hi206 hj206 o396 hp
              refine FW.seq (FW.region ?_)
              refine FL.v (E.lssT k221 k226 (lss_chk hj206 hchk206)) ?_
              refine FL.nil (FW.seq ?_)
              refine FW.condT rfl rfl ?_
              refine FW.skip (FW.seq (FW.block (FW.seq (FW.region ?_))))
              obtain ⟨x233, hx234, hp⟩ := bnd hp
              obtain ⟨p227, cs228, pt229, l230, at231, rel232⟩ := S217.row_at (i := 4) rfl els171 (by decide) hx234
              obtain ⟨v235, rfl, h236⟩ := eL_open rel232
              refine FL.v (E.indexAddr te103 k225 k221 pt229) ?_
              refine FL.v (E.load rfl (run_load0 Tryz.isAgg99 at231 rfl)) ?_
              refine FL.v (E.assign (v := v235) rfl) ?_
              refine FL.nil (FW.seq (FW.region ?_))
              refine FL.v (E.assign (v := Value.int .i64 1) rfl) ?_
              refine FL.nil ?_
              obtain ⟨q237, hq, hp⟩ := bndR hp
              refine FW.block ?_
              refine FW.mono (FW.iter (S := ((List (List Int)) × (List (List Int)) × Int × Int × Int × Bool × Int)) (X := (Lp ((List (List Int)) × (List (List Int)) × Int × Int × Int × Bool) ((List (List Int)) × (List (List Int)) × Int × Int × Int × Bool × Bool))) (fun (s237 : ((List (List Int)) × (List (List Int)) × Int × Int × Int × Bool × Int)) f w => ∃ H : GH, ∃ v238 : Value, ∃ n239 : Nat, ∃ cs240 : List Value, ∃ v242 : Value, ∃ n243 : Nat, ∃ cs244 : List Value, St Ha wa H w [.box b21 148 [Value.int .i64 s237.2.2.1, Value.int .i64 s237.2.2.2.1, v242, v238, Value.int .i64 s237.2.2.2.2.1], .row 99 1 v238 n239 cs240, .row 99 1 v242 n243 cs244, .box b153 4 [Value.bool s237.2.2.2.2.2.1], .row 99 1 v168 n169 cs170] ∧ Inc H216 H ∧ Els (up wa.heap.size H) (eL eI 1) 1 cs240 s237.1 ∧ Els (up wa.heap.size H) (eL eI 1) 1 cs244 s237.2.1 ∧ (bl cs244).Nodup ∧ f 0 = Value.pointer (some q0P) ∧ f 2 = Value.int .i64 a1 ∧ f 3 = Value.func (.func 209) #[] #[Value.pointer (some ⟨b29, 0, none⟩), Value.pointer (some (⟨b153, 0, none⟩ : Addr))] ∧ f 10 = v235 ∧ f 11 = Value.int .i64 s237.2.2.2.2.2.2 ∧ f 12 = v168 ∧ f 13 = Value.int .i64 (len s167) ∧ f 14 = Value.int .i64 ((i206 : Nat) : Int)) (fun q e f w => match q with | .go s237 => e = Exit.exit 2 ∧ (∃ H : GH, ∃ v238 : Value, ∃ n239 : Nat, ∃ cs240 : List Value, ∃ v242 : Value, ∃ n243 : Nat, ∃ cs244 : List Value, St Ha wa H w [.box b21 148 [Value.int .i64 s237.2.2.1, Value.int .i64 s237.2.2.2.1, v242, v238, Value.int .i64 s237.2.2.2.2.1], .row 99 1 v238 n239 cs240, .row 99 1 v242 n243 cs244, .box b153 4 [Value.bool s237.2.2.2.2.2.1], .row 99 1 v168 n169 cs170] ∧ Inc H216 H ∧ Els (up wa.heap.size H) (eL eI 1) 1 cs240 s237.1 ∧ Els (up wa.heap.size H) (eL eI 1) 1 cs244 s237.2.1 ∧ (bl cs244).Nodup ∧ f 0 = Value.pointer (some q0P) ∧ f 2 = Value.int .i64 a1 ∧ f 3 = Value.func (.func 209) #[] #[Value.pointer (some ⟨b29, 0, none⟩), Value.pointer (some (⟨b153, 0, none⟩ : Addr))] ∧ f 12 = v168 ∧ f 13 = Value.int .i64 (len s167) ∧ f 14 = Value.int .i64 ((i206 : Nat) : Int)) | .rt x => ((e = Exit.ret) ∧ (Rd ((fun (i206 : Nat) (s206 : ((List (List Int)) × (List (List Int)) × Int × Int × Int × Bool)) f w => ∃ H : GH, ∃ v207 : Value, ∃ n208 : Nat, ∃ cs209 : List Value, ∃ v211 : Value, ∃ n212 : Nat, ∃ cs213 : List Value, St Ha wa H w [.box b21 148 [Value.int .i64 s206.2.2.1, Value.int .i64 s206.2.2.2.1, v211, v207, Value.int .i64 s206.2.2.2.2.1], .row 99 1 v207 n208 cs209, .row 99 1 v211 n212 cs213, .box b153 4 [Value.bool s206.2.2.2.2.2], .row 99 1 v168 n169 cs170] ∧ Inc H191 H ∧ Els (up wa.heap.size H) (eL eI 1) 1 cs209 s206.1 ∧ Els (up wa.heap.size H) (eL eI 1) 1 cs213 s206.2.1 ∧ (bl cs213).Nodup ∧ f 14 = Value.int .i64 ((i206 : Nat) : Int) ∧ f 0 = Value.pointer (some q0P) ∧ f 2 = Value.int .i64 a1 ∧ f 3 = Value.func (.func 209) #[] #[Value.pointer (some ⟨b29, 0, none⟩), Value.pointer (some (⟨b153, 0, none⟩ : Addr))] ∧ f 12 = v168 ∧ f 13 = Value.int .i64 (len s167)) (i206 + 1)) (fun q e f w => match q with | .go s206 => e = Exit.exit 0 ∧ (∃ H : GH, ∃ v207 : Value, ∃ n208 : Nat, ∃ cs209 : List Value, ∃ v211 : Value, ∃ n212 : Nat, ∃ cs213 : List Value, St Ha wa H w [.box b21 148 [Value.int .i64 s206.2.2.1, Value.int .i64 s206.2.2.2.1, v211, v207, Value.int .i64 s206.2.2.2.2.1], .row 99 1 v207 n208 cs209, .row 99 1 v211 n212 cs213, .box b153 4 [Value.bool s206.2.2.2.2.2], .row 99 1 v168 n169 cs170] ∧ Inc H191 H ∧ Els (up wa.heap.size H) (eL eI 1) 1 cs209 s206.1 ∧ Els (up wa.heap.size H) (eL eI 1) 1 cs213 s206.2.1 ∧ (bl cs213).Nodup) | .rt x => ((e = Exit.ret) ∧ (fun e f w => (e = Exit.normal ∨ e = Exit.ret) ∧ ∀ a, Fr (δ := []) 49 a f → ∃ v, (results Tryz.f207 a.tmps).run Tryz.prog w = .ok v w ∧ R195 x (.returned v) w) e f w)) x) e f w)) hq ⟨_, _, _, _, _, _, _, S217, (Inc.rfl _), els210, els214, nd215, k222, k223, k224, rfl, rfl, k225, k226, k221⟩ ?_) ?_
              ·
                clear hp hq
                rintro s237 f251 w250 ⟨H247, v238, n239, cs240, v242, n243, cs244, S248, i249, els241, els245, nd246, k252, k253, k254, k255, k256, k257, k258, k259⟩ o384 hp
                refine FW.seq (FW.seq (FW.region ?_))
                refine FL.v (E.move k256) ?_
                refine FL.v (E.move k252) ?_
                refine FL.v (E.nilCheck rfl) ?_
                refine FL.v (E.fieldAddr tf105_0 rfl) ?_
                refine FL.v (E.fieldAddrN tf102_1 rfl rfl) ?_
                refine FL.v (E.load rfl (run_load1 Tryz.isAgg3 ((c0P.mono (((((i38.tr i129).tr i156).tr i193).tr i218).tr i249)).now S248.sl) rfl)) ?_
                refine FL.v (E.leq rfl rfl) ?_
                refine FL.v (E.move (v := Value.bool (decide (s237.2.2.2.2.2.2 ≤ a0.ring.vars))) rfl) ?_
                obtain ⟨t260, hqt260, hp⟩ := bnd hp
                refine FL.cut 5 (fun f w => ∃ H : GH, St Ha wa H w [.box b21 148 [Value.int .i64 s237.2.2.1, Value.int .i64 s237.2.2.2.1, v242, v238, Value.int .i64 s237.2.2.2.2.1], .row 99 1 v238 n239 cs240, .row 99 1 v242 n243 cs244, .box b153 4 [Value.bool s237.2.2.2.2.2.1], .row 99 1 v168 n169 cs170] ∧ Inc H247 H ∧ f 0 = Value.pointer (some q0P) ∧ f 2 = Value.int .i64 a1 ∧ f 3 = Value.func (.func 209) #[] #[Value.pointer (some ⟨b29, 0, none⟩), Value.pointer (some (⟨b153, 0, none⟩ : Addr))] ∧ f 10 = v235 ∧ f 11 = Value.int .i64 s237.2.2.2.2.2.2 ∧ f 12 = v168 ∧ f 13 = Value.int .i64 (len s167) ∧ f 14 = Value.int .i64 ((i206 : Nat) : Int) ∧ f 30 = Value.bool t260) ?_ ?_
                ·
                  clear hp; have hp := hqt260; clear hqt260
                  rcases ifB hp with ⟨c266, hp⟩ | ⟨c266, hp⟩
                  ·
                    refine FL.val (wF_yes rfl rfl rfl c266) rfl rfl (E.move k255) ?_
                    obtain ⟨r267, hr268, hp⟩ := bnd hp
                    refine FL.call (wF_yes rfl rfl rfl c266) rfl rfl (E.call Tryz.call130 (A1 rfl)) (w_impl_dense_degree S248.sl v235 x233 (h236.mono (upI.tr (i218.tr i249))) hr268) ?_
                    rintro e w269 ⟨rfl, r270⟩
                    refine ⟨_, rfl, ?_⟩
                    have S271 := S248.call r270
                    refine FL.val (wF_yes rfl rfl rfl c266) rfl rfl (E.move k253) ?_
                    refine FL.val (wF_yes rfl rfl rfl c266) rfl rfl (E.lss rfl rfl) ?_
                    obtain rfl := Option.some.inj hp
                    refine FL.v (E.pickT rfl c266 rfl) ?_
                    exact FL.nil ⟨rfl, _, S271, (Inc.rfl _), k252, k253, k254, k255, k256, k257, k258, k259, rfl⟩
                  ·
                    refine FL.skip (wF_no rfl rfl rfl c266) rfl ?_
                    refine FL.skip (wF_no rfl rfl rfl c266) rfl ?_
                    refine FL.skip (wF_no rfl rfl rfl c266) rfl ?_
                    refine FL.skip (wF_no rfl rfl rfl c266) rfl ?_
                    obtain rfl := Option.some.inj hp
                    refine FL.v (E.pickF rfl c266 rfl) ?_
                    exact FL.nil ⟨rfl, _, S248, (Inc.rfl _), k252, k253, k254, k255, k256, k257, k258, k259, rfl⟩
                rintro f265 w264 ⟨H261, S262, i263, k272, k273, k274, k275, k276, k277, k278, k279, k280⟩
                refine FL.nil ?_
                rcases ifB hp with ⟨c281, hp⟩ | ⟨c281, hp⟩
                ·
                  refine FW.condT k280 c281 ?_
                  refine FW.skip (FW.seq (FW.block (FW.seq ?_)))
                  obtain ⟨r285, hr286, hp⟩ := bnd hp
                  obtain ⟨r300, hr301, hp⟩ := bnd hp
                  obtain ⟨s317, hq317, hp⟩ := bnd hp
                  refine FW.drawB (Sl H261) (fun f w => ∃ H : GH, ∃ v360 : Value, ∃ n361 : Nat, ∃ cs362 : List Value, ∃ v364 : Value, ∃ n365 : Nat, ∃ cs366 : List Value, St Ha wa H w [.box b21 148 [Value.int .i64 s317.2.2.1, Value.int .i64 s317.2.2.2.1, v364, v360, Value.int .i64 s317.2.2.2.2.1], .row 99 1 v360 n361 cs362, .row 99 1 v364 n365 cs366, .box b153 4 [Value.bool s317.2.2.2.2.2.1], .row 99 1 v168 n169 cs170] ∧ Inc H261 H ∧ Els (up wa.heap.size H) (eL eI 1) 1 cs362 s317.1 ∧ Els (up wa.heap.size H) (eL eI 1) 1 cs366 s317.2.1 ∧ (bl cs366).Nodup ∧ f 0 = Value.pointer (some q0P) ∧ f 2 = Value.int .i64 a1 ∧ f 3 = Value.func (.func 209) #[] #[Value.pointer (some ⟨b29, 0, none⟩), Value.pointer (some (⟨b153, 0, none⟩ : Addr))] ∧ f 10 = v235 ∧ f 11 = Value.int .i64 s237.2.2.2.2.2.2 ∧ f 12 = v168 ∧ f 13 = Value.int .i64 (len s167) ∧ f 14 = Value.int .i64 ((i206 : Nat) : Int) ∧ f 47 = Value.bool (!s317.2.2.2.2.2.2)) (by kernel_rfl) S262.sl ?_ ?_
                  ·
                    intro w282 r283
                    have S284 := S262.call r283
                    refine FB.t (i := 0) (bs 15 1) rfl (SP.nil S284.sl) rfl (fun w' hw' => (E.move k274)) ?_
                    refine FB.t (i := 1) (bs 15 3) rfl (SP.nil S284.sl) rfl (fun w' hw' => (E.move k272)) ?_
                    refine FB.t (i := 2) (bs 15 7) rfl (SP.nil S284.sl) rfl (fun w' hw' => (E.nilCheck rfl)) ?_
                    refine FB.t (i := 3) (bs 15 15) rfl (SP.nil S284.sl) rfl (fun w' hw' => (E.fieldAddr tf105_0 rfl)) ?_
                    refine FB.t (i := 4) (bs 15 31) rfl (SP.nil S284.sl) rfl (fun w' hw' => (E.load rfl (run_loadA Tryz.isAgg102 Tryz.sizeOf102 (((c0P.mono ((((((i38.tr i129).tr i156).tr i193).tr i218).tr i249).tr i263)).now hw').sub (j := 0) (n := 2) (c := [Value.int .i64 a0.ring.p, Value.int .i64 a0.ring.vars]) rfl) rfl))) ?_
                    refine FB.t (i := 5) (bs 15 63) rfl (SP.nil S284.sl) rfl (fun w' hw' => (E.move k275)) ?_
                    refine FB.t (i := 6) (bs 15 127) rfl (SP.nil S284.sl) rfl (fun w' hw' => (E.move k272)) ?_
                    refine FB.t (i := 7) (bs 15 255) rfl (SP.nil S284.sl) rfl (fun w' hw' => (E.nilCheck rfl)) ?_
                    refine FB.t (i := 8) (bs 15 511) rfl (SP.nil S284.sl) rfl (fun w' hw' => (E.fieldAddr tf105_0 rfl)) ?_
                    refine FB.t (i := 9) (bs 15 1023) rfl (SP.nil S284.sl) rfl (fun w' hw' => (E.load rfl (run_loadA Tryz.isAgg102 Tryz.sizeOf102 (((c0P.mono ((((((i38.tr i129).tr i156).tr i193).tr i218).tr i249).tr i263)).now hw').sub (j := 0) (n := 2) (c := [Value.int .i64 a0.ring.p, Value.int .i64 a0.ring.vars]) rfl) rfl))) ?_
                    refine FB.t (i := 10) (bs 15 2047) rfl (SP.nil S284.sl) rfl (fun w' hw' => (E.move k276)) ?_
                    refine FB.all1 (i := 11) (by kernel_rfl) ?_
                    ·
                      refine FC.call (l' := (bs 15 4095)) rfl (by kernel_rfl) rfl rfl rfl (E.call Tryz.call125 (A2 rfl rfl)) (w_impl_ring_literal S284.sl a0.ring s237.2.2.2.2.2.2 hr286) ?_
                      rintro e w288 ⟨H287, v291, n292, cs293, rfl, r290, els294⟩
                      refine ⟨_, rfl, ?_⟩
                      have els294 := els294.mono (up_le S284.size)
                      have S289 := S284.join (l' := [.row 3 1 v291 n292 cs293, .box b21 148 [Value.int .i64 s237.2.2.1, Value.int .i64 s237.2.2.2.1, v242, v238, Value.int .i64 s237.2.2.2.2.1], .row 99 1 v238 n239 cs240, .row 99 1 v242 n243 cs244, .box b153 4 [Value.bool s237.2.2.2.2.2.1], .row 99 1 v168 n169 cs170]) r290 rfl
                      refine ⟨(SP.nil (Sl.of_inc r290.run.inc S289.sl)), ?_⟩
                      refine FB.all1 (i := 12) (by kernel_rfl) ?_
                      ·
                        obtain ⟨H295, S296, i297, h298, nv299⟩ := S289.sealRowU (i := 0) (l' := [.box b21 148 [Value.int .i64 s237.2.2.1, Value.int .i64 s237.2.2.2.1, v242, v238, Value.int .i64 s237.2.2.2.2.1], .row 99 1 v238 n239 cs240, .row 99 1 v242 n243 cs244, .box b153 4 [Value.bool s237.2.2.2.2.2.1], .row 99 1 v168 n169 cs170]) rfl els294 (by decide) rfl
                        refine FC.call (l' := (bs 15 8191)) rfl (by kernel_rfl) rfl rfl rfl (E.call Tryz.call124 (A3 rfl rfl rfl)) (w_impl_ring_times S296.sl a0.ring v235 x233 (h236.mono (upI.tr ((((i218.tr i249).tr i263).tr r290.run.inc).tr i297))) v291 r285 (h298.mono upI) hr301) ?_
                        rintro e w303 ⟨H302, v308, n309, cs310, rfl, r305, els311⟩
                        refine ⟨_, rfl, ?_⟩
                        obtain ⟨H306, r305, hU307⟩ := St.lendX i297 S289.sl r305
                        have els311 := els311.mono (hU307.tr (up_le S289.size))
                        have S304 := S289.join (l' := [.row 3 1 v308 n309 cs310, .row 3 1 v291 n292 cs293, .box b21 148 [Value.int .i64 s237.2.2.1, Value.int .i64 s237.2.2.2.1, v242, v238, Value.int .i64 s237.2.2.2.2.1], .row 99 1 v238 n239 cs240, .row 99 1 v242 n243 cs244, .box b153 4 [Value.bool s237.2.2.2.2.2.1], .row 99 1 v168 n169 cs170]) r305 rfl
                        refine ⟨(SP.nil (Sl.of_inc (r290.run.inc.tr r305.run.inc) S304.sl)), ?_⟩
                        refine FB.all1 (i := 13) (by kernel_rfl) ?_
                        ·
                          obtain ⟨H312, S313, i314, h315, nv316⟩ := S304.sealRowU (i := 0) (l' := [.row 3 1 v291 n292 cs293, .box b21 148 [Value.int .i64 s237.2.2.1, Value.int .i64 s237.2.2.2.1, v242, v238, Value.int .i64 s237.2.2.2.2.1], .row 99 1 v238 n239 cs240, .row 99 1 v242 n243 cs244, .box b153 4 [Value.bool s237.2.2.2.2.2.1], .row 99 1 v168 n169 cs170]) rfl els311 (by decide) rfl
                          obtain ⟨R317, hR317⟩ : ∃ R317 : ((List (List Int)) × (List (List Int)) × Int × Int × Int × Bool × Bool) → Ending → World → Prop, R317 = (fun s317 e w => ∃ H : GH, ∃ v318 : Value, ∃ n319 : Nat, ∃ cs320 : List Value, ∃ v322 : Value, ∃ n323 : Nat, ∃ cs324 : List Value, e = Ending.returned (Value.bool s317.2.2.2.2.2.2) ∧ St Ha wa H w [.row 3 1 v291 n292 cs293, .box b21 148 [Value.int .i64 s317.2.2.1, Value.int .i64 s317.2.2.2.1, v322, v318, Value.int .i64 s317.2.2.2.2.1], .row 99 1 v318 n319 cs320, .row 99 1 v322 n323 cs324, .box b153 4 [Value.bool s317.2.2.2.2.2.1], .row 99 1 v168 n169 cs170] ∧ Inc H312 H ∧ Els (up wa.heap.size H) (eL eI 1) 1 cs320 s317.1 ∧ Els (up wa.heap.size H) (eL eI 1) 1 cs324 s317.2.1 ∧ (bl cs324).Nodup) := ⟨_, rfl⟩
                          have hc317 : Calls Tryz.prog 209 #[v308, Value.pointer (some ⟨b29, 0, none⟩), Value.pointer (some (⟨b153, 0, none⟩ : Addr))] w303 (R317 s317) := by
                            clear hp; have hp := hq317; clear hq317
                            refine calls_go (N := 11) (args := [v308, Value.pointer (some ⟨b29, 0, none⟩), Value.pointer (some (⟨b153, 0, none⟩ : Addr))]) Tryz.func209 rfl rfl rfl ?_
                            refine FW.seq (FW.region ?_)
                            refine FL.v (E.assign (v := Value.bool false) rfl) ?_
                            refine FL.nil (FW.seq (FW.region ?_))
                            refine FL.v (E.load rfl (run_load0 Tryz.isAgg138 ((at39.mono ((((((((i129.tr i156).tr i193).tr i218).tr i249).tr i263).tr r290.run.inc).tr r305.run.inc).tr i314)).now S313.sl) rfl)) ?_
                            refine FL.v (E.move (v := v308) rfl) ?_
                            obtain ⟨r327, hr328, hp⟩ := bnd hp
                            have S329 : St Ha wa H312 w303 [.row 99 1 v238 n239 cs240, .row 3 1 v291 n292 cs293, .box b21 148 [Value.int .i64 s237.2.2.1, Value.int .i64 s237.2.2.2.1, v242, v238, Value.int .i64 s237.2.2.2.2.1], .row 99 1 v242 n243 cs244, .box b153 4 [Value.bool s237.2.2.2.2.2.1], .row 99 1 v168 n169 cs170] := S313.front 2 rfl rfl
                            have S330 : St Ha wa H312 w303 [.row 99 1 v242 n243 cs244, .row 99 1 v238 n239 cs240, .row 3 1 v291 n292 cs293, .box b21 148 [Value.int .i64 s237.2.2.1, Value.int .i64 s237.2.2.2.1, v242, v238, Value.int .i64 s237.2.2.2.2.1], .box b153 4 [Value.bool s237.2.2.2.2.2.1], .row 99 1 v168 n169 cs170] := S329.front 3 rfl rfl
                            have S331 : St Ha wa H312 w303 [.box b21 148 [Value.int .i64 s237.2.2.1, Value.int .i64 s237.2.2.2.1, v242, v238, Value.int .i64 s237.2.2.2.2.1], .row 99 1 v242 n243 cs244, .row 99 1 v238 n239 cs240, .row 3 1 v291 n292 cs293, .box b153 4 [Value.bool s237.2.2.2.2.2.1], .row 99 1 v168 n169 cs170] := S330.front 3 rfl rfl
                            refine FL.call rfl rfl rfl (E.call Tryz.call206 (A2 rfl rfl)) (w_impl_echelon_add (L := [.row 3 1 v291 n292 cs293, .box b153 4 [Value.bool s237.2.2.2.2.2.1], .row 99 1 v168 n169 cs170]) S331 (a0 := (echelon.mk (ring.mk s237.2.2.1 s237.2.2.2.1) s237.2.1 s237.1 s237.2.2.2.2.1)) (els245.mono (up_mono (((i263.tr r290.run.inc).tr r305.run.inc).tr i314))) nd246 (els241.mono (up_mono (((i263.tr r290.run.inc).tr r305.run.inc).tr i314))) v308 r300 (h315.mono upI) hr328) ?_
                            rintro e w333 ⟨H332, v336, n337, cs338, v341, n342, cs343, rfl, ⟨S334, i335⟩, els339, nd340, els344⟩
                            refine ⟨_, rfl, ?_⟩
                            have S334 : St Ha wa H332 w333 [.box b21 148 [Value.int .i64 r327.2.ring.p, Value.int .i64 r327.2.ring.vars, v336, v341, Value.int .i64 r327.2.many], .row 99 1 v336 n337 cs338, .row 99 1 v341 n342 cs343, .row 3 1 v291 n292 cs293, .box b153 4 [Value.bool s237.2.2.2.2.2.1], .row 99 1 v168 n169 cs170] := S334
                            refine FL.v (E.move (v := Value.bool r327.1) rfl) ?_
                            refine FL.cut 2 (fun f w => ∃ H : GH, St Ha wa H w [.box b21 148 [Value.int .i64 r327.2.ring.p, Value.int .i64 r327.2.ring.vars, v336, v341, Value.int .i64 r327.2.many], .row 99 1 v336 n337 cs338, .row 99 1 v341 n342 cs343, .row 3 1 v291 n292 cs293, .box b153 4 [Value.bool s237.2.2.2.2.2.1], .row 99 1 v168 n169 cs170] ∧ Inc H332 H ∧ f 2 = Value.pointer (some (⟨b153, 0, none⟩ : Addr)) ∧ f 10 = Value.bool (bif r327.1 then true else s237.2.2.2.2.2.1)) ?_ ?_
                            ·
                              rcases bcase r327.1 with c350 | c350
                              ·
                                refine FL.skip (wF_no rfl rfl rfl c350) rfl ?_
                                refine FL.v (E.pickT rfl c350 rfl) ?_
                                exact FL.nil ⟨rfl, _, S334, (Inc.rfl _), rfl, (congrArg Value.bool (bifT c350).symm)⟩
                              ·
                                refine FL.val (wF_yes rfl rfl rfl c350) rfl rfl (E.load rfl (run_load0 Tryz.isAgg4 (S334.box_now (i := 4) rfl) rfl)) ?_
                                refine FL.v (E.pickF rfl c350 rfl) ?_
                                exact FL.nil ⟨rfl, _, S334, (Inc.rfl _), rfl, (congrArg Value.bool (bifF c350).symm)⟩
                            rintro f349 w348 ⟨H345, S346, i347, k351, k352⟩
                            obtain ⟨w353, run354, S355⟩ := S346.store0 (P := Tryz.prog) (t := 4) (i := 4) (cs' := [Value.bool (bif r327.1 then true else s237.2.2.2.2.2.1)]) (l' := [.box b21 148 [Value.int .i64 r327.2.ring.p, Value.int .i64 r327.2.ring.vars, v336, v341, Value.int .i64 r327.2.many], .row 99 1 v336 n337 cs338, .row 99 1 v341 n342 cs343, .row 3 1 v291 n292 cs293, .box b153 4 [Value.bool (bif r327.1 then true else s237.2.2.2.2.2.1)], .row 99 1 v168 n169 cs170]) (v := Value.bool (bif r327.1 then true else s237.2.2.2.2.2.1)) (c := [Value.bool (bif r327.1 then true else s237.2.2.2.2.2.1)]) rfl Tryz.sizeOf4 rfl rfl (ones_cons rfl ones_nil) (Nat.le_of_ble_eq_true rfl) rfl rfl
                            refine FL.act rfl rfl (E.store k351 k352 run354) ?_
                            refine FL.nil (FW.seq (FW.region ?_))
                            refine FL.v (E.assign (v := Value.bool true) rfl) ?_
                            refine FL.nil ?_
                            refine FW.ret ?_
                            obtain rfl := Option.some.inj hp
                            exact ⟨.inr rfl, res1 rfl rfl (by rw [hR317]; exact ⟨_, _, _, _, _, _, _, rfl, (S355.sel [3, 0, 2, 1, 4, 5] (by decide) rfl), (i335.tr i347), (els344.mono (up_mono i347)), (els339.mono (up_mono i347)), nd340⟩)⟩
                          clear hq317
                          refine FC.call (l' := (bs 15 16383)) rfl (by kernel_rfl) rfl rfl rfl (E.callV Tryz.call209 rfl (appA (A1 rfl) #[Value.pointer (some ⟨b29, 0, none⟩), Value.pointer (some (⟨b153, 0, none⟩ : Addr))])) hc317 ?_
                          intro e w359 hQ317
                          rw [hR317] at hQ317
                          obtain ⟨H356, v318, n319, cs320, v322, n323, cs324, rfl, S357, i358, els321, els325, nd326⟩ := hQ317
                          refine ⟨_, rfl, ?_⟩
                          refine ⟨(SP.nil (Sl.of_inc (((r290.run.inc.tr r305.run.inc).tr i314).tr i358) S357.sl)), ?_⟩
                          refine FB.t (i := 14) (bs 15 32767) rfl (SP.nil (Sl.of_inc (((r290.run.inc.tr r305.run.inc).tr i314).tr i358) S357.sl)) rfl (fun w' hw' => (E.not rfl)) ?_
                          exact FB.done (by kernel_rfl) ⟨_, _, _, _, _, _, _, (S357.sel [1, 2, 3, 4, 5] (by decide) rfl), (((r290.run.inc.tr r305.run.inc).tr i314).tr i358), els321, els325, nd326, k272, k273, k274, k275, k276, k277, k278, k279, rfl⟩
                  ·
                    rintro f373 w372 ⟨H369, v360, n361, cs362, v364, n365, cs366, S370, i371, els363, els367, nd368, k374, k375, k376, k377, k378, k379, k380, k381, k382⟩
                    rcases ifB hp with ⟨c383, hp⟩ | ⟨c383, hp⟩
                    ·
                      refine FW.condT k382 c383 ?_
                      refine FW.seq (FW.region ?_)
                      refine FL.v (E.assign (v := Value.bool false) rfl) ?_
                      refine FL.nil ?_
                      refine FW.ret ?_
                      obtain rfl := Option.some.inj hp
                      exact ⟨nofun, rfl, ⟨nofun, rfl, ⟨.inr rfl, res1 rfl rfl (by rw [hR195]; exact ⟨_, _, _, _, _, _, _, rfl, S370, (((i218.tr i249).tr i263).tr i371), els363, els367, nd368⟩)⟩⟩⟩
                    ·
                      refine FW.condF k382 c383 ?_
                      refine FW.skip (FW.region ?_)
                      refine FL.v (E.move k378) ?_
                      refine FL.v (E.add rfl rfl) ?_
                      refine FL.v (E.assign (v := Value.int .i64 (wr (s237.2.2.2.2.2.2 + 1))) rfl) ?_
                      refine FL.nil ?_
                      obtain rfl := Option.some.inj hp
                      exact ⟨rfl, ⟨_, _, _, _, _, _, _, S370, ((i249.tr i263).tr i371), els363, els367, nd368, k374, k375, k376, k377, rfl, k379, k380, k381⟩⟩
                ·
                  refine FW.condF k280 c281 ?_
                  refine FW.exit ?_
                  obtain rfl := Option.some.inj hp
                  exact ⟨nofun, rfl, ⟨_, _, _, _, _, _, _, S262, (i249.tr i263), (els241.mono (up_mono i263)), (els245.mono (up_mono i263)), nd246, k272, k273, k274, k277, k278, k279⟩⟩
              ·
                clear hq
                intro e f389 w388 hD
                rcases q237 with s237 | x237
                ·
                  obtain ⟨rfl, hD⟩ := hD
                  obtain ⟨H385, v238, n239, cs240, v242, n243, cs244, S386, i387, els241, els245, nd246, k390, k391, k392, k393, k394, k395⟩ := hD
                  replace hp := el_go hp
                  refine FW.region ?_
                  refine FL.v (E.add k395 rfl) ?_
                  refine FL.v (E.move (v := Value.int .i64 (wr (((i206 : Nat) : Int) + 1))) rfl) ?_
                  refine FL.nil ?_
                  obtain rfl := Option.some.inj hp
                  exact ⟨rfl, ⟨_, _, _, _, _, _, _, S386, (i218.tr i387), els241, els245, nd246, (nat_succ rfl hj206 (chk_le hchk206)), k390, k391, k392, k393, k394⟩⟩
                ·
                  obtain ⟨he, hL⟩ := hD
                  replace hp := el_rt hp
                  obtain rfl := Option.some.inj hp
                  subst he
                  exact hL
            ·
              clear hp hq
              rintro s206 f406 w405 ⟨H402, v207, n208, cs209, v211, n212, cs213, S403, i404, els210, els214, nd215, k407, k408, k409, k410, k411, k412⟩
              refine FW.seq (FW.region ?_)
              refine FL.v (E.lss k407 k412) ?_
              refine FL.nil (FW.seq ?_)
              refine FW.condF rfl (dlt_maxchk hchk206) ?_
              refine FW.exit ?_
              exact ⟨nofun, rfl, ⟨_, _, _, _, _, _, _, S403, i404, els210, els214, nd215⟩⟩
            ·
              clear hq
              intro e f401 w400 hD
              rcases q206 with s206 | x206
              ·
                obtain ⟨rfl, hD⟩ := hD
                obtain ⟨H397, v207, n208, cs209, v211, n212, cs213, S398, i399, els210, els214, nd215⟩ := hD
                replace hp := el_go hp
                refine FW.seq (FW.region ?_)
                refine FL.v (E.assign (v := Value.bool true) rfl) ?_
                refine FL.nil ?_
                refine FW.ret ?_
                obtain rfl := Option.some.inj hp
                exact ⟨.inr rfl, res1 rfl rfl (by rw [hR195]; exact ⟨_, _, _, _, _, _, _, rfl, S398, i399, els210, els214, nd215⟩)⟩
              ·
                obtain ⟨he, hL⟩ := hD
                replace hp := el_rt hp
                obtain rfl := Option.some.inj hp
                subst he
                exact hL
          clear hq195
          refine FL.call rfl rfl rfl (E.call Tryz.call207 (A4 rfl rfl rfl rfl)) hc195 ?_
          intro e w416 hQ195
          rw [hR195] at hQ195
          obtain ⟨H413, v196, n197, cs198, v200, n201, cs202, rfl, S414, i415, els199, els203, nd204⟩ := hQ195
          refine ⟨_, rfl, ?_⟩
          refine FL.nil (FW.seq (FW.region ?_))
          refine FL.v (E.load k162 (run_load0 Tryz.isAgg4 (S414.box_now (i := 3) rfl) rfl)) ?_
          refine FL.nil (FW.region ?_)
          obtain ⟨b417, w418, run419, S420⟩ := S414.alloc (P := Tryz.prog) 4 [Value.bool false] Tryz.zeroValue4 rfl (ones_cons rfl ones_nil)
          refine FL.v (E.alloc run419) ?_
          obtain ⟨w421, run422, S423⟩ := S420.store0 (P := Tryz.prog) (t := 4) (i := 0) (cs' := [Value.bool s195.2.2.2.2.2.1]) (l' := [.box b417 4 [Value.bool s195.2.2.2.2.2.1], .box b21 148 [Value.int .i64 s195.2.2.1, Value.int .i64 s195.2.2.2.1, v200, v196, Value.int .i64 s195.2.2.2.2.1], .row 99 1 v196 n197 cs198, .row 99 1 v200 n201 cs202, .box b153 4 [Value.bool s195.2.2.2.2.2.1], .row 99 1 v168 n169 cs170]) (v := Value.bool s195.2.2.2.2.2.1) (c := [Value.bool s195.2.2.2.2.2.1]) rfl Tryz.sizeOf4 rfl rfl (ones_cons rfl ones_nil) (Nat.le_of_ble_eq_true rfl) rfl rfl
          refine FL.act rfl rfl (E.store rfl rfl run422) ?_
          refine FL.nil ?_
          obtain rfl := Option.some.inj hp
          exact ⟨rfl, ⟨_, _, _, _, _, _, _, _, (S423.sel [1, 2, 3, 0] (by decide) rfl), ((i156.tr i193).tr i415), els199, els203, nd204, k159, k160, k161, rfl⟩⟩
        ·
          refine FW.condF rfl c163 ?_
          refine FW.exit ?_
          obtain rfl := Option.some.inj hp
          exact ⟨nofun, rfl, ⟨_, _, _, _, _, _, _, _, S155, i156, els146, els151, nd152, k161⟩⟩
      ·
        clear hq
        intro e f429 w428 hD
        rcases q142 with s142 | x142
        ·
          obtain ⟨rfl, hD⟩ := hD
          obtain ⟨H425, v143, n144, cs145, v147, n149, cs150, b153, S426, i427, els146, els151, nd152, k430⟩ := hD
          replace hp := el_go hp
          refine FW.seq (FW.region ?_)
          refine FL.v (E.load k430 (run_load0 Tryz.isAgg138 ((at39.mono (i129.tr i427)).now S426.sl) rfl)) ?_
          refine FL.v (E.nilCheck rfl) ?_
          refine FL.v (E.fieldAddr tf148_1 rfl) ?_
          refine FL.v (E.load rfl (run_load1 Tryz.isAgg103 (S426.box_now (i := 0) rfl) rfl)) ?_
          obtain ⟨r431, hr432, hp⟩ := bnd hp
          have S433 : St Ha wa H425 w428 [.row 99 1 v147 n149 cs150, .box b21 148 [Value.int .i64 s142.2.2.1, Value.int .i64 s142.2.2.2.1, v147, v143, Value.int .i64 s142.2.2.2.2.1], .row 99 1 v143 n144 cs145, .box b153 4 [Value.bool s142.2.2.2.2.2]] := S426.front 2 rfl rfl
          refine FL.call rfl rfl rfl (E.call Tryz.call210 (A2 rfl rfl)) (w_slices_SortFunc_impl_dense_impl_dense (L := [.box b21 148 [Value.int .i64 s142.2.2.1, Value.int .i64 s142.2.2.2.1, v147, v143, Value.int .i64 s142.2.2.2.2.1], .row 99 1 v143 n144 cs145, .box b153 4 [Value.bool s142.2.2.2.2.2]]) S433 s142.2.1 (els151.mono upI) (Value.func (.func 211) #[] #[]) (fun x0 x1 => PF.impl_algebra_span_2 x0 x1) (fun H2 w2 hi2 hs2 x0 y0 z0 x1 y1 z1 r hr => ⟨211, #[], rfl, Tryz.call211, w_impl_algebra_span_2 hs2 y0 x0 z0 y1 x1 z1  hr⟩) hr432) ?_
          rintro e w435 ⟨H434, cs438, rfl, ⟨S436, i437⟩, els439⟩
          refine ⟨_, rfl, ?_⟩
          have S436 : St Ha wa H434 w435 [.row 99 1 v147 n149 cs438, .box b21 148 [Value.int .i64 s142.2.2.1, Value.int .i64 s142.2.2.2.1, v147, v143, Value.int .i64 s142.2.2.2.2.1], .row 99 1 v143 n144 cs145, .box b153 4 [Value.bool s142.2.2.2.2.2]] := S436
          refine FL.nil (FW.seq ?_)
          obtain ⟨H440, S441, i442, h443, nv444⟩ := S436.sealRowU (i := 2) (l' := [.row 99 1 v147 n149 cs438, .box b21 148 [Value.int .i64 s142.2.2.1, Value.int .i64 s142.2.2.2.1, v147, v143, Value.int .i64 s142.2.2.2.2.1], .box b153 4 [Value.bool s142.2.2.2.2.2]]) rfl (els146.mono (up_mono i437)) (by decide) rfl
          obtain ⟨xs448, hm449, hp⟩ := bnd hp
          refine FW.drawB (Sl H440) (fun f w => ∃ H : GH, ∃ v468 : Value, St Ha wa H w [.row 99 1 v147 n149 cs438, .box b21 148 [Value.int .i64 s142.2.2.1, Value.int .i64 s142.2.2.2.1, v147, v468, Value.int .i64 s142.2.2.2.2.1]] ∧ Inc H440 H ∧ RSl (up wa.heap.size H) (eL eI 1) 1 v468 xs448 ∧ New H440 [v468] ∧ f 5 = Value.pointer (some ⟨b29, 0, none⟩)) (by kernel_rfl) S441.sl ?_ ?_
          ·
            intro w445 r446
            have S447 := S441.call r446
            refine FB.phase [] (fun w => WAt w (Addr.add ⟨b21, 0, none⟩ 2) [v147]) ?_
            refine FB.t (i := 0) (bs 10 1) rfl (SP.on ((S447.box_now (i := 1) rfl).sub (j := 2) (n := 1) (c := [v147]) rfl) (SP.nil S447.sl)) rfl (fun w' hw' => (E.load k430 (run_load0 Tryz.isAgg138 ((at39.mono (((i129.tr i427).tr i437).tr i442)).now hw') rfl))) ?_
            refine FB.t (i := 1) (bs 10 3) rfl (SP.on ((S447.box_now (i := 1) rfl).sub (j := 2) (n := 1) (c := [v147]) rfl) (SP.nil S447.sl)) rfl (fun w' hw' => (E.load k430 (run_load0 Tryz.isAgg138 ((at39.mono (((i129.tr i427).tr i437).tr i442)).now hw') rfl))) ?_
            refine FB.t (i := 2) (bs 10 7) rfl (SP.on ((S447.box_now (i := 1) rfl).sub (j := 2) (n := 1) (c := [v147]) rfl) (SP.nil S447.sl)) rfl (fun w' hw' => (E.nilCheck rfl)) ?_
            refine FB.t (i := 3) (bs 10 15) rfl (SP.on ((S447.box_now (i := 1) rfl).sub (j := 2) (n := 1) (c := [v147]) rfl) (SP.nil S447.sl)) rfl (fun w' hw' => (E.fieldAddr tf148_1 rfl)) ?_
            refine FB.p (i := 4) (bs 10 31) 0 [5, 6, 7, 8, 9] rfl (SP.on ((S447.box_now (i := 1) rfl).sub (j := 2) (n := 1) (c := [v147]) rfl) (SP.nil S447.sl)) rfl rfl (fun w' hw' => (E.load rfl (run_load0 Tryz.isAgg103 hw' rfl))) ?_
            refine FB.t (i := 5) (bs 10 63) rfl (SP.on ((S447.box_now (i := 1) rfl).sub (j := 2) (n := 1) (c := [v147]) rfl) (SP.nil S447.sl)) rfl (fun w' hw' => (E.lenOW te103 rfl S447 (i := 0) rfl els439 (by decide))) ?_
            refine FB.all1 (i := 6) (by kernel_rfl) ?_
            ·
              obtain ⟨v450, w451, n455, cs456, run452, S453, els454, hbl457⟩ := S447.makeEls (P := Tryz.prog) te103 (G := (up wa.heap.size H440)) (En := (eL eI 1)) (x0 := ([] : List Int)) hm449 ⟨_, rfl, RSl.nil _ _ _⟩ (ones_cons rfl ones_nil) .i64 .i64
              have nd458 : (bl cs456).Nodup := by rw [hbl457 (by simp [Value.cells, neb])]; exact List.nodup_nil
              refine FC.val (l' := (bs 10 127)) rfl (by kernel_rfl) rfl rfl rfl (E.makeSlice rfl rfl run452) ?_
              refine ⟨(SP.on ((S453.box_now (i := 2) rfl).sub (j := 2) (n := 1) (c := [v147]) rfl) (SP.nil S453.sl)), ?_⟩
              refine FB.t (i := 7) (bs 10 255) rfl (SP.on ((S453.box_now (i := 2) rfl).sub (j := 2) (n := 1) (c := [v147]) rfl) (SP.nil S453.sl)) rfl (fun w' hw' => (E.nilCheck rfl)) ?_
              refine FB.t (i := 8) (bs 10 511) rfl (SP.on ((S453.box_now (i := 2) rfl).sub (j := 2) (n := 1) (c := [v147]) rfl) (SP.nil S453.sl)) rfl (fun w' hw' => (E.fieldAddr tf148_2 rfl)) ?_
              refine FB.all1 (i := 9) (by kernel_rfl) ?_
              ·
                obtain ⟨w459, run460, S461⟩ := S453.store (P := Tryz.prog) (t := 103) (i := 2) (j := 3) (cs' := [Value.int .i64 s142.2.2.1, Value.int .i64 s142.2.2.2.1, v147, v450, Value.int .i64 s142.2.2.2.2.1]) (l' := [.row 99 1 v450 n455 cs456, .row 99 1 v147 n149 cs438, .box b21 148 [Value.int .i64 s142.2.2.1, Value.int .i64 s142.2.2.2.1, v147, v450, Value.int .i64 s142.2.2.2.2.1], .box b153 4 [Value.bool s142.2.2.2.2.2]]) (v := v450) (c := [v450]) rfl Tryz.sizeOf103 (Ln.cells (S453.row_ln (i := 0) rfl)) rfl (ones_cons (Ln.one (S453.row_ln (i := 0) rfl)) ones_nil) (Nat.le_of_ble_eq_true rfl) rfl rfl
                refine FC.act (l' := (bs 10 1023)) rfl (by kernel_rfl) rfl rfl (E.store rfl rfl run460) ?_
                refine ⟨(SP.on ((S461.box_now (i := 2) rfl).sub (j := 2) (n := 1) (c := [v147]) rfl) (SP.nil S461.sl)), ?_⟩
                obtain ⟨H462, S463, i464, ns467, nv466⟩ := S461.sealRowN (i := 0) (l' := [.row 99 1 v147 n149 cs438, .box b21 148 [Value.int .i64 s142.2.2.1, Value.int .i64 s142.2.2.2.1, v147, v450, Value.int .i64 s142.2.2.2.2.1], .box b153 4 [Value.bool s142.2.2.2.2.2]]) rfl els454 nd458 (by decide) rfl
                have h465 := ns467.rsl
                exact FB.done (by kernel_rfl) ⟨_, _, (S463.sel [0, 1] (by decide) rfl), i464, h465, (nv466.anti (Inc.rfl _)), k430⟩
          ·
            rintro f475 w474 ⟨H471, v468, S472, i473, h469, nv470, k476⟩
            refine FW.seq (FW.region ?_)
            refine FL.v (E.load k476 (run_load0 Tryz.isAgg138 ((at39.mono ((((i129.tr i427).tr i437).tr i442).tr i473)).now S472.sl) rfl)) ?_
            refine FL.v (E.assign (v := Value.pointer (some (⟨b21, 0, none⟩ : Addr))) rfl) ?_
            refine FL.nil ?_
            refine FW.ret ?_
            obtain ⟨H477, S478, i479, h480⟩ := S472.sealRow (i := 0) (l' := [.box b21 148 [Value.int .i64 s142.2.2.1, Value.int .i64 s142.2.2.2.1, v147, v468, Value.int .i64 s142.2.2.2.2.1]]) rfl (els439.mono (i442.tr i473)) (by decide) rfl
            obtain ⟨H481, S482, i483, at484⟩ := S478.sealBox (i := 0) (l' := []) rfl rfl
            obtain rfl := Option.some.inj hp
            exact ⟨.inr rfl, res1 rfl rfl ⟨_, _, rfl, S482.run, ⟨_, rfl, _, _, (h480.mono i483), (h469.mono (up_mono (i479.tr i483))), at484⟩⟩⟩
        · exact x142.elim
    · exact x41.elim

@[reducible] def p_impl_spanOf (Ha : GH) (wa : World) (r : ((Option algebra) × (Option echelon) × Bool)) : Ending → World → Prop :=
 fun e w' => ∃ H' : GH, ∃ v0 : Value, ∃ v1 : Value, e = .returned (Value.tuple #[v0, v1, Value.bool r.2.2]) ∧ Run wa.heap.size Ha wa H' w' ∧ OP (fun (q : Addr) (x : algebra) => ∃ v0R_3 : Value, ∃ v0R_4 : Value, RSl H' (eL eI 1) 1 v0R_3 x.f.clauses ∧ (∃ c, Nest (up wa.heap.size H') (eL eI 1) 1 v0R_4 x.q c) ∧ CAt H' q [Value.int .i64 x.ring.p, Value.int .i64 x.ring.vars, Value.int .i64 x.f.vars, v0R_3, v0R_4]) v0 r.1 ∧ OP (fun (q : Addr) (x : echelon) => ∃ v1R_2 : Value, ∃ v1R_3 : Value, RSl H' (eL eI 1) 1 v1R_2 x.rows ∧ RSl (up wa.heap.size H') (eL eI 1) 1 v1R_3 x.made ∧ CAt H' q [Value.int .i64 x.ring.p, Value.int .i64 x.ring.vars, v1R_2, v1R_3, Value.int .i64 x.many]) v1 r.2.1
theorem w_impl_spanOf {Ha : GH} {wa : World} (hs : Sl Ha wa) (a0 : Int) (a1 : Cnf) (v1_1 : Value) (p1_1 : RSl Ha (eL eI 1) 1 v1_1 a1.clauses) (a2 : Int) {r : ((Option algebra) × (Option echelon) × Bool)} (hp : (PF.impl_spanOf a0 a1 a2) = some r) :
  Calls Tryz.prog 97 #[Value.int .i64 a0, Value.agg #[Value.int .i64 a1.vars, v1_1], Value.int .i64 a2] wa (p_impl_spanOf Ha wa r) := by
 unfold PF.impl_spanOf at hp
 have S0 := St.init hs
 refine calls_go (N := 28) (args := [Value.int .i64 a0, Value.agg #[Value.int .i64 a1.vars, v1_1], Value.int .i64 a2]) Tryz.func97 rfl rfl rfl ?_
 refine FW.seq (FW.region ?_)
 obtain ⟨b21, w22, run23, S24⟩ := S0.box (P := Tryz.prog) 32 [Value.int .i64 a1.vars, v1_1] (v := Value.agg #[Value.int .i64 a1.vars, v1_1]) rfl (ones_cons rfl (ones_cons p1_1.one ones_nil))
 refine FL.v (E.box rfl run23) ?_
 obtain ⟨H25, S26, i27, at28⟩ := S24.sealBox (i := 0) (l' := []) rfl rfl
 refine FL.v (E.assign (v := Value.pointer none) rfl) ?_
 refine FL.v (E.assign (v := Value.pointer none) rfl) ?_
 refine FL.v (E.assign (v := Value.bool false) rfl) ?_
 refine FL.nil (FW.seq (FW.region ?_))
 refine FL.v (E.move (v := Value.int .i64 a0) rfl) ?_
 refine FL.v (E.load rfl (run_loadA Tryz.isAgg32 Tryz.sizeOf32 (at28.now S26.sl) rfl)) ?_
 obtain ⟨r29, hr30, hp⟩ := bnd hp
 refine FL.call rfl rfl rfl (E.call Tryz.call65 (A2 rfl rfl)) (w_impl_algebraOf S26.sl a0 a1 v1_1 (p1_1.mono i27) hr30) ?_
 rintro e w32 ⟨H31, v35, rfl, r34, h36⟩
 refine ⟨_, rfl, ?_⟩
 have S33 := S26.call r34
 refine FL.v (E.move (v := Value.tuple #[v35, Value.bool r29.2]) rfl) ?_
 refine FL.v (E.extract (i := 0) rfl rfl) ?_
 refine FL.v (E.extract (i := 1) rfl rfl) ?_
 refine FL.v (E.assign (v := v35) rfl) ?_
 refine FL.v (E.assign (v := Value.bool r29.2) rfl) ?_
 refine FL.nil (FW.seq (FW.seq (FW.region ?_)))
 refine FL.v (E.move (v := Value.bool r29.2) rfl) ?_
 refine FL.v (E.not rfl) ?_
 refine FL.v (E.move (v := Value.bool (!r29.2)) rfl) ?_
 refine FL.cut 4 (fun f w => ∃ H : GH, St Ha wa H w [] ∧ Inc H31 H ∧ f 2 = Value.int .i64 a2 ∧ f 9 = v35 ∧ f 23 = Value.bool (bif (!r29.2) then true else (!(PF.impl_degreeOk a2)))) ?_ ?_
 ·
  rcases bcase (!r29.2) with c46 | c46
  ·
   refine FL.skip (wF_no rfl rfl rfl c46) rfl ?_
   refine FL.skip (wF_no rfl rfl rfl c46) rfl ?_
   refine FL.skip (wF_no rfl rfl rfl c46) rfl ?_
   refine FL.v (E.pickT rfl c46 rfl) ?_
   exact FL.nil ⟨rfl, _, S33, (Inc.rfl _), rfl, rfl, (congrArg Value.bool (bifT c46).symm)⟩
  ·
   refine FL.val (wF_yes rfl rfl rfl c46) rfl rfl (E.move (v := Value.int .i64 a2) rfl) ?_
   refine FL.call (wF_yes rfl rfl rfl c46) rfl rfl (E.call Tryz.call159 (A1 rfl)) (w_impl_degreeOk S33.sl a2) ?_
   rintro e w47 ⟨rfl, r48⟩
   refine ⟨_, rfl, ?_⟩
   have S49 := S33.call r48
   refine FL.val (wF_yes rfl rfl rfl c46) rfl rfl (E.not rfl) ?_
   refine FL.v (E.pickF rfl c46 rfl) ?_
   exact FL.nil ⟨rfl, _, S49, (Inc.rfl _), rfl, rfl, (congrArg Value.bool (bifF c46).symm)⟩
 rintro f45 w44 ⟨H41, S42, i43, k50, k51, k52⟩
 refine FL.nil ?_
 rcases ifB hp with ⟨c53, hp⟩ | ⟨c53, hp⟩
 ·
  refine FW.condT k52 c53 ?_
  refine FW.seq (FW.region ?_)
  refine FL.v (E.assign (v := Value.pointer none) rfl) ?_
  refine FL.v (E.assign (v := Value.pointer none) rfl) ?_
  refine FL.v (E.assign (v := Value.bool false) rfl) ?_
  refine FL.nil ?_
  refine FW.ret ?_
  obtain rfl := Option.some.inj hp
  exact ⟨.inr rfl, res3 rfl rfl rfl rfl ⟨_, _, _, rfl, S42.run, rfl, rfl⟩⟩
 ·
  refine FW.condF k52 c53 ?_
  refine FW.skip (FW.seq ?_)
  obtain ⟨y54, hy55, hp⟩ := bnd hp
  rw [hy55] at h36
  obtain ⟨q56, rfl, v57, v59, h58, ⟨c62, ns61⟩, at64⟩ := h36
  have h60 := ns61.rsl
  have nv63 : New H25 [v59] := New.of_up S26.sl h60.dom
  have h60 := h60.mono (up_le S26.size)
  have ns61 := ns61.mono (up_le S26.size)
  refine FW.region ?_
  refine FL.v (E.move k51) ?_
  refine FL.v (E.move k51) ?_
  refine FL.v (E.move k50) ?_
  obtain ⟨r65, hr66, hp⟩ := bnd hp
  refine FL.call rfl rfl rfl (E.call Tryz.call160 (A2 rfl rfl)) (w_impl_algebra_span S42.sl q56 y54 v57 v59 (h58.mono i43) (h60.mono (upI.tr i43)) (at64.mono i43) a2 hr66) ?_
  rintro e w68 ⟨H67, v71, rfl, r70, h72⟩
  refine ⟨_, rfl, ?_⟩
  have S69 := S42.call r70
  refine FL.v (E.assign (v := Value.pointer (some q56)) rfl) ?_
  refine FL.v (E.assign (v := v71) rfl) ?_
  refine FL.v (E.assign (v := Value.bool true) rfl) ?_
  refine FL.nil ?_
  refine FW.ret ?_
  obtain ⟨y73, hy74, hp⟩ := bnd hp
  rw [hy74] at h72
  obtain ⟨q75, rfl, v76, v78, h77, h79, at81⟩ := h72
  have nv80 : New H41 [v78] := New.of_up S42.sl h79.dom
  have h79 := h79.mono (up_le S42.size)
  obtain rfl := Option.some.inj hp
  exact ⟨.inr rfl, res3 rfl rfl rfl rfl ⟨_, _, _, rfl, S69.run, ⟨_, rfl, _, _, (h58.mono (i43.tr r70.inc)), ⟨_, (ns61.mono (up_mono (i43.tr r70.inc)))⟩, (at64.mono (i43.tr r70.inc))⟩, ⟨_, rfl, _, _, h77, h79, at81⟩⟩⟩

@[reducible] def p_impl_dense_terms (Ha : GH) (wa : World) (r : (List Term)) : Ending → World → Prop :=
  fun e w' => ∃ H' : GH, ∃ v0 : Value, ∃ n0 : Nat, ∃ c0 : List Value, e = .returned (v0) ∧ St Ha wa H' w' [.row 108 2 v0 n0 c0] ∧ Els (up wa.heap.size H') eTerm 2 c0 r
theorem w_impl_dense_terms {Ha : GH} {wa : World} (hs : Sl Ha wa) (v0 : Value) (a0 : List Int) (p0 : RSl Ha eI 1 v0 a0) {r : (List Term)} (hp : (PF.impl_dense_terms a0) = some r) :
    Calls Tryz.prog 69 #[v0] wa (p_impl_dense_terms Ha wa r) := by
  unfold PF.impl_dense_terms at hp
  have S0 := St.init hs
  refine calls_go (N := 23) (args := [v0]) Tryz.func69 rfl rfl rfl ?_
  refine FW.seq (FW.region ?_)
  refine FL.v (E.assign (v := Value.slice none 0 0) rfl) ?_
  refine FL.nil (FW.seq (FW.region ?_))
  refine FL.v (E.assign (v := Value.slice none 0 0) rfl) ?_
  refine FL.nil (FW.seq (FW.seq (FW.region ?_)))
  refine FL.v (E.move (v := v0) rfl) ?_
  refine FL.v (E.lenP te99 rfl p0) ?_
  refine FL.v (E.move (v := Value.int .i64 0) rfl) ?_
  refine FL.nil ?_
  obtain ⟨q22, hq, hp⟩ := bndR hp
  refine FW.block ?_
  refine FW.mono (FW.forL (S := (List Term)) (X := Empty) (fun (i22 : Nat) (s22 : (List Term)) f w => ∃ H : GH, ∃ v23 : Value, ∃ n24 : Nat, ∃ cs25 : List Value, St Ha wa H w [.row 108 2 v23 n24 cs25] ∧ Inc Ha H ∧ Els (up wa.heap.size H) eTerm 2 cs25 s22 ∧ f 8 = Value.int .i64 ((i22 : Nat) : Int) ∧ f 3 = v23 ∧ f 6 = v0 ∧ f 7 = Value.int .i64 (len a0)) (fun (q : Rs (List Term) Empty) e f w => match q with | .go s22 => e = Exit.exit 0 ∧ (∃ H : GH, ∃ v23 : Value, ∃ n24 : Nat, ∃ cs25 : List Value, St Ha wa H w [.row 108 2 v23 n24 cs25] ∧ Inc Ha H ∧ Els (up wa.heap.size H) eTerm 2 cs25 s22 ∧ f 3 = v23) | .rt x => x.elim) hq ⟨_, _, _, _, (S0.nil 108 2), (Inc.rfl _), Els.nil, rfl, rfl, rfl, rfl⟩ ?_ ?_) ?_
  ·
    clear hp hq
    rintro i22 y21 s22 f63 w62 ⟨H59, v23, n24, cs25, S60, i61, els26, k64, k65, k66, k67⟩ hx22 o91 hp
    refine FW.seq (FW.region ?_)
    refine FL.v (E.lssT k64 k67 (lss_len hx22)) ?_
    refine FL.nil (FW.seq ?_)
    refine FW.condT rfl rfl ?_
    refine FW.skip (FW.seq (FW.block (FW.seq (FW.region ?_))))
    refine FL.v (E.move k64) ?_
    obtain ⟨p68, cs69, pt70, l71, at72, rel73⟩ := p0.at (ix_nat hx22)
    obtain rfl := eI_open rel73
    refine FL.v (E.indexAddr te99 k66 k64 pt70) ?_
    refine FL.v (E.load rfl (run_load0 Tryz.isAgg3 ((at72.mono i61).now S60.sl) rfl)) ?_
    refine FL.v (E.assign (v := Value.int .i64 ((i22 : Nat) : Int)) rfl) ?_
    refine FL.v (E.assign (v := Value.int .i64 y21) rfl) ?_
    refine FL.nil (FW.seq (FW.region ?_))
    refine FL.v (E.move (v := Value.int .i64 y21) rfl) ?_
    refine FL.v (E.neq rfl rfl) ?_
    refine FL.nil ?_
    rcases ifB hp with ⟨c74, hp⟩ | ⟨c74, hp⟩
    ·
      refine FW.condT rfl c74 ?_
      refine FW.region ?_
      refine FL.v (E.move k65) ?_
      refine FL.v (E.move (v := Value.int .i64 ((i22 : Nat) : Int)) rfl) ?_
      refine FL.v (E.move (v := Value.int .i64 y21) rfl) ?_
      refine FL.v (E.build (B2 rfl rfl) (run_build _ 108 #[(0, Value.int .i64 ((i22 : Nat) : Int)), (1, Value.int .i64 y21)] #[Value.int .i64 ((i22 : Nat) : Int), Value.int .i64 y21] (by rfl))) ?_
      obtain ⟨v75, w76, run77, S78⟩ := S60.buildSlice (P := Tryz.prog) te55 [Value.agg #[Value.int .i64 ((i22 : Nat) : Int), Value.int .i64 y21]] (parts := #[(0, Value.agg #[Value.int .i64 ((i22 : Nat) : Int), Value.int .i64 y21])]) (cells := [Value.int .i64 ((i22 : Nat) : Int), Value.int .i64 y21]) rfl (szs_cons rfl szs_nil) (fc_cons rfl fc_nil) (ones_cons rfl (ones_cons rfl ones_nil)) (Nat.le_of_ble_eq_true rfl)
      have els79 : Els (up wa.heap.size H59) eTerm 2 [Value.int .i64 ((i22 : Nat) : Int), Value.int .i64 y21] [(Term.mk ((i22 : Nat) : Int) y21)] := (Els.snoc (H := (up wa.heap.size H59)) (E := eTerm) (k := 2) (c := [Value.int .i64 ((i22 : Nat) : Int), Value.int .i64 y21]) (x := (Term.mk ((i22 : Nat) : Int) y21)) Els.nil rfl rfl)
      refine FL.v (E.buildSlice (B1 rfl) run77) ?_
      obtain ⟨xs80, hz81, hp⟩ := bnd hp
      obtain ⟨v82, w85, n83, cs84, run86, S87, els88, ce89⟩ := S78.appendO (P := Tryz.prog) te55 (i := 1) (j := 0) rfl els26 rfl els79 hz81
      have S87 : St Ha wa H59 w85 [.row 108 2 v75 1 [Value.int .i64 ((i22 : Nat) : Int), Value.int .i64 y21], .row 108 2 v82 n83 cs84] := S87
      have S90 : St Ha wa H59 w85 [.row 108 2 v82 n83 cs84] := S87.drop 0
      refine FL.v (E.append rfl rfl run86) ?_
      refine FL.v (E.assign (v := v82) rfl) ?_
      refine FL.nil (FW.region ?_)
      refine FL.v (E.add k64 rfl) ?_
      refine FL.v (E.move (v := Value.int .i64 (wr (((i22 : Nat) : Int) + 1))) rfl) ?_
      refine FL.nil ?_
      obtain rfl := Option.some.inj hp
      exact ⟨rfl, ⟨_, _, _, _, S90, i61, els88, (nat_succ rfl (lt_of_get hx22) (p0.mono i61).le), rfl, k66, k67⟩⟩
    ·
      refine FW.condF rfl c74 ?_
      refine FW.skip (FW.region ?_)
      refine FL.v (E.add k64 rfl) ?_
      refine FL.v (E.move (v := Value.int .i64 (wr (((i22 : Nat) : Int) + 1))) rfl) ?_
      refine FL.nil ?_
      obtain rfl := Option.some.inj hp
      exact ⟨rfl, ⟨_, _, _, _, S60, i61, els26, (nat_succ rfl (lt_of_get hx22) (p0.mono i61).le), k65, k66, k67⟩⟩
  ·
    clear hp hq
    rintro s22 f102 w101 ⟨H98, v23, n24, cs25, S99, i100, els26, k103, k104, k105, k106⟩
    refine FW.seq (FW.region ?_)
    refine FL.v (E.lss k103 k106) ?_
    refine FL.nil (FW.seq ?_)
    refine FW.condF rfl dlt_len ?_
    refine FW.exit ?_
    exact ⟨nofun, rfl, ⟨_, _, _, _, S99, i100, els26, k104⟩⟩
  ·
    clear hq
    intro e f96 w95 hD
    rcases q22 with s22 | x22
    ·
      obtain ⟨rfl, hD⟩ := hD
      obtain ⟨H92, v23, n24, cs25, S93, i94, els26, k97⟩ := hD
      replace hp := el_go hp
      refine FW.seq (FW.region ?_)
      refine FL.v (E.move k97) ?_
      refine FL.v (E.assign (v := v23) rfl) ?_
      refine FL.nil ?_
      refine FW.ret ?_
      obtain rfl := Option.some.inj hp
      exact ⟨.inr rfl, res1 rfl rfl ⟨_, _, _, _, rfl, S93, els26⟩⟩
    · exact x22.elim

@[reducible] def p_impl_PcBasis (Ha : GH) (wa : World) (r : ((List (List Term)) × Bool)) : Ending → World → Prop :=
  fun e w' => ∃ H' : GH, ∃ v0 : Value, ∃ n0 : Nat, ∃ c0 : List Value, e = .returned (Value.tuple #[v0, Value.bool r.2]) ∧ St Ha wa H' w' [.row 55 1 v0 n0 c0] ∧ Els (up wa.heap.size H') (eL eTerm 2) 1 c0 r.1 ∧ (bl c0).Nodup
theorem w_impl_PcBasis {Ha : GH} {wa : World} (hs : Sl Ha wa) (a0 : Int) (a1 : Cnf) (v1_1 : Value) (p1_1 : RSl Ha (eL eI 1) 1 v1_1 a1.clauses) (a2 : Int) {r : ((List (List Term)) × Bool)} (hp : (PF.impl_PcBasis a0 a1 a2) = some r) :
    Calls Tryz.prog 41 #[Value.int .i64 a0, Value.agg #[Value.int .i64 a1.vars, v1_1], Value.int .i64 a2] wa (p_impl_PcBasis Ha wa r) := by
  unfold PF.impl_PcBasis at hp
  have S0 := St.init hs
  refine calls_go (N := 40) (args := [Value.int .i64 a0, Value.agg #[Value.int .i64 a1.vars, v1_1], Value.int .i64 a2]) Tryz.func41 rfl rfl rfl ?_
  refine FW.seq (FW.region ?_)
  obtain ⟨b21, w22, run23, S24⟩ := S0.box (P := Tryz.prog) 32 [Value.int .i64 a1.vars, v1_1] (v := Value.agg #[Value.int .i64 a1.vars, v1_1]) rfl (ones_cons rfl (ones_cons p1_1.one ones_nil))
  refine FL.v (E.box rfl run23) ?_
  obtain ⟨H25, S26, i27, at28⟩ := S24.sealBox (i := 0) (l' := []) rfl rfl
  refine FL.v (E.assign (v := Value.slice none 0 0) rfl) ?_
  refine FL.v (E.assign (v := Value.bool false) rfl) ?_
  refine FL.nil (FW.seq (FW.region ?_))
  refine FL.v (E.move (v := Value.int .i64 a0) rfl) ?_
  refine FL.v (E.load rfl (run_loadA Tryz.isAgg32 Tryz.sizeOf32 (at28.now S26.sl) rfl)) ?_
  refine FL.v (E.move (v := Value.int .i64 a2) rfl) ?_
  obtain ⟨r29, hr30, hp⟩ := bnd hp
  refine FL.call rfl rfl rfl (E.call Tryz.call97 (A3 rfl rfl rfl)) (w_impl_spanOf S26.sl a0 a1 v1_1 (p1_1.mono i27) a2 hr30) ?_
  rintro e w32 ⟨H31, v35, v37, rfl, r34, h36, h38⟩
  refine ⟨_, rfl, ?_⟩
  have S33 := S26.call r34
  refine FL.v (E.move (v := Value.tuple #[v35, v37, Value.bool r29.2.2]) rfl) ?_
  refine FL.v (E.extract (i := 0) rfl rfl) ?_
  refine FL.v (E.extract (i := 1) rfl rfl) ?_
  refine FL.v (E.extract (i := 2) rfl rfl) ?_
  refine FL.v (E.assign (v := v35) rfl) ?_
  refine FL.v (E.assign (v := v37) rfl) ?_
  refine FL.v (E.assign (v := Value.bool r29.2.2) rfl) ?_
  refine FL.nil (FW.seq (FW.seq (FW.region ?_)))
  refine FL.v (E.move (v := Value.bool r29.2.2) rfl) ?_
  refine FL.v (E.not rfl) ?_
  refine FL.nil ?_
  rcases ifB hp with ⟨c39, hp⟩ | ⟨c39, hp⟩
  ·
    refine FW.condT rfl c39 ?_
    refine FW.seq (FW.region ?_)
    refine FL.v (E.assign (v := Value.slice none 0 0) rfl) ?_
    refine FL.v (E.assign (v := Value.bool false) rfl) ?_
    refine FL.nil ?_
    refine FW.ret ?_
    obtain rfl := Option.some.inj hp
    exact ⟨.inr rfl, res2 rfl rfl rfl ⟨_, _, _, _, rfl, (S33.nil 55 1), Els.nil, List.nodup_nil⟩⟩
  ·
    refine FW.condF rfl c39 ?_
    refine FW.skip (FW.seq (FW.region ?_))
    refine FL.v (E.assign (v := Value.slice none 0 0) rfl) ?_
    refine FL.nil (FW.seq (FW.seq ?_))
    obtain ⟨y40, hy41, hp⟩ := bnd hp
    rw [hy41] at h38
    obtain ⟨q42, rfl, v43, v45, h44, h46, at48⟩ := h38
    have nv47 : New H25 [v45] := New.of_up S26.sl h46.dom
    have h46 := h46.mono (up_le S26.size)
    refine FW.region ?_
    refine FL.v (E.move (v := Value.pointer (some q42)) rfl) ?_
    refine FL.v (E.nilCheck rfl) ?_
    refine FL.v (E.fieldAddr tf148_1 rfl) ?_
    refine FL.v (E.load rfl (run_load1 Tryz.isAgg103 (at48.now S33.sl) rfl)) ?_
    refine FL.v (E.lenP te103 rfl h44) ?_
    refine FL.v (E.move (v := Value.int .i64 0) rfl) ?_
    refine FL.nil ?_
    obtain ⟨q50, hq, hp⟩ := bndR hp
    refine FW.block ?_
    refine FW.mono (FW.forL (S := (List (List Term))) (X := Empty) (fun (i50 : Nat) (s50 : (List (List Term))) f w => ∃ H : GH, ∃ v51 : Value, ∃ n52 : Nat, ∃ cs53 : List Value, St Ha wa H w [.row 55 1 v51 n52 cs53] ∧ Inc H31 H ∧ Els (up wa.heap.size H) (eL eTerm 2) 1 cs53 s50 ∧ (bl cs53).Nodup ∧ f 29 = Value.int .i64 ((i50 : Nat) : Int) ∧ f 11 = v51 ∧ f 27 = v43 ∧ f 28 = Value.int .i64 (len y40.rows)) (fun (q : Rs (List (List Term)) Empty) e f w => match q with | .go s50 => e = Exit.exit 0 ∧ (∃ H : GH, ∃ v51 : Value, ∃ n52 : Nat, ∃ cs53 : List Value, St Ha wa H w [.row 55 1 v51 n52 cs53] ∧ Inc H31 H ∧ Els (up wa.heap.size H) (eL eTerm 2) 1 cs53 s50 ∧ (bl cs53).Nodup ∧ f 11 = v51) | .rt x => x.elim) hq ⟨_, _, _, _, (S33.nil 55 1), (Inc.rfl _), Els.nil, List.nodup_nil, rfl, rfl, rfl, rfl⟩ ?_ ?_) ?_
    ·
      clear hp hq
      rintro i50 y49 s50 f110 w109 ⟨H106, v51, n52, cs53, S107, i108, els54, nd55, k111, k112, k113, k114⟩ hx50 o156 hp
      refine FW.seq (FW.region ?_)
      refine FL.v (E.lssT k111 k114 (lss_len hx50)) ?_
      refine FL.nil (FW.seq ?_)
      refine FW.condT rfl rfl ?_
      refine FW.skip (FW.seq (FW.block (FW.seq (FW.region ?_))))
      obtain ⟨p115, cs116, pt117, l118, at119, rel120⟩ := h44.at (ix_nat hx50)
      obtain ⟨v121, rfl, h122⟩ := eL_open rel120
      refine FL.v (E.indexAddr te103 k113 k111 pt117) ?_
      refine FL.v (E.load rfl (run_load0 Tryz.isAgg99 ((at119.mono i108).now S107.sl) rfl)) ?_
      refine FL.v (E.assign (v := v121) rfl) ?_
      refine FL.nil (FW.region ?_)
      refine FL.v (E.move k112) ?_
      refine FL.v (E.move (v := v121) rfl) ?_
      obtain ⟨r123, hr124, hp⟩ := bnd hp
      refine FL.call rfl rfl rfl (E.call Tryz.call69 (A1 rfl)) (w_impl_dense_terms S107.sl v121 y49 (h122.mono i108) hr124) ?_
      rintro e w126 ⟨H125, v129, n130, cs131, rfl, r128, els132⟩
      refine ⟨_, rfl, ?_⟩
      have els132 := els132.mono (up_le S107.size)
      have S127 := S107.join (l' := [.row 108 2 v129 n130 cs131, .row 55 1 v51 n52 cs53]) r128 rfl
      obtain ⟨H133, S134, i135, h136, nv137⟩ := S127.sealRowU (i := 0) (l' := [.row 55 1 v51 n52 cs53]) rfl els132 (by decide) rfl
      obtain ⟨v138, w139, run140, S141⟩ := S134.buildSlice (P := Tryz.prog) te63 [v129] (parts := #[(0, v129)]) (cells := [v129]) rfl (szs_cons (cells_size h136.cells) szs_nil) (fc_cons h136.cells fc_nil) (ones_cons h136.one ones_nil) (Nat.le_of_ble_eq_true rfl)
      have els142 : Els (up wa.heap.size H133) (eL eTerm 2) 1 [v129] [r123] := (Els.snoc (H := (up wa.heap.size H133)) (E := (eL eTerm 2)) (k := 1) (c := [v129]) (x := r123) Els.nil rfl ⟨_, rfl, h136⟩)
      have nd143 : (bl [v129]).Nodup := by exact nd_one v129
      refine FL.v (E.buildSlice (B1 rfl) run140) ?_
      obtain ⟨xs144, hz145, hp⟩ := bnd hp
      obtain ⟨v146, w149, n147, cs148, run150, S151, els152, ce153⟩ := S141.appendO (P := Tryz.prog) te63 (i := 1) (j := 0) rfl (els54.mono (up_mono (r128.run.inc.tr i135))) rfl els142 hz145
      have S151 : St Ha wa H133 w149 [.row 55 1 v138 1 [v129], .row 55 1 v146 n147 cs148] := S151
      have nd154 : (bl cs148).Nodup := by rw [ce153]; exact nd_app nd55 nd143 (Els.dom (els54.mono (upI.tr r128.run.inc))) (by exact nv137)
      have S155 : St Ha wa H133 w149 [.row 55 1 v146 n147 cs148] := S151.drop 0
      refine FL.v (E.append rfl rfl run150) ?_
      refine FL.v (E.assign (v := v146) rfl) ?_
      refine FL.nil (FW.region ?_)
      refine FL.v (E.add k111 rfl) ?_
      refine FL.v (E.move (v := Value.int .i64 (wr (((i50 : Nat) : Int) + 1))) rfl) ?_
      refine FL.nil ?_
      obtain rfl := Option.some.inj hp
      exact ⟨rfl, ⟨_, _, _, _, S155, ((i108.tr r128.run.inc).tr i135), els152, nd154, (nat_succ rfl (lt_of_get hx50) (h44.mono ((i108.tr r128.run.inc).tr i135)).le), rfl, k113, k114⟩⟩
    ·
      clear hp hq
      rintro s50 f167 w166 ⟨H163, v51, n52, cs53, S164, i165, els54, nd55, k168, k169, k170, k171⟩
      refine FW.seq (FW.region ?_)
      refine FL.v (E.lss k168 k171) ?_
      refine FL.nil (FW.seq ?_)
      refine FW.condF rfl dlt_len ?_
      refine FW.exit ?_
      exact ⟨nofun, rfl, ⟨_, _, _, _, S164, i165, els54, nd55, k169⟩⟩
    ·
      clear hq
      intro e f161 w160 hD
      rcases q50 with s50 | x50
      ·
        obtain ⟨rfl, hD⟩ := hD
        obtain ⟨H157, v51, n52, cs53, S158, i159, els54, nd55, k162⟩ := hD
        replace hp := el_go hp
        refine FW.seq (FW.region ?_)
        refine FL.v (E.move k162) ?_
        refine FL.v (E.assign (v := v51) rfl) ?_
        refine FL.v (E.assign (v := Value.bool true) rfl) ?_
        refine FL.nil ?_
        refine FW.ret ?_
        obtain rfl := Option.some.inj hp
        exact ⟨.inr rfl, res2 rfl rfl rfl ⟨_, _, _, _, rfl, S158, els54, nd55⟩⟩
      · exact x50.elim

theorem w_laws_eqTerm {Ha : GH} {wa : World} (hs : Sl Ha wa) (a0 : Term) (a1 : Term) :
  Calls Tryz.prog 101 #[Value.agg #[Value.int .i64 a0.mono, Value.int .i64 a0.coeff], Value.agg #[Value.int .i64 a1.mono, Value.int .i64 a1.coeff]] wa (Sc Ha wa (Value.bool (PF.laws_eqTerm a0 a1))) := by
 obtain ⟨r, hp⟩ : ∃ r, (PF.laws_eqTerm a0 a1) = r := ⟨_, rfl⟩
 rw [hp]
 unfold PF.laws_eqTerm at hp
 have S0 := St.init hs
 refine calls_go (N := 15) (args := [Value.agg #[Value.int .i64 a0.mono, Value.int .i64 a0.coeff], Value.agg #[Value.int .i64 a1.mono, Value.int .i64 a1.coeff]]) Tryz.func101 rfl rfl rfl ?_
 refine FW.seq (FW.region ?_)
 obtain ⟨b21, w22, run23, S24⟩ := S0.box (P := Tryz.prog) 108 [Value.int .i64 a0.mono, Value.int .i64 a0.coeff] (v := Value.agg #[Value.int .i64 a0.mono, Value.int .i64 a0.coeff]) rfl (ones_cons rfl (ones_cons rfl ones_nil))
 refine FL.v (E.box rfl run23) ?_
 obtain ⟨H25, S26, i27, at28⟩ := S24.sealBox (i := 0) (l' := []) rfl rfl
 obtain ⟨b29, w30, run31, S32⟩ := S26.box (P := Tryz.prog) 108 [Value.int .i64 a1.mono, Value.int .i64 a1.coeff] (v := Value.agg #[Value.int .i64 a1.mono, Value.int .i64 a1.coeff]) rfl (ones_cons rfl (ones_cons rfl ones_nil))
 refine FL.v (E.box rfl run31) ?_
 obtain ⟨H33, S34, i35, at36⟩ := S32.sealBox (i := 0) (l' := []) rfl rfl
 refine FL.v (E.assign (v := Value.bool false) rfl) ?_
 refine FL.nil (FW.seq (FW.seq (FW.region ?_)))
 refine FL.v (E.fieldAddr tf108_0 rfl) ?_
 refine FL.v (E.load rfl (run_load1 Tryz.isAgg3 ((at28.mono i35).now S34.sl) rfl)) ?_
 refine FL.v (E.fieldAddr tf108_0 rfl) ?_
 refine FL.v (E.load rfl (run_load1 Tryz.isAgg3 (at36.now S34.sl) rfl)) ?_
 refine FL.v (E.neq rfl rfl) ?_
 refine FL.nil ?_
 rcases ifT hp with ⟨c37, hp⟩ | ⟨c37, hp⟩
 ·
  refine FW.condT rfl c37 ?_
  refine FW.seq (FW.region ?_)
  refine FL.v (E.assign (v := Value.bool false) rfl) ?_
  refine FL.nil ?_
  refine FW.ret ?_
  obtain rfl := hp
  exact ⟨.inr rfl, res1 rfl rfl ⟨rfl, S34.back⟩⟩
 ·
  refine FW.condF rfl c37 ?_
  refine FW.skip (FW.seq (FW.seq (FW.region ?_)))
  refine FL.v (E.fieldAddr tf108_1 rfl) ?_
  refine FL.v (E.load rfl (run_load1 Tryz.isAgg3 ((at28.mono i35).now S34.sl) rfl)) ?_
  refine FL.v (E.fieldAddr tf108_1 rfl) ?_
  refine FL.v (E.load rfl (run_load1 Tryz.isAgg3 (at36.now S34.sl) rfl)) ?_
  refine FL.v (E.neq rfl rfl) ?_
  refine FL.nil ?_
  rcases ifT hp with ⟨c38, hp⟩ | ⟨c38, hp⟩
  ·
   refine FW.condT rfl c38 ?_
   refine FW.seq (FW.region ?_)
   refine FL.v (E.assign (v := Value.bool false) rfl) ?_
   refine FL.nil ?_
   refine FW.ret ?_
   obtain rfl := hp
   exact ⟨.inr rfl, res1 rfl rfl ⟨rfl, S34.back⟩⟩
  ·
   refine FW.condF rfl c38 ?_
   refine FW.skip (FW.seq (FW.region ?_))
   refine FL.v (E.assign (v := Value.bool true) rfl) ?_
   refine FL.nil ?_
   refine FW.ret ?_
   obtain rfl := hp
   exact ⟨.inr rfl, res1 rfl rfl ⟨rfl, S34.back⟩⟩

theorem w_laws_eqTermS {Ha : GH} {wa : World} (hs : Sl Ha wa) (v0 : Value) (a0 : List Term) (p0 : RSl Ha eTerm 2 v0 a0) (v1 : Value) (a1 : List Term) (p1 : RSl Ha eTerm 2 v1 a1) {r : Bool} (hp : (PF.laws_eqTermS a0 a1) = some r) :
  Calls Tryz.prog 35 #[v0, v1] wa (Sc Ha wa (Value.bool r)) := by
 unfold PF.laws_eqTermS at hp
 have S0 := St.init hs
 refine calls_go (N := 27) (args := [v0, v1]) Tryz.func35 rfl rfl rfl ?_
 refine FW.seq (FW.region ?_)
 refine FL.v (E.assign (v := Value.bool false) rfl) ?_
 refine FL.nil (FW.seq (FW.seq (FW.region ?_)))
 refine FL.v (E.move (v := v0) rfl) ?_
 refine FL.v (E.lenP te55 rfl p0) ?_
 refine FL.v (E.move (v := v1) rfl) ?_
 refine FL.v (E.lenP te55 rfl p1) ?_
 refine FL.v (E.neq rfl rfl) ?_
 refine FL.nil ?_
 rcases ifB hp with ⟨c21, hp⟩ | ⟨c21, hp⟩
 ·
  refine FW.condT rfl c21 ?_
  refine FW.seq (FW.region ?_)
  refine FL.v (E.assign (v := Value.bool false) rfl) ?_
  refine FL.nil ?_
  refine FW.ret ?_
  obtain rfl := Option.some.inj hp
  exact ⟨.inr rfl, res1 rfl rfl ⟨rfl, S0.back⟩⟩
 ·
  refine FW.condF rfl c21 ?_
  refine FW.skip (FW.seq (FW.seq (FW.region ?_)))
  refine FL.v (E.assign (v := Value.int .i64 0) rfl) ?_
  refine FL.nil ?_
  obtain ⟨q23, hq, hp⟩ := bndR hp
  refine FW.block ?_
  refine FW.mono (FW.forL (S := Unit) (X := Bool) (fun (i23 : Nat) (s23 : Unit) f w => ∃ H : GH, St Ha wa H w [] ∧ Inc Ha H ∧ f 5 = Value.int .i64 ((i23 : Nat) : Int) ∧ f 0 = v0 ∧ f 1 = v1) (fun q e f w => match q with | .go s23 => e = Exit.exit 0 ∧ (∃ H : GH, St Ha wa H w [] ∧ Inc Ha H) | .rt x => ((e = Exit.ret) ∧ (fun e f w => (e = Exit.normal ∨ e = Exit.ret) ∧ ∀ a, Fr (δ := []) 27 a f → ∃ v, (results Tryz.f35 a.tmps).run Tryz.prog w = .ok v w ∧ (Sc Ha wa (Value.bool x)) (.returned v) w) e f w)) hq ⟨_, S0, (Inc.rfl _), rfl, rfl, rfl⟩ ?_ ?_) ?_
  ·
   clear hp hq
   rintro i23 y22 s23 f55 w54 ⟨H51, S52, i53, k56, k57, k58⟩ hx23 o78 hp
   refine FW.seq (FW.seq (FW.region ?_))
   refine FL.v (E.move k56) ?_
   refine FL.v (E.move k57) ?_
   refine FL.v (E.lenP te55 rfl p0) ?_
   refine FL.v (E.lssT rfl rfl (lss_len hx23)) ?_
   refine FL.nil ?_
   refine FW.condT rfl rfl ?_
   refine FW.skip (FW.seq (FW.block (FW.seq ?_)))
   refine FW.draw (fun w' => Run w54.heap.size H51 w54 H51 w') (by kernel_rfl) (by kernel_rfl) (run_drew S52.sl) ?_
   refine FD.val rfl rfl rfl (fun w' hw' => (E.move k57)) ?_
   refine FD.val rfl rfl rfl (fun w' hw' => (E.move k56)) ?_
   obtain ⟨p60, cs61, pt62, l63, at64, rel65⟩ := p0.at (ix_nat hx23)
   obtain rfl := eTerm_open rel65
   refine FD.val rfl rfl rfl (fun w' hw' => (E.indexAddr te55 rfl rfl pt62)) ?_
   refine FD.val rfl rfl rfl (fun w' hw' => (E.load rfl (run_loadA Tryz.isAgg108 Tryz.sizeOf108 ((at64.mono i53).now (S52.call hw').sl) rfl))) ?_
   refine FD.val rfl rfl rfl (fun w' hw' => (E.move k58)) ?_
   refine FD.val rfl rfl rfl (fun w' hw' => (E.move k56)) ?_
   obtain ⟨x72, hx73, hp⟩ := bnd hp
   obtain ⟨p66, cs67, pt68, l69, at70, rel71⟩ := p1.at hx73
   obtain rfl := eTerm_open rel71
   refine FD.val rfl rfl rfl (fun w' hw' => (E.indexAddr te55 rfl rfl pt68)) ?_
   refine FD.val rfl rfl rfl (fun w' hw' => (E.load rfl (run_loadA Tryz.isAgg108 Tryz.sizeOf108 ((at70.mono i53).now (S52.call hw').sl) rfl))) ?_
   refine FD.call rfl rfl rfl (fun w' hw' => (E.call Tryz.call101 (A2 rfl rfl))) (fun w' hw' => Calls.cls hw' (w_laws_eqTerm (S52.call hw').sl y22 x72)) ?_
   refine FD.val rfl rfl rfl (fun w' hw' => (E.not rfl)) ?_
   refine FD.nil ?_
   intro w74 r76
   have S75 := S52.call r76
   rcases ifB hp with ⟨c77, hp⟩ | ⟨c77, hp⟩
   ·
    refine FW.condT rfl c77 ?_
    refine FW.seq (FW.region ?_)
    refine FL.v (E.assign (v := Value.bool false) rfl) ?_
    refine FL.nil ?_
    refine FW.ret ?_
    obtain rfl := Option.some.inj hp
    exact ⟨nofun, rfl, ⟨.inr rfl, res1 rfl rfl ⟨rfl, S75.back⟩⟩⟩
   ·
    refine FW.condF rfl c77 ?_
    refine FW.skip (FW.region ?_)
    refine FL.v (E.move k56) ?_
    refine FL.v (E.add rfl rfl) ?_
    refine FL.v (E.assign (v := Value.int .i64 (wr (((i23 : Nat) : Int) + 1))) rfl) ?_
    refine FL.nil ?_
    obtain rfl := Option.some.inj hp
    exact ⟨rfl, ⟨_, S75, i53, (nat_succ rfl (lt_of_get hx23) (p0.mono i53).le), k57, k58⟩⟩
  ·
   clear hp hq
   rintro s23 f88 w87 ⟨H84, S85, i86, k89, k90, k91⟩
   refine FW.seq (FW.seq (FW.region ?_))
   refine FL.v (E.move k89) ?_
   refine FL.v (E.move k90) ?_
   refine FL.v (E.lenP te55 rfl p0) ?_
   refine FL.v (E.lss rfl rfl) ?_
   refine FL.nil ?_
   refine FW.condF rfl dlt_len ?_
   refine FW.exit ?_
   exact ⟨nofun, rfl, ⟨_, S85, i86⟩⟩
  ·
   clear hq
   intro e f83 w82 hD
   rcases q23 with s23 | x23
   ·
    obtain ⟨rfl, hD⟩ := hD
    obtain ⟨H79, S80, i81⟩ := hD
    replace hp := el_go hp
    refine FW.seq (FW.region ?_)
    refine FL.v (E.assign (v := Value.bool true) rfl) ?_
    refine FL.nil ?_
    refine FW.ret ?_
    obtain rfl := Option.some.inj hp
    exact ⟨.inr rfl, res1 rfl rfl ⟨rfl, S80.back⟩⟩
   ·
    obtain ⟨he, hL⟩ := hD
    replace hp := el_rt hp
    obtain rfl := Option.some.inj hp
    subst he
    exact hL

theorem w_laws_eqTermSS {Ha : GH} {wa : World} (hs : Sl Ha wa) (v0 : Value) (a0 : List (List Term)) (p0 : RSl Ha (eL eTerm 2) 1 v0 a0) (v1 : Value) (a1 : List (List Term)) (p1 : RSl Ha (eL eTerm 2) 1 v1 a1) {r : Bool} (hp : (PF.laws_eqTermSS a0 a1) = some r) :
  Calls Tryz.prog 42 #[v0, v1] wa (Sc Ha wa (Value.bool r)) := by
 unfold PF.laws_eqTermSS at hp
 have S0 := St.init hs
 refine calls_go (N := 27) (args := [v0, v1]) Tryz.func42 rfl rfl rfl ?_
 refine FW.seq (FW.region ?_)
 refine FL.v (E.assign (v := Value.bool false) rfl) ?_
 refine FL.nil (FW.seq (FW.seq (FW.region ?_)))
 refine FL.v (E.move (v := v0) rfl) ?_
 refine FL.v (E.lenP te63 rfl p0) ?_
 refine FL.v (E.move (v := v1) rfl) ?_
 refine FL.v (E.lenP te63 rfl p1) ?_
 refine FL.v (E.neq rfl rfl) ?_
 refine FL.nil ?_
 rcases ifB hp with ⟨c21, hp⟩ | ⟨c21, hp⟩
 ·
  refine FW.condT rfl c21 ?_
  refine FW.seq (FW.region ?_)
  refine FL.v (E.assign (v := Value.bool false) rfl) ?_
  refine FL.nil ?_
  refine FW.ret ?_
  obtain rfl := Option.some.inj hp
  exact ⟨.inr rfl, res1 rfl rfl ⟨rfl, S0.back⟩⟩
 ·
  refine FW.condF rfl c21 ?_
  refine FW.skip (FW.seq (FW.seq (FW.region ?_)))
  refine FL.v (E.assign (v := Value.int .i64 0) rfl) ?_
  refine FL.nil ?_
  obtain ⟨q23, hq, hp⟩ := bndR hp
  refine FW.block ?_
  refine FW.mono (FW.forL (S := Unit) (X := Bool) (fun (i23 : Nat) (s23 : Unit) f w => ∃ H : GH, St Ha wa H w [] ∧ Inc Ha H ∧ f 5 = Value.int .i64 ((i23 : Nat) : Int) ∧ f 0 = v0 ∧ f 1 = v1) (fun q e f w => match q with | .go s23 => e = Exit.exit 0 ∧ (∃ H : GH, St Ha wa H w [] ∧ Inc Ha H) | .rt x => ((e = Exit.ret) ∧ (fun e f w => (e = Exit.normal ∨ e = Exit.ret) ∧ ∀ a, Fr (δ := []) 27 a f → ∃ v, (results Tryz.f42 a.tmps).run Tryz.prog w = .ok v w ∧ (Sc Ha wa (Value.bool x)) (.returned v) w) e f w)) hq ⟨_, S0, (Inc.rfl _), rfl, rfl, rfl⟩ ?_ ?_) ?_
  ·
   clear hp hq
   rintro i23 y22 s23 f61 w60 ⟨H57, S58, i59, k62, k63, k64⟩ hx23 o90 hp
   refine FW.seq (FW.seq (FW.region ?_))
   refine FL.v (E.move k62) ?_
   refine FL.v (E.move k63) ?_
   refine FL.v (E.lenP te63 rfl p0) ?_
   refine FL.v (E.lssT rfl rfl (lss_len hx23)) ?_
   refine FL.nil ?_
   refine FW.condT rfl rfl ?_
   refine FW.skip (FW.seq (FW.block (FW.seq ?_)))
   refine FW.draw (fun w' => Run w60.heap.size H57 w60 H57 w') (by kernel_rfl) (by kernel_rfl) (run_drew S58.sl) ?_
   refine FD.val rfl rfl rfl (fun w' hw' => (E.move k63)) ?_
   refine FD.val rfl rfl rfl (fun w' hw' => (E.move k62)) ?_
   obtain ⟨p66, cs67, pt68, l69, at70, rel71⟩ := p0.at (ix_nat hx23)
   obtain ⟨v72, rfl, h73⟩ := eL_open rel71
   refine FD.val rfl rfl rfl (fun w' hw' => (E.indexAddr te63 rfl rfl pt68)) ?_
   refine FD.val rfl rfl rfl (fun w' hw' => (E.load rfl (run_load0 Tryz.isAgg55 ((at70.mono i59).now (S58.call hw').sl) rfl))) ?_
   refine FD.val rfl rfl rfl (fun w' hw' => (E.move k64)) ?_
   refine FD.val rfl rfl rfl (fun w' hw' => (E.move k62)) ?_
   obtain ⟨x80, hx81, hp⟩ := bnd hp
   obtain ⟨p74, cs75, pt76, l77, at78, rel79⟩ := p1.at hx81
   obtain ⟨v82, rfl, h83⟩ := eL_open rel79
   refine FD.val rfl rfl rfl (fun w' hw' => (E.indexAddr te63 rfl rfl pt76)) ?_
   refine FD.val rfl rfl rfl (fun w' hw' => (E.load rfl (run_load0 Tryz.isAgg55 ((at78.mono i59).now (S58.call hw').sl) rfl))) ?_
   obtain ⟨r84, hr85, hp⟩ := bnd hp
   refine FD.call rfl rfl rfl (fun w' hw' => (E.call Tryz.call35 (A2 rfl rfl))) (fun w' hw' => Calls.cls hw' (w_laws_eqTermS (S58.call hw').sl v72 y22 (h73.mono i59) v82 x80 (h83.mono i59) hr85)) ?_
   refine FD.val rfl rfl rfl (fun w' hw' => (E.not rfl)) ?_
   refine FD.nil ?_
   intro w86 r88
   have S87 := S58.call r88
   rcases ifB hp with ⟨c89, hp⟩ | ⟨c89, hp⟩
   ·
    refine FW.condT rfl c89 ?_
    refine FW.seq (FW.region ?_)
    refine FL.v (E.assign (v := Value.bool false) rfl) ?_
    refine FL.nil ?_
    refine FW.ret ?_
    obtain rfl := Option.some.inj hp
    exact ⟨nofun, rfl, ⟨.inr rfl, res1 rfl rfl ⟨rfl, S87.back⟩⟩⟩
   ·
    refine FW.condF rfl c89 ?_
    refine FW.skip (FW.region ?_)
    refine FL.v (E.move k62) ?_
    refine FL.v (E.add rfl rfl) ?_
    refine FL.v (E.assign (v := Value.int .i64 (wr (((i23 : Nat) : Int) + 1))) rfl) ?_
    refine FL.nil ?_
    obtain rfl := Option.some.inj hp
    exact ⟨rfl, ⟨_, S87, i59, (nat_succ rfl (lt_of_get hx23) (p0.mono i59).le), k63, k64⟩⟩
  ·
   clear hp hq
   rintro s23 f100 w99 ⟨H96, S97, i98, k101, k102, k103⟩
   refine FW.seq (FW.seq (FW.region ?_))
   refine FL.v (E.move k101) ?_
   refine FL.v (E.move k102) ?_
   refine FL.v (E.lenP te63 rfl p0) ?_
   refine FL.v (E.lss rfl rfl) ?_
   refine FL.nil ?_
   refine FW.condF rfl dlt_len ?_
   refine FW.exit ?_
   exact ⟨nofun, rfl, ⟨_, S97, i98⟩⟩
  ·
   clear hq
   intro e f95 w94 hD
   rcases q23 with s23 | x23
   ·
    obtain ⟨rfl, hD⟩ := hD
    obtain ⟨H91, S92, i93⟩ := hD
    replace hp := el_go hp
    refine FW.seq (FW.region ?_)
    refine FL.v (E.assign (v := Value.bool true) rfl) ?_
    refine FL.nil ?_
    refine FW.ret ?_
    obtain rfl := Option.some.inj hp
    exact ⟨.inr rfl, res1 rfl rfl ⟨rfl, S92.back⟩⟩
   ·
    obtain ⟨he, hL⟩ := hD
    replace hp := el_rt hp
    obtain rfl := Option.some.inj hp
    subst he
    exact hL

theorem w_laws_eqIntS {Ha : GH} {wa : World} (hs : Sl Ha wa) (v0 : Value) (a0 : List Int) (p0 : RSl Ha eI 1 v0 a0) (v1 : Value) (a1 : List Int) (p1 : RSl Ha eI 1 v1 a1) {r : Bool} (hp : (PF.laws_eqIntS a0 a1) = some r) :
  Calls Tryz.prog 52 #[v0, v1] wa (Sc Ha wa (Value.bool r)) := by
 unfold PF.laws_eqIntS at hp
 have S0 := St.init hs
 refine calls_go (N := 26) (args := [v0, v1]) Tryz.func52 rfl rfl rfl ?_
 refine FW.seq (FW.region ?_)
 refine FL.v (E.assign (v := Value.bool false) rfl) ?_
 refine FL.nil (FW.seq (FW.seq (FW.region ?_)))
 refine FL.v (E.move (v := v0) rfl) ?_
 refine FL.v (E.lenP te73 rfl p0) ?_
 refine FL.v (E.move (v := v1) rfl) ?_
 refine FL.v (E.lenP te73 rfl p1) ?_
 refine FL.v (E.neq rfl rfl) ?_
 refine FL.nil ?_
 rcases ifB hp with ⟨c21, hp⟩ | ⟨c21, hp⟩
 ·
  refine FW.condT rfl c21 ?_
  refine FW.seq (FW.region ?_)
  refine FL.v (E.assign (v := Value.bool false) rfl) ?_
  refine FL.nil ?_
  refine FW.ret ?_
  obtain rfl := Option.some.inj hp
  exact ⟨.inr rfl, res1 rfl rfl ⟨rfl, S0.back⟩⟩
 ·
  refine FW.condF rfl c21 ?_
  refine FW.skip (FW.seq (FW.seq (FW.region ?_)))
  refine FL.v (E.assign (v := Value.int .i64 0) rfl) ?_
  refine FL.nil ?_
  obtain ⟨q23, hq, hp⟩ := bndR hp
  refine FW.block ?_
  refine FW.mono (FW.forL (S := Unit) (X := Bool) (fun (i23 : Nat) (s23 : Unit) f w => ∃ H : GH, St Ha wa H w [] ∧ Inc Ha H ∧ f 5 = Value.int .i64 ((i23 : Nat) : Int) ∧ f 0 = v0 ∧ f 1 = v1) (fun q e f w => match q with | .go s23 => e = Exit.exit 0 ∧ (∃ H : GH, St Ha wa H w [] ∧ Inc Ha H) | .rt x => ((e = Exit.ret) ∧ (fun e f w => (e = Exit.normal ∨ e = Exit.ret) ∧ ∀ a, Fr (δ := []) 26 a f → ∃ v, (results Tryz.f52 a.tmps).run Tryz.prog w = .ok v w ∧ (Sc Ha wa (Value.bool x)) (.returned v) w) e f w)) hq ⟨_, S0, (Inc.rfl _), rfl, rfl, rfl⟩ ?_ ?_) ?_
  ·
   clear hp hq
   rintro i23 y22 s23 f55 w54 ⟨H51, S52, i53, k56, k57, k58⟩ hx23 o78 hp
   refine FW.seq (FW.seq (FW.region ?_))
   refine FL.v (E.move k56) ?_
   refine FL.v (E.move k57) ?_
   refine FL.v (E.lenP te73 rfl p0) ?_
   refine FL.v (E.lssT rfl rfl (lss_len hx23)) ?_
   refine FL.nil ?_
   refine FW.condT rfl rfl ?_
   refine FW.skip (FW.seq (FW.block (FW.seq ?_)))
   refine FW.draw (fun w' => Run w54.heap.size H51 w54 H51 w') (by kernel_rfl) (by kernel_rfl) (run_drew S52.sl) ?_
   refine FD.val rfl rfl rfl (fun w' hw' => (E.move k57)) ?_
   refine FD.val rfl rfl rfl (fun w' hw' => (E.move k56)) ?_
   obtain ⟨p60, cs61, pt62, l63, at64, rel65⟩ := p0.at (ix_nat hx23)
   obtain rfl := eI_open rel65
   refine FD.val rfl rfl rfl (fun w' hw' => (E.indexAddr te73 rfl rfl pt62)) ?_
   refine FD.val rfl rfl rfl (fun w' hw' => (E.load rfl (run_load0 Tryz.isAgg3 ((at64.mono i53).now (S52.call hw').sl) rfl))) ?_
   refine FD.val rfl rfl rfl (fun w' hw' => (E.move k58)) ?_
   refine FD.val rfl rfl rfl (fun w' hw' => (E.move k56)) ?_
   obtain ⟨x72, hx73, hp⟩ := bnd hp
   obtain ⟨p66, cs67, pt68, l69, at70, rel71⟩ := p1.at hx73
   obtain rfl := eI_open rel71
   refine FD.val rfl rfl rfl (fun w' hw' => (E.indexAddr te73 rfl rfl pt68)) ?_
   refine FD.val rfl rfl rfl (fun w' hw' => (E.load rfl (run_load0 Tryz.isAgg3 ((at70.mono i53).now (S52.call hw').sl) rfl))) ?_
   refine FD.val rfl rfl rfl (fun w' hw' => (E.neq rfl rfl)) ?_
   refine FD.nil ?_
   intro w74 r76
   have S75 := S52.call r76
   rcases ifB hp with ⟨c77, hp⟩ | ⟨c77, hp⟩
   ·
    refine FW.condT rfl c77 ?_
    refine FW.seq (FW.region ?_)
    refine FL.v (E.assign (v := Value.bool false) rfl) ?_
    refine FL.nil ?_
    refine FW.ret ?_
    obtain rfl := Option.some.inj hp
    exact ⟨nofun, rfl, ⟨.inr rfl, res1 rfl rfl ⟨rfl, S75.back⟩⟩⟩
   ·
    refine FW.condF rfl c77 ?_
    refine FW.skip (FW.region ?_)
    refine FL.v (E.move k56) ?_
    refine FL.v (E.add rfl rfl) ?_
    refine FL.v (E.assign (v := Value.int .i64 (wr (((i23 : Nat) : Int) + 1))) rfl) ?_
    refine FL.nil ?_
    obtain rfl := Option.some.inj hp
    exact ⟨rfl, ⟨_, S75, i53, (nat_succ rfl (lt_of_get hx23) (p0.mono i53).le), k57, k58⟩⟩
  ·
   clear hp hq
   rintro s23 f88 w87 ⟨H84, S85, i86, k89, k90, k91⟩
   refine FW.seq (FW.seq (FW.region ?_))
   refine FL.v (E.move k89) ?_
   refine FL.v (E.move k90) ?_
   refine FL.v (E.lenP te73 rfl p0) ?_
   refine FL.v (E.lss rfl rfl) ?_
   refine FL.nil ?_
   refine FW.condF rfl dlt_len ?_
   refine FW.exit ?_
   exact ⟨nofun, rfl, ⟨_, S85, i86⟩⟩
  ·
   clear hq
   intro e f83 w82 hD
   rcases q23 with s23 | x23
   ·
    obtain ⟨rfl, hD⟩ := hD
    obtain ⟨H79, S80, i81⟩ := hD
    replace hp := el_go hp
    refine FW.seq (FW.region ?_)
    refine FL.v (E.assign (v := Value.bool true) rfl) ?_
    refine FL.nil ?_
    refine FW.ret ?_
    obtain rfl := Option.some.inj hp
    exact ⟨.inr rfl, res1 rfl rfl ⟨rfl, S80.back⟩⟩
   ·
    obtain ⟨he, hL⟩ := hD
    replace hp := el_rt hp
    obtain rfl := Option.some.inj hp
    subst he
    exact hL

theorem w_laws_eqIntSS {Ha : GH} {wa : World} (hs : Sl Ha wa) (v0 : Value) (a0 : List (List Int)) (p0 : RSl Ha (eL eI 1) 1 v0 a0) (v1 : Value) (a1 : List (List Int)) (p1 : RSl Ha (eL eI 1) 1 v1 a1) {r : Bool} (hp : (PF.laws_eqIntSS a0 a1) = some r) :
  Calls Tryz.prog 47 #[v0, v1] wa (Sc Ha wa (Value.bool r)) := by
 unfold PF.laws_eqIntSS at hp
 have S0 := St.init hs
 refine calls_go (N := 27) (args := [v0, v1]) Tryz.func47 rfl rfl rfl ?_
 refine FW.seq (FW.region ?_)
 refine FL.v (E.assign (v := Value.bool false) rfl) ?_
 refine FL.nil (FW.seq (FW.seq (FW.region ?_)))
 refine FL.v (E.move (v := v0) rfl) ?_
 refine FL.v (E.lenP te22 rfl p0) ?_
 refine FL.v (E.move (v := v1) rfl) ?_
 refine FL.v (E.lenP te22 rfl p1) ?_
 refine FL.v (E.neq rfl rfl) ?_
 refine FL.nil ?_
 rcases ifB hp with ⟨c21, hp⟩ | ⟨c21, hp⟩
 ·
  refine FW.condT rfl c21 ?_
  refine FW.seq (FW.region ?_)
  refine FL.v (E.assign (v := Value.bool false) rfl) ?_
  refine FL.nil ?_
  refine FW.ret ?_
  obtain rfl := Option.some.inj hp
  exact ⟨.inr rfl, res1 rfl rfl ⟨rfl, S0.back⟩⟩
 ·
  refine FW.condF rfl c21 ?_
  refine FW.skip (FW.seq (FW.seq (FW.region ?_)))
  refine FL.v (E.assign (v := Value.int .i64 0) rfl) ?_
  refine FL.nil ?_
  obtain ⟨q23, hq, hp⟩ := bndR hp
  refine FW.block ?_
  refine FW.mono (FW.forL (S := Unit) (X := Bool) (fun (i23 : Nat) (s23 : Unit) f w => ∃ H : GH, St Ha wa H w [] ∧ Inc Ha H ∧ f 5 = Value.int .i64 ((i23 : Nat) : Int) ∧ f 0 = v0 ∧ f 1 = v1) (fun q e f w => match q with | .go s23 => e = Exit.exit 0 ∧ (∃ H : GH, St Ha wa H w [] ∧ Inc Ha H) | .rt x => ((e = Exit.ret) ∧ (fun e f w => (e = Exit.normal ∨ e = Exit.ret) ∧ ∀ a, Fr (δ := []) 27 a f → ∃ v, (results Tryz.f47 a.tmps).run Tryz.prog w = .ok v w ∧ (Sc Ha wa (Value.bool x)) (.returned v) w) e f w)) hq ⟨_, S0, (Inc.rfl _), rfl, rfl, rfl⟩ ?_ ?_) ?_
  ·
   clear hp hq
   rintro i23 y22 s23 f61 w60 ⟨H57, S58, i59, k62, k63, k64⟩ hx23 o90 hp
   refine FW.seq (FW.seq (FW.region ?_))
   refine FL.v (E.move k62) ?_
   refine FL.v (E.move k63) ?_
   refine FL.v (E.lenP te22 rfl p0) ?_
   refine FL.v (E.lssT rfl rfl (lss_len hx23)) ?_
   refine FL.nil ?_
   refine FW.condT rfl rfl ?_
   refine FW.skip (FW.seq (FW.block (FW.seq ?_)))
   refine FW.draw (fun w' => Run w60.heap.size H57 w60 H57 w') (by kernel_rfl) (by kernel_rfl) (run_drew S58.sl) ?_
   refine FD.val rfl rfl rfl (fun w' hw' => (E.move k63)) ?_
   refine FD.val rfl rfl rfl (fun w' hw' => (E.move k62)) ?_
   obtain ⟨p66, cs67, pt68, l69, at70, rel71⟩ := p0.at (ix_nat hx23)
   obtain ⟨v72, rfl, h73⟩ := eL_open rel71
   refine FD.val rfl rfl rfl (fun w' hw' => (E.indexAddr te22 rfl rfl pt68)) ?_
   refine FD.val rfl rfl rfl (fun w' hw' => (E.load rfl (run_load0 Tryz.isAgg73 ((at70.mono i59).now (S58.call hw').sl) rfl))) ?_
   refine FD.val rfl rfl rfl (fun w' hw' => (E.move k64)) ?_
   refine FD.val rfl rfl rfl (fun w' hw' => (E.move k62)) ?_
   obtain ⟨x80, hx81, hp⟩ := bnd hp
   obtain ⟨p74, cs75, pt76, l77, at78, rel79⟩ := p1.at hx81
   obtain ⟨v82, rfl, h83⟩ := eL_open rel79
   refine FD.val rfl rfl rfl (fun w' hw' => (E.indexAddr te22 rfl rfl pt76)) ?_
   refine FD.val rfl rfl rfl (fun w' hw' => (E.load rfl (run_load0 Tryz.isAgg73 ((at78.mono i59).now (S58.call hw').sl) rfl))) ?_
   obtain ⟨r84, hr85, hp⟩ := bnd hp
   refine FD.call rfl rfl rfl (fun w' hw' => (E.call Tryz.call52 (A2 rfl rfl))) (fun w' hw' => Calls.cls hw' (w_laws_eqIntS (S58.call hw').sl v72 y22 (h73.mono i59) v82 x80 (h83.mono i59) hr85)) ?_
   refine FD.val rfl rfl rfl (fun w' hw' => (E.not rfl)) ?_
   refine FD.nil ?_
   intro w86 r88
   have S87 := S58.call r88
   rcases ifB hp with ⟨c89, hp⟩ | ⟨c89, hp⟩
   ·
    refine FW.condT rfl c89 ?_
    refine FW.seq (FW.region ?_)
    refine FL.v (E.assign (v := Value.bool false) rfl) ?_
    refine FL.nil ?_
    refine FW.ret ?_
    obtain rfl := Option.some.inj hp
    exact ⟨nofun, rfl, ⟨.inr rfl, res1 rfl rfl ⟨rfl, S87.back⟩⟩⟩
   ·
    refine FW.condF rfl c89 ?_
    refine FW.skip (FW.region ?_)
    refine FL.v (E.move k62) ?_
    refine FL.v (E.add rfl rfl) ?_
    refine FL.v (E.assign (v := Value.int .i64 (wr (((i23 : Nat) : Int) + 1))) rfl) ?_
    refine FL.nil ?_
    obtain rfl := Option.some.inj hp
    exact ⟨rfl, ⟨_, S87, i59, (nat_succ rfl (lt_of_get hx23) (p0.mono i59).le), k63, k64⟩⟩
  ·
   clear hp hq
   rintro s23 f100 w99 ⟨H96, S97, i98, k101, k102, k103⟩
   refine FW.seq (FW.seq (FW.region ?_))
   refine FL.v (E.move k101) ?_
   refine FL.v (E.move k102) ?_
   refine FL.v (E.lenP te22 rfl p0) ?_
   refine FL.v (E.lss rfl rfl) ?_
   refine FL.nil ?_
   refine FW.condF rfl dlt_len ?_
   refine FW.exit ?_
   exact ⟨nofun, rfl, ⟨_, S97, i98⟩⟩
  ·
   clear hq
   intro e f95 w94 hD
   rcases q23 with s23 | x23
   ·
    obtain ⟨rfl, hD⟩ := hD
    obtain ⟨H91, S92, i93⟩ := hD
    replace hp := el_go hp
    refine FW.seq (FW.region ?_)
    refine FL.v (E.assign (v := Value.bool true) rfl) ?_
    refine FL.nil ?_
    refine FW.ret ?_
    obtain rfl := Option.some.inj hp
    exact ⟨.inr rfl, res1 rfl rfl ⟨rfl, S92.back⟩⟩
   ·
    obtain ⟨he, hL⟩ := hD
    replace hp := el_rt hp
    obtain rfl := Option.some.inj hp
    subst he
    exact hL

theorem w_laws_eqCnf {Ha : GH} {wa : World} (hs : Sl Ha wa) (a0 : Cnf) (v0_1 : Value) (p0_1 : RSl Ha (eL eI 1) 1 v0_1 a0.clauses) (a1 : Cnf) (v1_1 : Value) (p1_1 : RSl Ha (eL eI 1) 1 v1_1 a1.clauses) {r : Bool} (hp : (PF.laws_eqCnf a0 a1) = some r) :
  Calls Tryz.prog 19 #[Value.agg #[Value.int .i64 a0.vars, v0_1], Value.agg #[Value.int .i64 a1.vars, v1_1]] wa (Sc Ha wa (Value.bool r)) := by
 unfold PF.laws_eqCnf at hp
 have S0 := St.init hs
 refine calls_go (N := 16) (args := [Value.agg #[Value.int .i64 a0.vars, v0_1], Value.agg #[Value.int .i64 a1.vars, v1_1]]) Tryz.func19 rfl rfl rfl ?_
 refine FW.seq (FW.region ?_)
 obtain ⟨b21, w22, run23, S24⟩ := S0.box (P := Tryz.prog) 32 [Value.int .i64 a0.vars, v0_1] (v := Value.agg #[Value.int .i64 a0.vars, v0_1]) rfl (ones_cons rfl (ones_cons p0_1.one ones_nil))
 refine FL.v (E.box rfl run23) ?_
 obtain ⟨H25, S26, i27, at28⟩ := S24.sealBox (i := 0) (l' := []) rfl rfl
 obtain ⟨b29, w30, run31, S32⟩ := S26.box (P := Tryz.prog) 32 [Value.int .i64 a1.vars, v1_1] (v := Value.agg #[Value.int .i64 a1.vars, v1_1]) rfl (ones_cons rfl (ones_cons p1_1.one ones_nil))
 refine FL.v (E.box rfl run31) ?_
 obtain ⟨H33, S34, i35, at36⟩ := S32.sealBox (i := 0) (l' := []) rfl rfl
 refine FL.v (E.assign (v := Value.bool false) rfl) ?_
 refine FL.nil (FW.seq (FW.seq (FW.region ?_)))
 refine FL.v (E.fieldAddr tf32_0 rfl) ?_
 refine FL.v (E.load rfl (run_load1 Tryz.isAgg3 ((at28.mono i35).now S34.sl) rfl)) ?_
 refine FL.v (E.fieldAddr tf32_0 rfl) ?_
 refine FL.v (E.load rfl (run_load1 Tryz.isAgg3 (at36.now S34.sl) rfl)) ?_
 refine FL.v (E.neq rfl rfl) ?_
 refine FL.nil ?_
 rcases ifB hp with ⟨c37, hp⟩ | ⟨c37, hp⟩
 ·
  refine FW.condT rfl c37 ?_
  refine FW.seq (FW.region ?_)
  refine FL.v (E.assign (v := Value.bool false) rfl) ?_
  refine FL.nil ?_
  refine FW.ret ?_
  obtain rfl := Option.some.inj hp
  exact ⟨.inr rfl, res1 rfl rfl ⟨rfl, S34.back⟩⟩
 ·
  refine FW.condF rfl c37 ?_
  refine FW.skip (FW.seq (FW.seq (FW.region ?_)))
  refine FL.v (E.fieldAddr tf32_1 rfl) ?_
  refine FL.v (E.load rfl (run_load1 Tryz.isAgg22 ((at28.mono i35).now S34.sl) rfl)) ?_
  refine FL.v (E.fieldAddr tf32_1 rfl) ?_
  refine FL.v (E.load rfl (run_load1 Tryz.isAgg22 (at36.now S34.sl) rfl)) ?_
  obtain ⟨r38, hr39, hp⟩ := bnd hp
  refine FL.call rfl rfl rfl (E.call Tryz.call47 (A2 rfl rfl)) (w_laws_eqIntSS S34.sl v0_1 a0.clauses (p0_1.mono (i27.tr i35)) v1_1 a1.clauses (p1_1.mono (i27.tr i35)) hr39) ?_
  rintro e w40 ⟨rfl, r41⟩
  refine ⟨_, rfl, ?_⟩
  have S42 := S34.call r41
  refine FL.v (E.not rfl) ?_
  refine FL.nil ?_
  rcases ifB hp with ⟨c43, hp⟩ | ⟨c43, hp⟩
  ·
   refine FW.condT rfl c43 ?_
   refine FW.seq (FW.region ?_)
   refine FL.v (E.assign (v := Value.bool false) rfl) ?_
   refine FL.nil ?_
   refine FW.ret ?_
   obtain rfl := Option.some.inj hp
   exact ⟨.inr rfl, res1 rfl rfl ⟨rfl, S42.back⟩⟩
  ·
   refine FW.condF rfl c43 ?_
   refine FW.skip (FW.seq (FW.region ?_))
   refine FL.v (E.assign (v := Value.bool true) rfl) ?_
   refine FL.nil ?_
   refine FW.ret ?_
   obtain rfl := Option.some.inj hp
   exact ⟨.inr rfl, res1 rfl rfl ⟨rfl, S42.back⟩⟩

theorem w_laws_markIntS {H0 Ha : GH} {w0 wa : World} {l : List MO} (S0 : St H0 w0 Ha wa l) (hs0 : Sl H0 w0) (v0 : Value) (a0 : List Int) (p0 : RSl (up w0.heap.size Ha) eI 1 v0 a0) (a1 : Int) :
  Calls Tryz.prog 53 #[v0, Value.int .i64 a1] wa (M1 H0 w0 Ha l eI 1 v0 (PF.laws_markIntS a0 a1)) := by
 obtain ⟨c0, n0, hc0⟩ := p0.nest eI_flat (by decide)
 have hln := p0.ln
 have hle := p0.le
 refine calls_go (N := 19) (args := [v0, Value.int .i64 a1]) Tryz.func53 rfl rfl rfl ?_
 refine FW.seq (FW.region ?_)
 refine FL.v (E.assign (v := Value.int .i64 0) rfl) ?_
 refine FL.nil (FW.seq (FW.seq (FW.region ?_)))
 refine FL.v (E.assign (v := Value.int .i64 0) rfl) ?_
 refine FL.nil (FW.block ?_)
 refine FW.mono (FW.mark (F := fun y m => (m, (wr (m + 1)))) (a0 := a0) (k0 := a1) (fun (i : Nat) (xs : List Int) (k : Int) f w => ∃ (H : GH) (c : List Value), St H0 w0 H w l ∧ Nest (up w0.heap.size H) eI 1 v0 xs c ∧ bl c = bl c0 ∧ (∀ b, b ∉ bl [v0] → b ∉ bl c0 → H b = Ha b) ∧ f 0 = v0 ∧ f 1 = Value.int .i64 k ∧ f 5 = Value.int .i64 ((i : Nat) : Int)) (fun e f w => e = Exit.exit 0 ∧ ∃ (H : GH) (c : List Value), St H0 w0 H w l ∧ Nest (up w0.heap.size H) eI 1 v0 (markFrom (fun y m => (m, (wr (m + 1)))) a0 a1).1 c ∧ bl c = bl c0 ∧ (∀ b, b ∉ bl [v0] → b ∉ bl c0 → H b = Ha b) ∧ f 0 = v0 ∧ f 1 = Value.int .i64 (markFrom (fun y m => (m, (wr (m + 1)))) a0 a1).2) ⟨_, _, S0, n0, rfl, fun _ _ _ => rfl, rfl, rfl, rfl⟩ ?_ ?_) ?_
 ·
  rintro i y xs m f1 w1 ⟨H1, c1, S1, n1, hb, ho, kv, kk, kc⟩ hx hy
  obtain ⟨p, hpt, wr0, hB, hr, nd⟩ := n1.begin hy (by decide)
  have hci := eI_open hr
  have rd := wr0.opens hci
  refine FW.seq (FW.seq (FW.region ?_))
  refine FL.v (E.move kc) ?_
  refine FL.v (E.move kv) ?_
  refine FL.v (E.len te73 rfl hln) ?_
  refine FL.v (E.lssT rfl rfl (lss_len hx)) ?_
  refine FL.nil ?_
  refine FW.condT rfl rfl ?_
  refine FW.skip (FW.seq (FW.block (FW.seq (FW.region ?_))))
  refine FL.v (E.move kv) ?_
  refine FL.v (E.move kc) ?_
  refine FL.v (E.move kk) ?_
  refine FL.v (E.indexAddr te73 rfl rfl hpt) ?_
  obtain ⟨w21, H22, run24, S23, wr25, o26⟩ := rd.poke0 (P := Tryz.prog) (t := 3) (u := Value.int .i64 m) S1 hs0 hB rfl rfl rfl Tryz.sizeOf3 rfl rfl (c2 := [Value.int .i64 m]) rfl
  refine FL.act rfl rfl (E.store rfl rfl run24) ?_
  refine FL.nil (FW.region ?_)
  refine FL.v (E.move kk) ?_
  refine FL.v (E.add rfl rfl) ?_
  refine FL.v (E.assign (v := Value.int .i64 (wr (m + 1))) rfl) ?_
  refine FL.nil (FW.region ?_)
  refine FL.v (E.move kc) ?_
  refine FL.v (E.add rfl rfl) ?_
  refine FL.v (E.assign (v := Value.int .i64 (wr (((i : Nat) : Int) + 1))) rfl) ?_
  refine FL.nil ?_
  obtain ⟨c2, n2, hb2, ho2⟩ := n1.round eI_flat.loc hy (by decide) hpt wr25 (y' := m) rfl
  exact ⟨rfl, _, _, S23, n2, hb2.trans hb, fun b q1 q2 => (ho2 b q1 (by rw [hb]; exact q2)).trans (ho b q1 q2), kv, rfl, nat_succ rfl (lt_of_get hx) hle⟩
 ·
  rintro f1 w1 ⟨H1, c1, S1, n1, hb, ho, kv, kk, kc⟩
  refine FW.seq (FW.seq (FW.region ?_))
  refine FL.v (E.move kc) ?_
  refine FL.v (E.move kv) ?_
  refine FL.v (E.len te73 rfl hln) ?_
  refine FL.v (E.lss rfl rfl) ?_
  refine FL.nil ?_
  refine FW.condF rfl dlt_len ?_
  refine FW.exit ?_
  exact ⟨nofun, rfl, _, _, S1, n1, hb, ho, kv, kk⟩
 ·
  rintro e f2 w2 ⟨rfl, H2, c2, S2, n2, hb, ho, kv, kk⟩
  refine FW.seq (FW.region ?_)
  refine FL.v (E.move kk) ?_
  refine FL.v (E.assign (v := Value.int .i64 ((markFrom (fun y m => (m, (wr (m + 1)))) a0 a1).2)) rfl) ?_
  refine FL.nil ?_
  refine FW.ret ?_
  exact ⟨.inr rfl, res1 rfl rfl ⟨_, rfl, S2, n2.rsl, fun b q => ho b q (by rw [hc0]; simp)⟩⟩

theorem w_laws_markIntSS {H0 Ha : GH} {w0 wa : World} {l : List MO} (S0 : St H0 w0 Ha wa l) (hs0 : Sl H0 w0) (v0 : Value) (a0 : List (List Int)) (c0 : List Value) (n0 : Nest (up w0.heap.size Ha) (eL eI 1) 1 v0 a0 c0) (a1 : Int) :
  Calls Tryz.prog 48 #[v0, Value.int .i64 a1] wa (M2 H0 w0 Ha l (eL eI 1) 1 v0 c0 (PF.laws_markIntSS a0 a1)) := by
 have hln := n0.rsl.ln
 have hle := n0.rsl.le
 refine calls_go (N := 19) (args := [v0, Value.int .i64 a1]) Tryz.func48 rfl rfl rfl ?_
 refine FW.seq (FW.region ?_)
 refine FL.v (E.assign (v := Value.int .i64 0) rfl) ?_
 refine FL.nil (FW.seq (FW.seq (FW.region ?_)))
 refine FL.v (E.assign (v := Value.int .i64 0) rfl) ?_
 refine FL.nil (FW.block ?_)
 refine FW.mono (FW.mark (F := fun y m => ((PF.laws_markIntS y m).1, (PF.laws_markIntS y m).2)) (a0 := a0) (k0 := a1) (fun (i : Nat) (xs : List (List Int)) (k : Int) f w => ∃ (H : GH) (c : List Value), St H0 w0 H w l ∧ Nest (up w0.heap.size H) (eL eI 1) 1 v0 xs c ∧ bl c = bl c0 ∧ (∀ b, b ∉ bl [v0] → b ∉ bl c0 → H b = Ha b) ∧ f 0 = v0 ∧ f 1 = Value.int .i64 k ∧ f 5 = Value.int .i64 ((i : Nat) : Int)) (fun e f w => e = Exit.exit 0 ∧ ∃ (H : GH) (c : List Value), St H0 w0 H w l ∧ Nest (up w0.heap.size H) (eL eI 1) 1 v0 (markFrom (fun y m => ((PF.laws_markIntS y m).1, (PF.laws_markIntS y m).2)) a0 a1).1 c ∧ bl c = bl c0 ∧ (∀ b, b ∉ bl [v0] → b ∉ bl c0 → H b = Ha b) ∧ f 0 = v0 ∧ f 1 = Value.int .i64 (markFrom (fun y m => ((PF.laws_markIntS y m).1, (PF.laws_markIntS y m).2)) a0 a1).2) ⟨_, _, S0, n0, rfl, fun _ _ _ => rfl, rfl, rfl, rfl⟩ ?_ ?_) ?_
 ·
  rintro i y xs m f1 w1 ⟨H1, c1, S1, n1, hb, ho, kv, kk, kc⟩ hx hy
  obtain ⟨p, hpt, wr0, hB, hr, nd⟩ := n1.begin hy (by decide)
  obtain ⟨u0, hci, hu0⟩ := eL_open hr
  have rd := wr0.opens hci
  refine FW.seq (FW.seq (FW.region ?_))
  refine FL.v (E.move kc) ?_
  refine FL.v (E.move kv) ?_
  refine FL.v (E.len te22 rfl hln) ?_
  refine FL.v (E.lssT rfl rfl (lss_len hx)) ?_
  refine FL.nil ?_
  refine FW.condT rfl rfl ?_
  refine FW.skip (FW.seq (FW.block (FW.region ?_)))
  refine FL.v (E.move kv) ?_
  refine FL.v (E.move kc) ?_
  refine FL.v (E.indexAddr te22 rfl rfl hpt) ?_
  refine FL.v (E.load rfl (run_load0 Tryz.isAgg73 (rd.now S1.sl) rfl)) ?_
  refine FL.v (E.move kk) ?_
  refine FL.call rfl rfl rfl (E.call Tryz.call53 (A2 rfl rfl)) (w_laws_markIntS S1 hs0 u0 y hu0 m) ?_
  rintro e w22 ⟨H21, rfl, S23, h24, o25⟩
  refine ⟨_, rfl, ?_⟩
  have wr26 := rd.inner (j := 0) rfl o25
  refine FL.v (E.assign (v := Value.int .i64 ((PF.laws_markIntS y m).2)) rfl) ?_
  refine FL.nil (FW.region ?_)
  refine FL.v (E.move kc) ?_
  refine FL.v (E.add rfl rfl) ?_
  refine FL.v (E.assign (v := Value.int .i64 (wr (((i : Nat) : Int) + 1))) rfl) ?_
  refine FL.nil ?_
  obtain ⟨c2, n2, hb2, ho2⟩ := n1.round (eL_loc eI_flat) hy (by decide) hpt wr26 (y' := (PF.laws_markIntS y m).1) ⟨_, rfl, h24⟩
  exact ⟨rfl, _, _, S23, n2, hb2.trans hb, fun b q1 q2 => (ho2 b q1 (by rw [hb]; exact q2)).trans (ho b q1 q2), kv, rfl, nat_succ rfl (lt_of_get hx) hle⟩
 ·
  rintro f1 w1 ⟨H1, c1, S1, n1, hb, ho, kv, kk, kc⟩
  refine FW.seq (FW.seq (FW.region ?_))
  refine FL.v (E.move kc) ?_
  refine FL.v (E.move kv) ?_
  refine FL.v (E.len te22 rfl hln) ?_
  refine FL.v (E.lss rfl rfl) ?_
  refine FL.nil ?_
  refine FW.condF rfl dlt_len ?_
  refine FW.exit ?_
  exact ⟨nofun, rfl, _, _, S1, n1, hb, ho, kv, kk⟩
 ·
  rintro e f2 w2 ⟨rfl, H2, c2, S2, n2, hb, ho, kv, kk⟩
  refine FW.seq (FW.region ?_)
  refine FL.v (E.move kk) ?_
  refine FL.v (E.assign (v := Value.int .i64 ((markFrom (fun y m => ((PF.laws_markIntS y m).1, (PF.laws_markIntS y m).2)) a0 a1).2)) rfl) ?_
  refine FL.nil ?_
  refine FW.ret ?_
  exact ⟨.inr rfl, res1 rfl rfl ⟨_, _, rfl, S2, n2, hb, fun b q1 q2 => weak (F := fun b => b ∉ bl [v0] ∧ b ∉ bl c0) (fun b q => ho b q.1 q.2) b ⟨q1, q2⟩⟩⟩

@[reducible] def p_laws_markCnf (H0 : GH) (w0 : World) (Ha : GH) (l : List MO) (v0 : Value) (c0 : List Value) (r : Cnf × Int) : Ending → World → Prop := fun e w' =>
 ∃ (H' : GH) (c' : List Value), e = .returned (.int .i64 r.2) ∧ St H0 w0 H' w' l ∧ Nest (up w0.heap.size H') (eL eI 1) 1 v0 r.1.clauses c' ∧ bl c' = bl c0 ∧ ∀ b, b ∉ bl [v0] → b ∉ bl c0 → ∀ o, Ha b = some o → H' b = some o
theorem w_laws_markCnf {H0 Ha : GH} {w0 wa : World} {l : List MO} (S0 : St H0 w0 Ha wa l) (hs0 : Sl H0 w0) (a0 : Cnf) (v0 : Value) (c0 : List Value) (n0 : Nest (up w0.heap.size Ha) (eL eI 1) 1 v0 a0.clauses c0) (a1 : Int) :
  Calls Tryz.prog 27 #[.agg #[Value.int .i64 a0.vars, v0], Value.int .i64 a1] wa (p_laws_markCnf H0 w0 Ha l v0 c0 (PF.laws_markCnf a0 a1)) := by
 refine calls_go (N := 10) (args := [.agg #[Value.int .i64 a0.vars, v0], Value.int .i64 a1]) Tryz.func27 rfl rfl rfl ?_
 refine FW.seq (FW.region ?_)
 obtain ⟨b21, w22, run23, S24⟩ := S0.box (P := Tryz.prog) 32 [Value.int .i64 a0.vars, v0] (v := Value.agg #[Value.int .i64 a0.vars, v0]) rfl (ones_cons rfl (ones_cons n0.rsl.one ones_nil))
 refine FL.v (E.box rfl run23) ?_
 obtain ⟨H25, S26, i27, at28⟩ := S24.sealBox (i := 0) (l' := l) rfl rfl
 refine FL.v (E.assign (v := Value.int .i64 0) rfl) ?_
 refine FL.nil (FW.seq (FW.region ?_))
 refine FL.v (E.fieldAddr tf32_1 rfl) ?_
 refine FL.v (E.load rfl (run_load1 Tryz.isAgg22 (at28.now S26.sl) rfl)) ?_
 refine FL.v (E.move (v := Value.int .i64 a1) rfl) ?_
 refine FL.call rfl rfl rfl (E.call Tryz.call48 (A2 rfl rfl)) (w_laws_markIntSS S26 hs0 v0 a0.clauses c0 (n0.mono (up_mono i27)) a1) ?_
 rintro e w30 ⟨H29, c34, rfl, S31, h32, hb35, o33⟩
 refine ⟨_, rfl, ?_⟩
 refine FL.v (E.assign (v := Value.int .i64 ((PF.laws_markIntSS a0.clauses a1).2)) rfl) ?_
 refine FL.nil (FW.seq (FW.region ?_))
 refine FL.v (E.move (v := Value.int .i64 ((PF.laws_markIntSS a0.clauses a1).2)) rfl) ?_
 refine FL.v (E.assign (v := Value.int .i64 ((PF.laws_markIntSS a0.clauses a1).2)) rfl) ?_
 refine FL.nil ?_
 refine FW.ret ?_
 exact ⟨.inr rfl, res1 rfl rfl ⟨_, _, rfl, S31, h32, hb35, fun b q1 q2 o ho => o33 b q1 q2 o (i27 b o ho)⟩⟩

theorem w_laws_markTermS {H0 Ha : GH} {w0 wa : World} {l : List MO} (S0 : St H0 w0 Ha wa l) (hs0 : Sl H0 w0) (v0 : Value) (a0 : List Term) (p0 : RSl (up w0.heap.size Ha) eTerm 2 v0 a0) (a1 : Int) :
  Calls Tryz.prog 36 #[v0, Value.int .i64 a1] wa (M1 H0 w0 Ha l eTerm 2 v0 (PF.laws_markTermS a0 a1)) := by
 obtain ⟨c0, n0, hc0⟩ := p0.nest eTerm_flat (by decide)
 have hln := p0.ln
 have hle := p0.le
 refine calls_go (N := 27) (args := [v0, Value.int .i64 a1]) Tryz.func36 rfl rfl rfl ?_
 refine FW.seq (FW.region ?_)
 refine FL.v (E.assign (v := Value.int .i64 0) rfl) ?_
 refine FL.nil (FW.seq (FW.seq (FW.region ?_)))
 refine FL.v (E.assign (v := Value.int .i64 0) rfl) ?_
 refine FL.nil (FW.block ?_)
 refine FW.mono (FW.mark (F := fun y m => ((Term.mk m (wr (m + 1))), (wr ((wr (m + 1)) + 1)))) (a0 := a0) (k0 := a1) (fun (i : Nat) (xs : List Term) (k : Int) f w => ∃ (H : GH) (c : List Value), St H0 w0 H w l ∧ Nest (up w0.heap.size H) eTerm 2 v0 xs c ∧ bl c = bl c0 ∧ (∀ b, b ∉ bl [v0] → b ∉ bl c0 → H b = Ha b) ∧ f 0 = v0 ∧ f 1 = Value.int .i64 k ∧ f 5 = Value.int .i64 ((i : Nat) : Int)) (fun e f w => e = Exit.exit 0 ∧ ∃ (H : GH) (c : List Value), St H0 w0 H w l ∧ Nest (up w0.heap.size H) eTerm 2 v0 (markFrom (fun y m => ((Term.mk m (wr (m + 1))), (wr ((wr (m + 1)) + 1)))) a0 a1).1 c ∧ bl c = bl c0 ∧ (∀ b, b ∉ bl [v0] → b ∉ bl c0 → H b = Ha b) ∧ f 0 = v0 ∧ f 1 = Value.int .i64 (markFrom (fun y m => ((Term.mk m (wr (m + 1))), (wr ((wr (m + 1)) + 1)))) a0 a1).2) ⟨_, _, S0, n0, rfl, fun _ _ _ => rfl, rfl, rfl, rfl⟩ ?_ ?_) ?_
 ·
  rintro i y xs m f1 w1 ⟨H1, c1, S1, n1, hb, ho, kv, kk, kc⟩ hx hy
  obtain ⟨p, hpt, wr0, hB, hr, nd⟩ := n1.begin hy (by decide)
  have hci := eTerm_open hr
  have rd := wr0.opens hci
  refine FW.seq (FW.seq (FW.region ?_))
  refine FL.v (E.move kc) ?_
  refine FL.v (E.move kv) ?_
  refine FL.v (E.len te55 rfl hln) ?_
  refine FL.v (E.lssT rfl rfl (lss_len hx)) ?_
  refine FL.nil ?_
  refine FW.condT rfl rfl ?_
  refine FW.skip (FW.seq (FW.block (FW.seq (FW.region ?_))))
  refine FL.v (E.move kv) ?_
  refine FL.v (E.move kc) ?_
  refine FL.v (E.move kk) ?_
  refine FL.v (E.indexAddr te55 rfl rfl hpt) ?_
  refine FL.v (E.fieldAddr tf108_0 rfl) ?_
  obtain ⟨w21, H22, run24, S23, wr25, o26⟩ := rd.poke (P := Tryz.prog) (t := 3) (u := Value.int .i64 m) S1 hs0 hB (j := 0) rfl rfl rfl Tryz.sizeOf3 rfl rfl (c2 := [Value.int .i64 m, Value.int .i64 y.coeff]) rfl
  refine FL.act rfl rfl (E.store rfl rfl run24) ?_
  refine FL.nil (FW.seq (FW.region ?_))
  refine FL.v (E.move kk) ?_
  refine FL.v (E.add rfl rfl) ?_
  refine FL.v (E.assign (v := Value.int .i64 (wr (m + 1))) rfl) ?_
  refine FL.nil (FW.seq (FW.region ?_))
  refine FL.v (E.move kv) ?_
  refine FL.v (E.move kc) ?_
  refine FL.v (E.move (v := Value.int .i64 (wr (m + 1))) rfl) ?_
  refine FL.v (E.indexAddr te55 rfl rfl hpt) ?_
  refine FL.v (E.fieldAddr tf108_1 rfl) ?_
  obtain ⟨w27, H28, run30, S29, wr31, o32⟩ := wr25.poke (P := Tryz.prog) (t := 3) (u := Value.int .i64 (wr (m + 1))) S23 hs0 hB (j := 1) rfl rfl rfl Tryz.sizeOf3 rfl rfl (c2 := [Value.int .i64 m, Value.int .i64 (wr (m + 1))]) rfl
  refine FL.act rfl rfl (E.store rfl rfl run30) ?_
  refine FL.nil (FW.region ?_)
  refine FL.v (E.move (v := Value.int .i64 (wr (m + 1))) rfl) ?_
  refine FL.v (E.add rfl rfl) ?_
  refine FL.v (E.assign (v := Value.int .i64 (wr ((wr (m + 1)) + 1))) rfl) ?_
  refine FL.nil (FW.region ?_)
  refine FL.v (E.move kc) ?_
  refine FL.v (E.add rfl rfl) ?_
  refine FL.v (E.assign (v := Value.int .i64 (wr (((i : Nat) : Int) + 1))) rfl) ?_
  refine FL.nil ?_
  obtain ⟨c2, n2, hb2, ho2⟩ := n1.round eTerm_flat.loc hy (by decide) hpt wr31 (y' := (Term.mk m (wr (m + 1)))) rfl
  exact ⟨rfl, _, _, S29, n2, hb2.trans hb, fun b q1 q2 => (ho2 b q1 (by rw [hb]; exact q2)).trans (ho b q1 q2), kv, rfl, nat_succ rfl (lt_of_get hx) hle⟩
 ·
  rintro f1 w1 ⟨H1, c1, S1, n1, hb, ho, kv, kk, kc⟩
  refine FW.seq (FW.seq (FW.region ?_))
  refine FL.v (E.move kc) ?_
  refine FL.v (E.move kv) ?_
  refine FL.v (E.len te55 rfl hln) ?_
  refine FL.v (E.lss rfl rfl) ?_
  refine FL.nil ?_
  refine FW.condF rfl dlt_len ?_
  refine FW.exit ?_
  exact ⟨nofun, rfl, _, _, S1, n1, hb, ho, kv, kk⟩
 ·
  rintro e f2 w2 ⟨rfl, H2, c2, S2, n2, hb, ho, kv, kk⟩
  refine FW.seq (FW.region ?_)
  refine FL.v (E.move kk) ?_
  refine FL.v (E.assign (v := Value.int .i64 ((markFrom (fun y m => ((Term.mk m (wr (m + 1))), (wr ((wr (m + 1)) + 1)))) a0 a1).2)) rfl) ?_
  refine FL.nil ?_
  refine FW.ret ?_
  exact ⟨.inr rfl, res1 rfl rfl ⟨_, rfl, S2, n2.rsl, fun b q => ho b q (by rw [hc0]; simp)⟩⟩

theorem w_laws_markTermSS {H0 Ha : GH} {w0 wa : World} {l : List MO} (S0 : St H0 w0 Ha wa l) (hs0 : Sl H0 w0) (v0 : Value) (a0 : List (List Term)) (c0 : List Value) (n0 : Nest (up w0.heap.size Ha) (eL eTerm 2) 1 v0 a0 c0) (a1 : Int) :
  Calls Tryz.prog 43 #[v0, Value.int .i64 a1] wa (M2 H0 w0 Ha l (eL eTerm 2) 1 v0 c0 (PF.laws_markTermSS a0 a1)) := by
 have hln := n0.rsl.ln
 have hle := n0.rsl.le
 refine calls_go (N := 19) (args := [v0, Value.int .i64 a1]) Tryz.func43 rfl rfl rfl ?_
 refine FW.seq (FW.region ?_)
 refine FL.v (E.assign (v := Value.int .i64 0) rfl) ?_
 refine FL.nil (FW.seq (FW.seq (FW.region ?_)))
 refine FL.v (E.assign (v := Value.int .i64 0) rfl) ?_
 refine FL.nil (FW.block ?_)
 refine FW.mono (FW.mark (F := fun y m => ((PF.laws_markTermS y m).1, (PF.laws_markTermS y m).2)) (a0 := a0) (k0 := a1) (fun (i : Nat) (xs : List (List Term)) (k : Int) f w => ∃ (H : GH) (c : List Value), St H0 w0 H w l ∧ Nest (up w0.heap.size H) (eL eTerm 2) 1 v0 xs c ∧ bl c = bl c0 ∧ (∀ b, b ∉ bl [v0] → b ∉ bl c0 → H b = Ha b) ∧ f 0 = v0 ∧ f 1 = Value.int .i64 k ∧ f 5 = Value.int .i64 ((i : Nat) : Int)) (fun e f w => e = Exit.exit 0 ∧ ∃ (H : GH) (c : List Value), St H0 w0 H w l ∧ Nest (up w0.heap.size H) (eL eTerm 2) 1 v0 (markFrom (fun y m => ((PF.laws_markTermS y m).1, (PF.laws_markTermS y m).2)) a0 a1).1 c ∧ bl c = bl c0 ∧ (∀ b, b ∉ bl [v0] → b ∉ bl c0 → H b = Ha b) ∧ f 0 = v0 ∧ f 1 = Value.int .i64 (markFrom (fun y m => ((PF.laws_markTermS y m).1, (PF.laws_markTermS y m).2)) a0 a1).2) ⟨_, _, S0, n0, rfl, fun _ _ _ => rfl, rfl, rfl, rfl⟩ ?_ ?_) ?_
 ·
  rintro i y xs m f1 w1 ⟨H1, c1, S1, n1, hb, ho, kv, kk, kc⟩ hx hy
  obtain ⟨p, hpt, wr0, hB, hr, nd⟩ := n1.begin hy (by decide)
  obtain ⟨u0, hci, hu0⟩ := eL_open hr
  have rd := wr0.opens hci
  refine FW.seq (FW.seq (FW.region ?_))
  refine FL.v (E.move kc) ?_
  refine FL.v (E.move kv) ?_
  refine FL.v (E.len te63 rfl hln) ?_
  refine FL.v (E.lssT rfl rfl (lss_len hx)) ?_
  refine FL.nil ?_
  refine FW.condT rfl rfl ?_
  refine FW.skip (FW.seq (FW.block (FW.region ?_)))
  refine FL.v (E.move kv) ?_
  refine FL.v (E.move kc) ?_
  refine FL.v (E.indexAddr te63 rfl rfl hpt) ?_
  refine FL.v (E.load rfl (run_load0 Tryz.isAgg55 (rd.now S1.sl) rfl)) ?_
  refine FL.v (E.move kk) ?_
  refine FL.call rfl rfl rfl (E.call Tryz.call36 (A2 rfl rfl)) (w_laws_markTermS S1 hs0 u0 y hu0 m) ?_
  rintro e w22 ⟨H21, rfl, S23, h24, o25⟩
  refine ⟨_, rfl, ?_⟩
  have wr26 := rd.inner (j := 0) rfl o25
  refine FL.v (E.assign (v := Value.int .i64 ((PF.laws_markTermS y m).2)) rfl) ?_
  refine FL.nil (FW.region ?_)
  refine FL.v (E.move kc) ?_
  refine FL.v (E.add rfl rfl) ?_
  refine FL.v (E.assign (v := Value.int .i64 (wr (((i : Nat) : Int) + 1))) rfl) ?_
  refine FL.nil ?_
  obtain ⟨c2, n2, hb2, ho2⟩ := n1.round (eL_loc eTerm_flat) hy (by decide) hpt wr26 (y' := (PF.laws_markTermS y m).1) ⟨_, rfl, h24⟩
  exact ⟨rfl, _, _, S23, n2, hb2.trans hb, fun b q1 q2 => (ho2 b q1 (by rw [hb]; exact q2)).trans (ho b q1 q2), kv, rfl, nat_succ rfl (lt_of_get hx) hle⟩
 ·
  rintro f1 w1 ⟨H1, c1, S1, n1, hb, ho, kv, kk, kc⟩
  refine FW.seq (FW.seq (FW.region ?_))
  refine FL.v (E.move kc) ?_
  refine FL.v (E.move kv) ?_
  refine FL.v (E.len te63 rfl hln) ?_
  refine FL.v (E.lss rfl rfl) ?_
  refine FL.nil ?_
  refine FW.condF rfl dlt_len ?_
  refine FW.exit ?_
  exact ⟨nofun, rfl, _, _, S1, n1, hb, ho, kv, kk⟩
 ·
  rintro e f2 w2 ⟨rfl, H2, c2, S2, n2, hb, ho, kv, kk⟩
  refine FW.seq (FW.region ?_)
  refine FL.v (E.move kk) ?_
  refine FL.v (E.assign (v := Value.int .i64 ((markFrom (fun y m => ((PF.laws_markTermS y m).1, (PF.laws_markTermS y m).2)) a0 a1).2)) rfl) ?_
  refine FL.nil ?_
  refine FW.ret ?_
  exact ⟨.inr rfl, res1 rfl rfl ⟨_, _, rfl, S2, n2, hb, fun b q1 q2 => weak (F := fun b => b ∉ bl [v0] ∧ b ∉ bl c0) (fun b q => ho b q.1 q.2) b ⟨q1, q2⟩⟩⟩

theorem w_laws_heldTermS {Ha : GH} {wa : World} (hs : Sl Ha wa) (v0 : Value) (a0 : List Term) (p0 : RSl Ha eTerm 2 v0 a0) (a1 : Int) {r : Int} (hp : (PF.laws_heldTermS a0 a1) = some r) :
  Calls Tryz.prog 37 #[v0, Value.int .i64 a1] wa (Sc Ha wa (Value.int .i64 r)) := by
 unfold PF.laws_heldTermS at hp
 have S0 := St.init hs
 refine calls_go (N := 31) (args := [v0, Value.int .i64 a1]) Tryz.func37 rfl rfl rfl ?_
 refine FW.seq (FW.region ?_)
 refine FL.v (E.assign (v := Value.int .i64 0) rfl) ?_
 refine FL.nil (FW.seq (FW.seq (FW.region ?_)))
 refine FL.v (E.assign (v := Value.int .i64 0) rfl) ?_
 refine FL.nil ?_
 obtain ⟨q22, hq, hp⟩ := bndR hp
 refine FW.block ?_
 refine FW.mono (FW.forL (S := Int) (X := Int) (fun (i22 : Nat) (s22 : Int) f w => ∃ H : GH, St Ha wa H w [] ∧ Inc Ha H ∧ f 5 = Value.int .i64 ((i22 : Nat) : Int) ∧ f 0 = v0 ∧ f 1 = Value.int .i64 s22) (fun q e f w => match q with | .go s22 => e = Exit.exit 0 ∧ (∃ H : GH, St Ha wa H w [] ∧ Inc Ha H ∧ f 1 = Value.int .i64 s22) | .rt x => ((e = Exit.ret) ∧ (fun e f w => (e = Exit.normal ∨ e = Exit.ret) ∧ ∀ a, Fr (δ := []) 31 a f → ∃ v, (results Tryz.f37 a.tmps).run Tryz.prog w = .ok v w ∧ (Sc Ha wa (Value.int .i64 x)) (.returned v) w) e f w)) hq ⟨_, S0, (Inc.rfl _), rfl, rfl, rfl⟩ ?_ ?_) ?_
 ·
  clear hp hq
  rintro i22 y21 s22 f49 w48 ⟨H45, S46, i47, k50, k51, k52⟩ hx22 o67 hp
  refine FW.seq (FW.seq (FW.region ?_))
  refine FL.v (E.move k50) ?_
  refine FL.v (E.move k51) ?_
  refine FL.v (E.lenP te55 rfl p0) ?_
  refine FL.v (E.lssT rfl rfl (lss_len hx22)) ?_
  refine FL.nil ?_
  refine FW.condT rfl rfl ?_
  refine FW.skip (FW.seq (FW.block (FW.seq (FW.seq (FW.region ?_)))))
  refine FL.v (E.move k51) ?_
  refine FL.v (E.move k50) ?_
  obtain ⟨p53, cs54, pt55, l56, at57, rel58⟩ := p0.at (ix_nat hx22)
  obtain rfl := eTerm_open rel58
  refine FL.v (E.indexAddr te55 rfl rfl pt55) ?_
  refine FL.v (E.fieldAddr tf108_0 rfl) ?_
  refine FL.v (E.load rfl (run_load1 Tryz.isAgg3 ((at57.mono i47).now S46.sl) rfl)) ?_
  refine FL.v (E.move k52) ?_
  refine FL.v (E.neq rfl rfl) ?_
  refine FL.nil ?_
  rcases ifB hp with ⟨c59, hp⟩ | ⟨c59, hp⟩
  ·
   refine FW.condT rfl c59 ?_
   refine FW.seq (FW.region ?_)
   refine FL.v (E.assign (v := Value.int .i64 (-1)) rfl) ?_
   refine FL.nil ?_
   refine FW.ret ?_
   obtain rfl := Option.some.inj hp
   exact ⟨nofun, rfl, ⟨.inr rfl, res1 rfl rfl ⟨rfl, S46.back⟩⟩⟩
  ·
   refine FW.condF rfl c59 ?_
   refine FW.skip (FW.seq (FW.region ?_))
   refine FL.v (E.move k52) ?_
   refine FL.v (E.add rfl rfl) ?_
   refine FL.v (E.assign (v := Value.int .i64 (wr (s22 + 1))) rfl) ?_
   refine FL.nil (FW.seq (FW.seq (FW.region ?_)))
   refine FL.v (E.move k51) ?_
   refine FL.v (E.move k50) ?_
   obtain ⟨p60, cs61, pt62, l63, at64, rel65⟩ := p0.at (ix_nat hx22)
   obtain rfl := eTerm_open rel65
   refine FL.v (E.indexAddr te55 rfl rfl pt62) ?_
   refine FL.v (E.fieldAddr tf108_1 rfl) ?_
   refine FL.v (E.load rfl (run_load1 Tryz.isAgg3 ((at64.mono i47).now S46.sl) rfl)) ?_
   refine FL.v (E.move (v := Value.int .i64 (wr (s22 + 1))) rfl) ?_
   refine FL.v (E.neq rfl rfl) ?_
   refine FL.nil ?_
   rcases ifB hp with ⟨c66, hp⟩ | ⟨c66, hp⟩
   ·
    refine FW.condT rfl c66 ?_
    refine FW.seq (FW.region ?_)
    refine FL.v (E.assign (v := Value.int .i64 (-1)) rfl) ?_
    refine FL.nil ?_
    refine FW.ret ?_
    obtain rfl := Option.some.inj hp
    exact ⟨nofun, rfl, ⟨.inr rfl, res1 rfl rfl ⟨rfl, S46.back⟩⟩⟩
   ·
    refine FW.condF rfl c66 ?_
    refine FW.skip (FW.region ?_)
    refine FL.v (E.move (v := Value.int .i64 (wr (s22 + 1))) rfl) ?_
    refine FL.v (E.add rfl rfl) ?_
    refine FL.v (E.assign (v := Value.int .i64 (wr ((wr (s22 + 1)) + 1))) rfl) ?_
    refine FL.nil (FW.region ?_)
    refine FL.v (E.move k50) ?_
    refine FL.v (E.add rfl rfl) ?_
    refine FL.v (E.assign (v := Value.int .i64 (wr (((i22 : Nat) : Int) + 1))) rfl) ?_
    refine FL.nil ?_
    obtain rfl := Option.some.inj hp
    exact ⟨rfl, ⟨_, S46, i47, (nat_succ rfl (lt_of_get hx22) (p0.mono i47).le), k51, rfl⟩⟩
 ·
  clear hp hq
  rintro s22 f78 w77 ⟨H74, S75, i76, k79, k80, k81⟩
  refine FW.seq (FW.seq (FW.region ?_))
  refine FL.v (E.move k79) ?_
  refine FL.v (E.move k80) ?_
  refine FL.v (E.lenP te55 rfl p0) ?_
  refine FL.v (E.lss rfl rfl) ?_
  refine FL.nil ?_
  refine FW.condF rfl dlt_len ?_
  refine FW.exit ?_
  exact ⟨nofun, rfl, ⟨_, S75, i76, k81⟩⟩
 ·
  clear hq
  intro e f72 w71 hD
  rcases q22 with s22 | x22
  ·
   obtain ⟨rfl, hD⟩ := hD
   obtain ⟨H68, S69, i70, k73⟩ := hD
   replace hp := el_go hp
   refine FW.seq (FW.region ?_)
   refine FL.v (E.move k73) ?_
   refine FL.v (E.assign (v := Value.int .i64 s22) rfl) ?_
   refine FL.nil ?_
   refine FW.ret ?_
   obtain rfl := Option.some.inj hp
   exact ⟨.inr rfl, res1 rfl rfl ⟨rfl, S69.back⟩⟩
  ·
   obtain ⟨he, hL⟩ := hD
   replace hp := el_rt hp
   obtain rfl := Option.some.inj hp
   subst he
   exact hL

theorem w_laws_heldTermSS {Ha : GH} {wa : World} (hs : Sl Ha wa) (v0 : Value) (a0 : List (List Term)) (p0 : RSl Ha (eL eTerm 2) 1 v0 a0) (a1 : Int) {r : Int} (hp : (PF.laws_heldTermSS a0 a1) = some r) :
  Calls Tryz.prog 44 #[v0, Value.int .i64 a1] wa (Sc Ha wa (Value.int .i64 r)) := by
 unfold PF.laws_heldTermSS at hp
 have S0 := St.init hs
 refine calls_go (N := 21) (args := [v0, Value.int .i64 a1]) Tryz.func44 rfl rfl rfl ?_
 refine FW.seq (FW.region ?_)
 refine FL.v (E.assign (v := Value.int .i64 0) rfl) ?_
 refine FL.nil (FW.seq (FW.seq (FW.region ?_)))
 refine FL.v (E.assign (v := Value.int .i64 0) rfl) ?_
 refine FL.nil ?_
 obtain ⟨q22, hq, hp⟩ := bndR hp
 refine FW.block ?_
 refine FW.mono (FW.forL (S := Int) (X := Int) (fun (i22 : Nat) (s22 : Int) f w => ∃ H : GH, St Ha wa H w [] ∧ Inc Ha H ∧ f 5 = Value.int .i64 ((i22 : Nat) : Int) ∧ f 0 = v0 ∧ f 1 = Value.int .i64 s22) (fun q e f w => match q with | .go s22 => e = Exit.exit 0 ∧ (∃ H : GH, St Ha wa H w [] ∧ Inc Ha H ∧ f 1 = Value.int .i64 s22) | .rt x => ((e = Exit.ret) ∧ (fun e f w => (e = Exit.normal ∨ e = Exit.ret) ∧ ∀ a, Fr (δ := []) 21 a f → ∃ v, (results Tryz.f44 a.tmps).run Tryz.prog w = .ok v w ∧ (Sc Ha wa (Value.int .i64 x)) (.returned v) w) e f w)) hq ⟨_, S0, (Inc.rfl _), rfl, rfl, rfl⟩ ?_ ?_) ?_
 ·
  clear hp hq
  rintro i22 y21 s22 f49 w48 ⟨H45, S46, i47, k50, k51, k52⟩ hx22 o67 hp
  refine FW.seq (FW.seq (FW.region ?_))
  refine FL.v (E.move k50) ?_
  refine FL.v (E.move k51) ?_
  refine FL.v (E.lenP te63 rfl p0) ?_
  refine FL.v (E.lssT rfl rfl (lss_len hx22)) ?_
  refine FL.nil ?_
  refine FW.condT rfl rfl ?_
  refine FW.skip (FW.seq (FW.block (FW.seq (FW.region ?_))))
  refine FL.v (E.move k51) ?_
  refine FL.v (E.move k50) ?_
  obtain ⟨p53, cs54, pt55, l56, at57, rel58⟩ := p0.at (ix_nat hx22)
  obtain ⟨v59, rfl, h60⟩ := eL_open rel58
  refine FL.v (E.indexAddr te63 rfl rfl pt55) ?_
  refine FL.v (E.load rfl (run_load0 Tryz.isAgg55 ((at57.mono i47).now S46.sl) rfl)) ?_
  refine FL.v (E.move k52) ?_
  obtain ⟨r61, hr62, hp⟩ := bnd hp
  refine FL.call rfl rfl rfl (E.call Tryz.call37 (A2 rfl rfl)) (w_laws_heldTermS S46.sl v59 y21 (h60.mono i47) s22 hr62) ?_
  rintro e w63 ⟨rfl, r64⟩
  refine ⟨_, rfl, ?_⟩
  have S65 := S46.call r64
  refine FL.v (E.assign (v := Value.int .i64 r61) rfl) ?_
  refine FL.nil (FW.seq (FW.region ?_))
  refine FL.v (E.move (v := Value.int .i64 r61) rfl) ?_
  refine FL.v (E.lss rfl rfl) ?_
  refine FL.nil ?_
  rcases ifB hp with ⟨c66, hp⟩ | ⟨c66, hp⟩
  ·
   refine FW.condT rfl c66 ?_
   refine FW.seq (FW.region ?_)
   refine FL.v (E.assign (v := Value.int .i64 (-1)) rfl) ?_
   refine FL.nil ?_
   refine FW.ret ?_
   obtain rfl := Option.some.inj hp
   exact ⟨nofun, rfl, ⟨.inr rfl, res1 rfl rfl ⟨rfl, S65.back⟩⟩⟩
  ·
   refine FW.condF rfl c66 ?_
   refine FW.skip (FW.region ?_)
   refine FL.v (E.move k50) ?_
   refine FL.v (E.add rfl rfl) ?_
   refine FL.v (E.assign (v := Value.int .i64 (wr (((i22 : Nat) : Int) + 1))) rfl) ?_
   refine FL.nil ?_
   obtain rfl := Option.some.inj hp
   exact ⟨rfl, ⟨_, S65, i47, (nat_succ rfl (lt_of_get hx22) (p0.mono i47).le), k51, rfl⟩⟩
 ·
  clear hp hq
  rintro s22 f78 w77 ⟨H74, S75, i76, k79, k80, k81⟩
  refine FW.seq (FW.seq (FW.region ?_))
  refine FL.v (E.move k79) ?_
  refine FL.v (E.move k80) ?_
  refine FL.v (E.lenP te63 rfl p0) ?_
  refine FL.v (E.lss rfl rfl) ?_
  refine FL.nil ?_
  refine FW.condF rfl dlt_len ?_
  refine FW.exit ?_
  exact ⟨nofun, rfl, ⟨_, S75, i76, k81⟩⟩
 ·
  clear hq
  intro e f72 w71 hD
  rcases q22 with s22 | x22
  ·
   obtain ⟨rfl, hD⟩ := hD
   obtain ⟨H68, S69, i70, k73⟩ := hD
   replace hp := el_go hp
   refine FW.seq (FW.region ?_)
   refine FL.v (E.move k73) ?_
   refine FL.v (E.assign (v := Value.int .i64 s22) rfl) ?_
   refine FL.nil ?_
   refine FW.ret ?_
   obtain rfl := Option.some.inj hp
   exact ⟨.inr rfl, res1 rfl rfl ⟨rfl, S69.back⟩⟩
  ·
   obtain ⟨he, hL⟩ := hD
   replace hp := el_rt hp
   obtain rfl := Option.some.inj hp
   subst he
   exact hL

set_option maxHeartbeats 4000000 in
theorem w_laws_FnExactPcBasis {Ha : GH} {wa : World} (hs : Sl Ha wa) (a0 : Int) (a1 : Cnf) (v1_1 : Value) (p1_1 : RSl Ha (eL eI 1) 1 v1_1 a1.clauses) (a2 : Int) {r : Bool} (hp : (PF.laws_FnExactPcBasis a0 a1 a2) = some r) :
  Calls Tryz.prog 8 #[Value.int .i64 a0, Value.agg #[Value.int .i64 a1.vars, v1_1], Value.int .i64 a2] wa (Sc Ha wa (Value.bool r)) := by
 unfold PF.laws_FnExactPcBasis at hp
 have S0 := St.init hs
 refine calls_go (N := 106) (args := [Value.int .i64 a0, Value.agg #[Value.int .i64 a1.vars, v1_1], Value.int .i64 a2]) Tryz.func8 rfl rfl rfl ?_
 refine FW.seq (FW.region ?_)
 obtain ⟨w21, run22, S23, z24⟩ := S0.boxB (P := Tryz.prog) 24 [Value.int .i64 a1.vars, v1_1] (v := Value.agg #[Value.int .i64 a1.vars, v1_1]) rfl (ones_cons rfl (ones_cons p1_1.one ones_nil))
 refine FL.v (E.box rfl run22) ?_
 obtain ⟨H25, S26, i27, at28⟩ := S23.sealBoxB (i := 0) (l' := []) rfl rfl
 refine FL.v (E.assign (v := Value.bool false) rfl) ?_
 refine FL.nil (FW.seq (FW.region ?_))
 refine FL.v (E.assign (v := Value.int .i64 1048576) rfl) ?_
 refine FL.nil (FW.seq (FW.region ?_))
 refine FL.v (E.load rfl (run_loadA Tryz.isAgg24 Tryz.sizeOf24 ((at28.mono sgI).now S26.sl) rfl)) ?_
 refine FL.v (E.move (v := Value.int .i64 1048576) rfl) ?_
 obtain ⟨r29, hr30, hp⟩ := bnd hp
 refine FL.call rfl rfl rfl (E.call Tryz.call11 (A2 rfl rfl)) (w_laws_szCnf S26.sl a1 v1_1 (p1_1.mono i27) 1048576 hr30) ?_
 rintro e w31 ⟨rfl, r32⟩
 refine ⟨_, rfl, ?_⟩
 have S33 := S26.call r32
 have z34 := r32.bel.size
 refine FL.v (E.assign (v := Value.int .i64 r29) rfl) ?_
 refine FL.nil (FW.seq (FW.seq (FW.region ?_)))
 refine FL.v (E.move (v := Value.int .i64 r29) rfl) ?_
 refine FL.v (E.lss rfl rfl) ?_
 refine FL.nil ?_
 rcases ifB hp with ⟨c35, hp⟩ | ⟨c35, hp⟩
 ·
  refine FW.condT rfl c35 ?_
  refine FW.seq (FW.region ?_)
  refine FL.v (E.assign (v := Value.bool true) rfl) ?_
  refine FL.nil ?_
  refine FW.ret ?_
  obtain rfl := Option.some.inj hp
  exact ⟨.inr rfl, res1 rfl rfl ⟨rfl, S33.back⟩⟩
 ·
  refine FW.condF rfl c35 ?_
  refine FW.skip (FW.seq (FW.region ?_))
  refine FL.v (E.move (v := Value.int .i64 a0) rfl) ?_
  refine FL.v (E.load rfl (run_loadA Tryz.isAgg24 Tryz.sizeOf24 ((at28.mono sgI).now S33.sl) rfl)) ?_
  obtain ⟨r36, hr37, hp⟩ := bnd hp
  refine FL.call rfl rfl rfl (E.call Tryz.call15 (A1 rfl)) (w_laws_toCnf S33.sl a1 v1_1 (p1_1.mono i27) hr37) ?_
  rintro e w39 ⟨H38, v42, rfl, r41, ⟨c45, ns44⟩⟩
  refine ⟨_, rfl, ?_⟩
  have h43 := ns44.rsl
  have nv46 : New H25 [v42] := New.of_up S33.sl h43.dom
  have S40 := S33.call r41
  have z47 := r41.bel.size
  have h43 := h43.mono (sg_of S40.sl)
  have ns44 := ns44.mono (sg_of S40.sl)
  refine FL.v (E.move (v := Value.int .i64 a2) rfl) ?_
  obtain ⟨r48, hr49, hp⟩ := bnd hp
  refine FL.call rfl rfl rfl (E.call Tryz.call40 (A3 rfl rfl rfl)) (w_spec_PcBasis S40.sl a0 r36 v42 (h43.mono sgI) a2 hr49) ?_
  rintro e w51 ⟨H50, v54, n55, cs56, rfl, r53, els57, nd58⟩
  refine ⟨_, rfl, ?_⟩
  have nv59 : New H38 cs56 := New.of_up S40.sl els57.dom
  obtain ⟨H60, r61, i62, ns65, nv64⟩ := r53.sealRowN (i := 0) (l' := []) rfl els57 nd58 (by decide) rfl
  have h63 := ns65.rsl
  have S52 := S40.call r61.run
  have z66 := r61.run.bel.size
  have h63 := h63.mono (sg_of S52.sl)
  have ns65 := ns65.mono (sg_of S52.sl)
  refine FL.v (E.move (v := Value.tuple #[v54, Value.bool r48.2]) rfl) ?_
  refine FL.v (E.extract (i := 0) rfl rfl) ?_
  refine FL.v (E.extract (i := 1) rfl rfl) ?_
  refine FL.v (E.assign (v := v54) rfl) ?_
  refine FL.v (E.assign (v := Value.bool r48.2) rfl) ?_
  refine FL.nil (FW.seq (FW.region ?_))
  refine FL.v (E.load rfl (run_loadA Tryz.isAgg24 Tryz.sizeOf24 ((at28.mono (sgI.tr (r41.inc.tr r61.run.inc))).now S52.sl) rfl)) ?_
  obtain ⟨r67, hr68, hp⟩ := bnd hp
  refine FL.call rfl rfl rfl (E.call Tryz.call15 (A1 rfl)) (w_laws_toCnf S52.sl a1 v1_1 (p1_1.mono ((i27.tr r41.inc).tr r61.run.inc)) hr68) ?_
  rintro e w70 ⟨H69, v73, rfl, r72, ⟨c76, ns75⟩⟩
  refine ⟨_, rfl, ?_⟩
  have h74 := ns75.rsl
  have nv77 : New H60 [v73] := New.of_up S52.sl h74.dom
  have S71 := S52.call r72
  have z78 := r72.bel.size
  have h74 := h74.mono (sg_of S71.sl)
  have ns75 := ns75.mono (sg_of S71.sl)
  obtain ⟨w79, run80, S81, z82⟩ := S71.allocB (P := Tryz.prog) 32 [Value.int .i64 0, Value.slice none 0 0] Tryz.zeroValue32 rfl (ones_cons rfl (ones_cons rfl ones_nil))
  refine FL.v (E.alloc run80) ?_
  obtain ⟨w83, run84, S85, z86⟩ := S81.store0B (P := Tryz.prog) (t := 32) (i := 0) (cs' := [Value.int .i64 r67.vars, v73]) (l' := [.box w70.heap.size 32 [Value.int .i64 r67.vars, v73]]) (v := Value.agg #[Value.int .i64 r67.vars, v73]) (c := [Value.int .i64 r67.vars, v73]) rfl Tryz.sizeOf32 rfl rfl (ones_cons rfl (ones_cons h74.one ones_nil)) (Nat.le_of_ble_eq_true rfl) rfl rfl
  refine FL.act rfl rfl (E.store rfl rfl run84) ?_
  obtain ⟨H87, S88, i89, at90⟩ := S85.sealBoxB (i := 0) (l' := []) rfl rfl
  refine FL.nil (FW.seq (FW.region ?_))
  refine FL.v (E.move (v := Value.int .i64 a0) rfl) ?_
  refine FL.v (E.load rfl (run_loadA Tryz.isAgg32 Tryz.sizeOf32 ((at90.mono sgI).now S88.sl) rfl)) ?_
  refine FL.v (E.move (v := Value.int .i64 a2) rfl) ?_
  obtain ⟨r91, hr92, hp⟩ := bnd hp
  refine FL.call rfl rfl rfl (E.call Tryz.call41 (A3 rfl rfl rfl)) (w_impl_PcBasis S88.sl a0 r67 v73 (h74.mono (sgI.tr i89)) a2 hr92) ?_
  rintro e w94 ⟨H93, v97, n98, cs99, rfl, r96, els100, nd101⟩
  refine ⟨_, rfl, ?_⟩
  have nv102 : New H87 cs99 := New.of_up S88.sl els100.dom
  obtain ⟨H103, r104, i105, ns108, nv107⟩ := r96.sealRowN (i := 0) (l' := []) rfl els100 nd101 (by decide) rfl
  have h106 := ns108.rsl
  have S95 := S88.call r104.run
  have z109 := r104.run.bel.size
  have h106 := h106.mono (sg_of S95.sl)
  have ns108 := ns108.mono (sg_of S95.sl)
  refine FL.v (E.move (v := Value.tuple #[v97, Value.bool r91.2]) rfl) ?_
  refine FL.v (E.extract (i := 0) rfl rfl) ?_
  refine FL.v (E.extract (i := 1) rfl rfl) ?_
  refine FL.v (E.assign (v := v97) rfl) ?_
  refine FL.v (E.assign (v := Value.bool r91.2) rfl) ?_
  refine FL.nil (FW.seq (FW.seq (FW.region ?_)))
  refine FL.v (E.move (v := v97) rfl) ?_
  refine FL.v (E.move (v := v54) rfl) ?_
  obtain ⟨r110, hr111, hp⟩ := bnd hp
  refine FL.call rfl rfl rfl (E.call Tryz.call42 (A2 rfl rfl)) (w_laws_eqTermSS S95.sl v97 r91.1 (h106.mono sgI) v54 r48.1 (h63.mono (sgI.tr ((r72.inc.tr i89).tr r104.run.inc))) hr111) ?_
  rintro e w112 ⟨rfl, r113⟩
  refine ⟨_, rfl, ?_⟩
  have S114 := S95.call r113
  have z115 := r113.bel.size
  refine FL.v (E.not rfl) ?_
  refine FL.v (E.move (v := Value.bool (!r110)) rfl) ?_
  refine FL.cut 4 (fun f w => ∃ H : GH, St Ha wa H w [] ∧ Inc H103 H ∧ f 0 = Value.int .i64 a0 ∧ f 2 = Value.int .i64 a2 ∧ f 4 = Value.pointer (some ⟨wa.heap.size, 0, none⟩) ∧ f 8 = v54 ∧ f 9 = Value.bool r48.2 ∧ f 10 = Value.pointer (some ⟨w70.heap.size, 0, none⟩) ∧ f 11 = v97 ∧ f 12 = Value.bool r91.2 ∧ f 48 = Value.bool (bif (!r110) then true else (!(r91.2 == r48.2)))) ?_ ?_
  ·
   rcases bcase (!r110) with c122 | c122
   ·
    refine FL.skip (wF_no rfl rfl rfl c122) rfl ?_
    refine FL.skip (wF_no rfl rfl rfl c122) rfl ?_
    refine FL.skip (wF_no rfl rfl rfl c122) rfl ?_
    refine FL.v (E.pickT rfl c122 rfl) ?_
    exact FL.nil ⟨rfl, _, S114, (Inc.rfl _), rfl, rfl, rfl, rfl, rfl, rfl, rfl, rfl, (congrArg Value.bool (bifT c122).symm)⟩
   ·
    refine FL.val (wF_yes rfl rfl rfl c122) rfl rfl (E.move (v := Value.bool r91.2) rfl) ?_
    refine FL.val (wF_yes rfl rfl rfl c122) rfl rfl (E.move (v := Value.bool r48.2) rfl) ?_
    refine FL.val (wF_yes rfl rfl rfl c122) rfl rfl (E.neqB Tryz.runUnderlying4 rfl rfl) ?_
    refine FL.v (E.pickF rfl c122 rfl) ?_
    exact FL.nil ⟨rfl, _, S114, (Inc.rfl _), rfl, rfl, rfl, rfl, rfl, rfl, rfl, rfl, (congrArg Value.bool (bifF c122).symm)⟩
  rintro f121 w120 ⟨H117, S118, i119, k123, k124, k125, k126, k127, k128, k129, k130, k131⟩
  refine FL.nil ?_
  rcases ifB hp with ⟨c132, hp⟩ | ⟨c132, hp⟩
  ·
   refine FW.condT k131 c132 ?_
   refine FW.seq (FW.region ?_)
   refine FL.v (E.assign (v := Value.bool false) rfl) ?_
   refine FL.nil ?_
   refine FW.ret ?_
   obtain rfl := Option.some.inj hp
   exact ⟨.inr rfl, res1 rfl rfl ⟨rfl, S118.back⟩⟩
  ·
   refine FW.condF k131 c132 ?_
   refine FW.skip (FW.seq (FW.seq ?_))
   obtain ⟨r116, hr136, hp⟩ := bnd hp
   obtain ⟨r147, hr148, hp⟩ := bnd hp
   refine FW.drawB (Sl H117) (fun f w => ∃ H : GH, St Ha wa H w [] ∧ Inc H117 H ∧ f 0 = Value.int .i64 a0 ∧ f 2 = Value.int .i64 a2 ∧ f 4 = Value.pointer (some ⟨wa.heap.size, 0, none⟩) ∧ f 8 = v54 ∧ f 9 = Value.bool r48.2 ∧ f 10 = Value.pointer (some ⟨w70.heap.size, 0, none⟩) ∧ f 11 = v97 ∧ f 12 = Value.bool r91.2 ∧ f 53 = Value.bool (!r147)) (by kernel_rfl) S118.sl ?_ ?_
   ·
    intro w133 r134
    have S135 := S118.call r134
    refine FB.t (i := 0) (bs 5 1) rfl (SP.nil S135.sl) rfl (fun w' hw' => (E.load k128 (run_loadA Tryz.isAgg32 Tryz.sizeOf32 ((at90.mono (sgI.tr (r104.run.inc.tr i119))).now hw') rfl))) ?_
    refine FB.t (i := 1) (bs 5 3) rfl (SP.nil S135.sl) rfl (fun w' hw' => (E.load k125 (run_loadA Tryz.isAgg24 Tryz.sizeOf24 ((at28.mono (sgI.tr (((((r41.inc.tr r61.run.inc).tr r72.inc).tr i89).tr r104.run.inc).tr i119))).now hw') rfl))) ?_
    refine FB.all1 (i := 2) (by kernel_rfl) ?_
    ·
     refine FC.call (l' := (bs 5 7)) rfl (by kernel_rfl) rfl rfl rfl (E.call Tryz.call15 (A1 rfl)) (w_laws_toCnf S135.sl a1 v1_1 (p1_1.mono ((((((i27.tr r41.inc).tr r61.run.inc).tr r72.inc).tr i89).tr r104.run.inc).tr i119)) hr136) ?_
     rintro e w138 ⟨H137, v141, rfl, r140, ⟨c144, ns143⟩⟩
     refine ⟨_, rfl, ?_⟩
     have h142 := ns143.rsl
     have nv145 : New H117 [v141] := New.of_up S135.sl h142.dom
     have S139 := S135.call r140
     have z146 := r140.bel.size
     have h142 := h142.mono (sg_of S139.sl)
     have ns143 := ns143.mono (sg_of S139.sl)
     refine ⟨(SP.nil (Sl.of_inc r140.inc S139.sl)), ?_⟩
     refine FB.all1 (i := 3) (by kernel_rfl) ?_
     ·
      refine FC.call (l' := (bs 5 15)) rfl (by kernel_rfl) rfl rfl rfl (E.call Tryz.call19 (A2 rfl rfl)) (w_laws_eqCnf S139.sl r67 v73 (h74.mono (sgI.tr (((i89.tr r104.run.inc).tr i119).tr r140.inc))) r116 v141 (h142.mono sgI) hr148) ?_
      rintro e w149 ⟨rfl, r150⟩
      refine ⟨_, rfl, ?_⟩
      have S151 := S139.call r150
      have z152 := r150.bel.size
      refine ⟨(SP.nil (Sl.of_inc r140.inc S151.sl)), ?_⟩
      refine FB.t (i := 4) (bs 5 31) rfl (SP.nil (Sl.of_inc r140.inc S151.sl)) rfl (fun w' hw' => (E.not rfl)) ?_
      exact FB.done (by kernel_rfl) ⟨_, S151, r140.inc, k123, k124, k125, k126, k127, k128, k129, k130, rfl⟩
   ·
    rintro f157 w156 ⟨H153, S154, i155, k158, k159, k160, k161, k162, k163, k164, k165, k166⟩
    rcases ifB hp with ⟨c167, hp⟩ | ⟨c167, hp⟩
    ·
     refine FW.condT k166 c167 ?_
     refine FW.seq (FW.region ?_)
     refine FL.v (E.assign (v := Value.bool false) rfl) ?_
     refine FL.nil ?_
     refine FW.ret ?_
     obtain rfl := Option.some.inj hp
     exact ⟨.inr rfl, res1 rfl rfl ⟨rfl, S154.back⟩⟩
    ·
     refine FW.condF k166 c167 ?_
     refine FW.skip (FW.seq (FW.region ?_))
     refine FL.v (E.assign (v := Value.int .i64 1) rfl) ?_
     refine FL.nil (FW.seq (FW.region ?_))
     refine FL.v (E.load k163 (run_loadA Tryz.isAgg32 Tryz.sizeOf32 ((at90.mono (sgI.tr ((r104.run.inc.tr i119).tr i155))).now S154.sl) rfl)) ?_
     refine FL.v (E.move (v := Value.int .i64 1) rfl) ?_
     refine FL.call rfl rfl rfl (E.call Tryz.call27 (A2 rfl rfl)) (w_laws_markCnf S154 hs r67 v73 c76 (ns75.mono (sg_up (by omega) (((i89.tr r104.run.inc).tr i119).tr i155))) 1) ?_
     rintro e w169 ⟨H168, c174, rfl, S170, ns176, hb175, o172⟩
     refine ⟨_, rfl, ?_⟩
     have o173 := (ns75.mono (sg_mono (hi := w70.heap.size) (((i89.tr r104.run.inc).tr i119).tr i155))).outside o172
     have ns176 := ns75.span (eL_loc eI_flat) (by omega) ns176 hb175
     have h171 := ns176.rsl
     have f177 := at28.mono ((sg_mono (lo := wa.heap.size) (hi := wa.heap.size + 1) ((((((r41.inc.tr r61.run.inc).tr r72.inc).tr i89).tr r104.run.inc).tr i119).tr i155)).tr (sg_keep o173 (by omega)))
     have f178 := h63.mono ((sg_mono (lo := w39.heap.size) (hi := w51.heap.size) ((((r72.inc.tr i89).tr r104.run.inc).tr i119).tr i155)).tr (sg_keep o173 (by omega)))
     have f179 := ns65.mono ((sg_mono (lo := w39.heap.size) (hi := w51.heap.size) ((((r72.inc.tr i89).tr r104.run.inc).tr i119).tr i155)).tr (sg_keep o173 (by omega)))
     have f180 := at90.mono ((sg_mono (lo := w70.heap.size) (hi := w70.heap.size + 1) ((r104.run.inc.tr i119).tr i155)).tr (sg_keep o173 (by omega)))
     have f181 := h106.mono ((sg_mono (lo := w83.heap.size) (hi := w94.heap.size) (i119.tr i155)).tr (sg_keep o173 (by omega)))
     have f182 := ns108.mono ((sg_mono (lo := w83.heap.size) (hi := w94.heap.size) (i119.tr i155)).tr (sg_keep o173 (by omega)))
     refine FL.v (E.assign (v := Value.int .i64 ((PF.laws_markCnf r67 1).2)) rfl) ?_
     refine FL.nil (FW.seq (FW.seq (FW.region ?_)))
     refine FL.v (E.move (v := Value.int .i64 ((PF.laws_markCnf r67 1).2)) rfl) ?_
     refine FL.v (E.lss rfl rfl) ?_
     refine FL.v (E.move (v := Value.bool (decide ((PF.laws_markCnf r67 1).2 < 0))) rfl) ?_
     obtain ⟨t183, hqt183, hp⟩ := bnd hp
     refine FL.cut 5 (fun f w => ∃ H : GH, St Ha wa H w [] ∧ Inc H168 H ∧ f 0 = Value.int .i64 a0 ∧ f 2 = Value.int .i64 a2 ∧ f 4 = Value.pointer (some ⟨wa.heap.size, 0, none⟩) ∧ f 8 = v54 ∧ f 9 = Value.bool r48.2 ∧ f 11 = v97 ∧ f 12 = Value.bool r91.2 ∧ f 64 = Value.bool t183) ?_ ?_
     ·
      clear hp; have hp := hqt183; clear hqt183
      rcases ifB hp with ⟨c189, hp⟩ | ⟨c189, hp⟩
      ·
       refine FL.skip (wF_no rfl rfl rfl c189) rfl ?_
       refine FL.skip (wF_no rfl rfl rfl c189) rfl ?_
       refine FL.skip (wF_no rfl rfl rfl c189) rfl ?_
       refine FL.skip (wF_no rfl rfl rfl c189) rfl ?_
       obtain rfl := Option.some.inj hp
       refine FL.v (E.pickT rfl c189 rfl) ?_
       exact FL.nil ⟨rfl, _, S170, (Inc.rfl _), k158, k159, k160, k161, k162, k164, k165, rfl⟩
      ·
       refine FL.val (wF_yes rfl rfl rfl c189) rfl rfl (E.move k164) ?_
       refine FL.val (wF_yes rfl rfl rfl c189) rfl rfl (E.move k161) ?_
       obtain ⟨r190, hr191, hp⟩ := bnd hp
       refine FL.call (wF_yes rfl rfl rfl c189) rfl rfl (E.call Tryz.call42 (A2 rfl rfl)) (w_laws_eqTermSS S170.sl v97 r91.1 (f181.mono sgI) v54 r48.1 (f178.mono sgI) hr191) ?_
       rintro e w192 ⟨rfl, r193⟩
       refine ⟨_, rfl, ?_⟩
       have S194 := S170.call r193
       have z195 := r193.bel.size
       refine FL.val (wF_yes rfl rfl rfl c189) rfl rfl (E.not rfl) ?_
       obtain rfl := Option.some.inj hp
       refine FL.v (E.pickF rfl c189 rfl) ?_
       exact FL.nil ⟨rfl, _, S194, (Inc.rfl _), k158, k159, k160, k161, k162, k164, k165, rfl⟩
     rintro f188 w187 ⟨H184, S185, i186, k196, k197, k198, k199, k200, k201, k202, k203⟩
     refine FL.v (E.move k203) ?_
     refine FL.cut 4 (fun f w => ∃ H : GH, St Ha wa H w [] ∧ Inc H184 H ∧ f 0 = Value.int .i64 a0 ∧ f 2 = Value.int .i64 a2 ∧ f 4 = Value.pointer (some ⟨wa.heap.size, 0, none⟩) ∧ f 8 = v54 ∧ f 9 = Value.bool r48.2 ∧ f 11 = v97 ∧ f 69 = Value.bool (bif t183 then true else (!(r91.2 == r48.2)))) ?_ ?_
     ·
      rcases bcase t183 with c209 | c209
      ·
       refine FL.skip (wF_no rfl rfl rfl c209) rfl ?_
       refine FL.skip (wF_no rfl rfl rfl c209) rfl ?_
       refine FL.skip (wF_no rfl rfl rfl c209) rfl ?_
       refine FL.v (E.pickT rfl c209 rfl) ?_
       exact FL.nil ⟨rfl, _, S185, (Inc.rfl _), k196, k197, k198, k199, k200, k201, (congrArg Value.bool (bifT c209).symm)⟩
      ·
       refine FL.val (wF_yes rfl rfl rfl c209) rfl rfl (E.move k202) ?_
       refine FL.val (wF_yes rfl rfl rfl c209) rfl rfl (E.move k200) ?_
       refine FL.val (wF_yes rfl rfl rfl c209) rfl rfl (E.neqB Tryz.runUnderlying4 rfl rfl) ?_
       refine FL.v (E.pickF rfl c209 rfl) ?_
       exact FL.nil ⟨rfl, _, S185, (Inc.rfl _), k196, k197, k198, k199, k200, k201, (congrArg Value.bool (bifF c209).symm)⟩
     rintro f208 w207 ⟨H204, S205, i206, k210, k211, k212, k213, k214, k215, k216⟩
     refine FL.nil ?_
     rcases ifB hp with ⟨c217, hp⟩ | ⟨c217, hp⟩
     ·
      refine FW.condT k216 c217 ?_
      refine FW.seq (FW.region ?_)
      refine FL.v (E.assign (v := Value.bool false) rfl) ?_
      refine FL.nil ?_
      refine FW.ret ?_
      obtain rfl := Option.some.inj hp
      exact ⟨.inr rfl, res1 rfl rfl ⟨rfl, S205.back⟩⟩
     ·
      refine FW.condF k216 c217 ?_
      refine FW.skip (FW.seq (FW.region ?_))
      refine FL.v (E.assign (v := Value.int .i64 1) rfl) ?_
      refine FL.nil (FW.seq (FW.region ?_))
      refine FL.v (E.move k215) ?_
      refine FL.v (E.move (v := Value.int .i64 1) rfl) ?_
      refine FL.call rfl rfl rfl (E.call Tryz.call43 (A2 rfl rfl)) (w_laws_markTermSS S205 hs v97 r91.1 cs99 (f182.mono (sg_up (by omega) (i186.tr i206))) 1) ?_
      rintro e w219 ⟨H218, c224, rfl, S220, ns226, hb225, o222⟩
      refine ⟨_, rfl, ?_⟩
      have o223 := (f182.mono (sg_mono (hi := w94.heap.size) (i186.tr i206))).outside o222
      have ns226 := f182.span (eL_loc eTerm_flat) (by omega) ns226 hb225
      have h221 := ns226.rsl
      have f227 := f177.mono ((sg_mono (lo := wa.heap.size) (hi := wa.heap.size + 1) (i186.tr i206)).tr (sg_keep o223 (by omega)))
      have f228 := f178.mono ((sg_mono (lo := w39.heap.size) (hi := w51.heap.size) (i186.tr i206)).tr (sg_keep o223 (by omega)))
      have f229 := f179.mono ((sg_mono (lo := w39.heap.size) (hi := w51.heap.size) (i186.tr i206)).tr (sg_keep o223 (by omega)))
      refine FL.v (E.assign (v := Value.int .i64 ((PF.laws_markTermSS r91.1 1).2)) rfl) ?_
      refine FL.nil (FW.seq (FW.region ?_))
      refine FL.v (E.assign (v := Value.int .i64 1) rfl) ?_
      refine FL.nil (FW.seq (FW.region ?_))
      refine FL.v (E.move k215) ?_
      refine FL.v (E.move (v := Value.int .i64 1) rfl) ?_
      obtain ⟨r230, hr231, hp⟩ := bnd hp
      refine FL.call rfl rfl rfl (E.call Tryz.call44 (A2 rfl rfl)) (w_laws_heldTermSS S220.sl v97 ((PF.laws_markTermSS r91.1 1).1) (h221.mono sgI) 1 hr231) ?_
      rintro e w232 ⟨rfl, r233⟩
      refine ⟨_, rfl, ?_⟩
      have S234 := S220.call r233
      have z235 := r233.bel.size
      refine FL.v (E.assign (v := Value.int .i64 r230) rfl) ?_
      refine FL.nil (FW.seq (FW.seq (FW.region ?_)))
      refine FL.v (E.move (v := Value.int .i64 r230) rfl) ?_
      refine FL.v (E.lss rfl rfl) ?_
      refine FL.nil ?_
      rcases ifB hp with ⟨c236, hp⟩ | ⟨c236, hp⟩
      ·
       refine FW.condT rfl c236 ?_
       refine FW.seq (FW.region ?_)
       refine FL.v (E.assign (v := Value.bool false) rfl) ?_
       refine FL.nil ?_
       refine FW.ret ?_
       obtain rfl := Option.some.inj hp
       exact ⟨.inr rfl, res1 rfl rfl ⟨rfl, S234.back⟩⟩
      ·
       refine FW.condF rfl c236 ?_
       refine FW.skip (FW.seq (FW.seq (FW.region ?_)))
       refine FL.v (E.move (v := Value.int .i64 r230) rfl) ?_
       refine FL.v (E.move (v := Value.int .i64 ((PF.laws_markTermSS r91.1 1).2)) rfl) ?_
       refine FL.v (E.neq rfl rfl) ?_
       refine FL.nil ?_
       rcases ifB hp with ⟨c237, hp⟩ | ⟨c237, hp⟩
       ·
        refine FW.condT rfl c237 ?_
        refine FW.seq (FW.region ?_)
        refine FL.v (E.assign (v := Value.bool false) rfl) ?_
        refine FL.nil ?_
        refine FW.ret ?_
        obtain rfl := Option.some.inj hp
        exact ⟨.inr rfl, res1 rfl rfl ⟨rfl, S234.back⟩⟩
       ·
        refine FW.condF rfl c237 ?_
        refine FW.skip (FW.seq (FW.region ?_))
        refine FL.v (E.move k210) ?_
        refine FL.v (E.load k212 (run_loadA Tryz.isAgg24 Tryz.sizeOf24 ((f227.mono sgI).now S234.sl) rfl)) ?_
        obtain ⟨r238, hr239, hp⟩ := bnd hp
        refine FL.call rfl rfl rfl (E.call Tryz.call15 (A1 rfl)) (w_laws_toCnf S234.sl a1 v1_1 (p1_1.mono S220.inc) hr239) ?_
        rintro e w241 ⟨H240, v244, rfl, r243, ⟨c247, ns246⟩⟩
        refine ⟨_, rfl, ?_⟩
        have h245 := ns246.rsl
        have nv248 : New H218 [v244] := New.of_up S234.sl h245.dom
        have S242 := S234.call r243
        have z249 := r243.bel.size
        have h245 := h245.mono (sg_of S242.sl)
        have ns246 := ns246.mono (sg_of S242.sl)
        refine FL.v (E.move k211) ?_
        obtain ⟨r250, hr251, hp⟩ := bnd hp
        refine FL.call rfl rfl rfl (E.call Tryz.call41 (A3 rfl rfl rfl)) (w_impl_PcBasis S242.sl a0 r238 v244 (h245.mono sgI) a2 hr251) ?_
        rintro e w253 ⟨H252, v256, n257, cs258, rfl, r255, els259, nd260⟩
        refine ⟨_, rfl, ?_⟩
        have nv261 : New H240 cs258 := New.of_up S242.sl els259.dom
        obtain ⟨H262, r263, i264, ns267, nv266⟩ := r255.sealRowN (i := 0) (l' := []) rfl els259 nd260 (by decide) rfl
        have h265 := ns267.rsl
        have S254 := S242.call r263.run
        have z268 := r263.run.bel.size
        have h265 := h265.mono (sg_of S254.sl)
        have ns267 := ns267.mono (sg_of S254.sl)
        refine FL.v (E.move (v := Value.tuple #[v256, Value.bool r250.2]) rfl) ?_
        refine FL.v (E.extract (i := 0) rfl rfl) ?_
        refine FL.v (E.extract (i := 1) rfl rfl) ?_
        refine FL.v (E.assign (v := v256) rfl) ?_
        refine FL.v (E.assign (v := Value.bool r250.2) rfl) ?_
        refine FL.nil (FW.seq (FW.seq (FW.region ?_)))
        refine FL.v (E.move (v := v256) rfl) ?_
        refine FL.v (E.move k213) ?_
        obtain ⟨r269, hr270, hp⟩ := bnd hp
        refine FL.call rfl rfl rfl (E.call Tryz.call42 (A2 rfl rfl)) (w_laws_eqTermSS S254.sl v256 r250.1 (h265.mono sgI) v54 r48.1 (f228.mono (sgI.tr (r243.inc.tr r263.run.inc))) hr270) ?_
        rintro e w271 ⟨rfl, r272⟩
        refine ⟨_, rfl, ?_⟩
        have S273 := S254.call r272
        have z274 := r272.bel.size
        refine FL.v (E.not rfl) ?_
        refine FL.v (E.move (v := Value.bool (!r269)) rfl) ?_
        refine FL.cut 4 (fun f w => ∃ H : GH, St Ha wa H w [] ∧ Inc H262 H ∧ f 11 = v97 ∧ f 14 = Value.int .i64 ((PF.laws_markTermSS r91.1 1).2) ∧ f 97 = Value.bool (bif (!r269) then true else (!(r250.2 == r48.2)))) ?_ ?_
        ·
         rcases bcase (!r269) with c280 | c280
         ·
          refine FL.skip (wF_no rfl rfl rfl c280) rfl ?_
          refine FL.skip (wF_no rfl rfl rfl c280) rfl ?_
          refine FL.skip (wF_no rfl rfl rfl c280) rfl ?_
          refine FL.v (E.pickT rfl c280 rfl) ?_
          exact FL.nil ⟨rfl, _, S273, (Inc.rfl _), k215, rfl, (congrArg Value.bool (bifT c280).symm)⟩
         ·
          refine FL.val (wF_yes rfl rfl rfl c280) rfl rfl (E.move (v := Value.bool r250.2) rfl) ?_
          refine FL.val (wF_yes rfl rfl rfl c280) rfl rfl (E.move k214) ?_
          refine FL.val (wF_yes rfl rfl rfl c280) rfl rfl (E.neqB Tryz.runUnderlying4 rfl rfl) ?_
          refine FL.v (E.pickF rfl c280 rfl) ?_
          exact FL.nil ⟨rfl, _, S273, (Inc.rfl _), k215, rfl, (congrArg Value.bool (bifF c280).symm)⟩
        rintro f279 w278 ⟨H275, S276, i277, k281, k282, k283⟩
        refine FL.nil ?_
        rcases ifB hp with ⟨c284, hp⟩ | ⟨c284, hp⟩
        ·
         refine FW.condT k283 c284 ?_
         refine FW.seq (FW.region ?_)
         refine FL.v (E.assign (v := Value.bool false) rfl) ?_
         refine FL.nil ?_
         refine FW.ret ?_
         obtain rfl := Option.some.inj hp
         exact ⟨.inr rfl, res1 rfl rfl ⟨rfl, S276.back⟩⟩
        ·
         refine FW.condF k283 c284 ?_
         refine FW.skip (FW.seq (FW.region ?_))
         refine FL.v (E.assign (v := Value.int .i64 1) rfl) ?_
         refine FL.nil (FW.seq (FW.region ?_))
         refine FL.v (E.move k281) ?_
         refine FL.v (E.move (v := Value.int .i64 1) rfl) ?_
         obtain ⟨r285, hr286, hp⟩ := bnd hp
         refine FL.call rfl rfl rfl (E.call Tryz.call44 (A2 rfl rfl)) (w_laws_heldTermSS S276.sl v97 ((PF.laws_markTermSS r91.1 1).1) (h221.mono (sgI.tr ((r243.inc.tr r263.run.inc).tr i277))) 1 hr286) ?_
         rintro e w287 ⟨rfl, r288⟩
         refine ⟨_, rfl, ?_⟩
         have S289 := S276.call r288
         have z290 := r288.bel.size
         refine FL.v (E.assign (v := Value.int .i64 r285) rfl) ?_
         refine FL.nil (FW.seq (FW.seq (FW.region ?_)))
         refine FL.v (E.move (v := Value.int .i64 r285) rfl) ?_
         refine FL.v (E.lss rfl rfl) ?_
         refine FL.nil ?_
         rcases ifB hp with ⟨c291, hp⟩ | ⟨c291, hp⟩
         ·
          refine FW.condT rfl c291 ?_
          refine FW.seq (FW.region ?_)
          refine FL.v (E.assign (v := Value.bool false) rfl) ?_
          refine FL.nil ?_
          refine FW.ret ?_
          obtain rfl := Option.some.inj hp
          exact ⟨.inr rfl, res1 rfl rfl ⟨rfl, S289.back⟩⟩
         ·
          refine FW.condF rfl c291 ?_
          refine FW.skip (FW.seq (FW.seq (FW.region ?_)))
          refine FL.v (E.move (v := Value.int .i64 r285) rfl) ?_
          refine FL.v (E.move k282) ?_
          refine FL.v (E.neq rfl rfl) ?_
          refine FL.nil ?_
          rcases ifB hp with ⟨c292, hp⟩ | ⟨c292, hp⟩
          ·
           refine FW.condT rfl c292 ?_
           refine FW.seq (FW.region ?_)
           refine FL.v (E.assign (v := Value.bool false) rfl) ?_
           refine FL.nil ?_
           refine FW.ret ?_
           obtain rfl := Option.some.inj hp
           exact ⟨.inr rfl, res1 rfl rfl ⟨rfl, S289.back⟩⟩
          ·
           refine FW.condF rfl c292 ?_
           refine FW.skip (FW.seq (FW.region ?_))
           refine FL.v (E.assign (v := Value.bool true) rfl) ?_
           refine FL.nil ?_
           refine FW.ret ?_
           obtain rfl := Option.some.inj hp
           exact ⟨.inr rfl, res1 rfl rfl ⟨rfl, S289.back⟩⟩

end Go.Proofs
