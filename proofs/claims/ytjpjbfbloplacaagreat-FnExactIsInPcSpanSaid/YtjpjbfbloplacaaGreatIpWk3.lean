/- Part of the walks and plain laws behind the claim: it proves helpers, under no condition beyond their own. -/
import Derived.Test.YtjpjbfbloplacaaGreatIpWk2
set_option linter.unusedVariables false
set_option maxRecDepth 100000
namespace Go.Proofs
open Go.Mr Go.Pu Go.PF Go.RowKit

@[reducible] def p_slices_SortFunc_impl_dense_impl_dense (H0 : GH) (w0 : World) (Ha : GH) (L : List MO) (v0 : Value) (n0 : Nat) (r : (List (List Int))) : Ending → World → Prop :=
 fun e w' => ∃ H' : GH, ∃ c0k : List Value, e = .returned (Value.tuple #[]) ∧ (St H0 w0 H' w' (.row 99 1 v0 n0 c0k :: L) ∧ Inc Ha H') ∧ Els H' (eL eI 1) 1 c0k r
theorem w_slices_SortFunc_impl_dense_impl_dense {H0 Ha : GH} {w0 wa : World} {L : List MO} {v0 : Value} {n0 : Nat} {k0 : List Value} (S0 : St H0 w0 Ha wa (.row 99 1 v0 n0 k0 :: L)) (a0 : List (List Int)) (p0 : Els Ha (eL eI 1) 1 k0 a0) (v1 : Value) (a1 : (List Int) → (List Int) → Option Int) (p1 : Fn_List_Int_List_Int_to_I Tryz.prog Ha v1 a1) {r : (List (List Int))} (hp : (PF.slices_SortFunc_impl_dense_impl_dense a0 a1) = some r) :
  Calls Tryz.prog 210 #[v0, v1] wa (p_slices_SortFunc_impl_dense_impl_dense H0 w0 Ha L v0 n0 r) := by
 refine (St.sortF (l := .row 99 1 v0 n0 k0 :: L) (i := 0) (Inc.rfl _) S0 rfl p0 (fun H2 w2 hi hs2 c x hc d y hd r hr => by obtain ⟨y0, e0, z0⟩ := eL_open hc; cases e0; obtain ⟨y1, e1, z1⟩ := eL_open hd; cases e1; exact p1 H2 w2 hi hs2 x c z0 y d z1 r hr) (fun p cap fv w => AnyF.slices_SortFunc_none (P := Tryz.prog) (ρ := Tryz.sort210_ren) { Tryz.sort210 with } p cap fv w) (fun α _ enc h1 cf hO g cb blk off cap d w eg hc hH hb hs => Any.slices_SortFunc Tryz.sort210 enc h1 cf hO g cb blk off cap d w eg hc hH hb hs) hp).mono ?_
 rintro e w' ⟨rfl, c', h1, h2⟩
 exact ⟨_, _, rfl, ⟨h1, Inc.rfl _⟩, h2⟩

theorem w_impl_algebra_span_2 {Ha : GH} {wa : World} (hs : Sl Ha wa) (v0 : Value) (a0 : List Int) (p0 : RSl Ha eI 1 v0 a0) (v1 : Value) (a1 : List Int) (p1 : RSl Ha eI 1 v1 a1) {r : Int} (hp : (PF.impl_algebra_span_2 a0 a1) = some r) :
  Calls Tryz.prog 211 #[v0, v1] wa (Sc Ha wa (Value.int .i64 r)) := by
 unfold PF.impl_algebra_span_2 at hp
 have S0 := St.init hs
 refine calls_go (N := 10) (args := [v0, v1]) Tryz.func211 rfl rfl rfl ?_
 refine FW.seq (FW.region ?_)
 refine FL.v (E.assign (v := Value.int .i64 0) rfl) ?_
 refine FL.nil (FW.seq (FW.region ?_))
 refine FL.v (E.move (v := v0) rfl) ?_
 obtain ⟨r21, hr22, hp⟩ := bnd hp
 refine FL.call rfl rfl rfl (E.call Tryz.call163 (A1 rfl)) (w_impl_leading S0.sl v0 a0 p0 hr22) ?_
 rintro e w23 ⟨rfl, r24⟩
 refine ⟨_, rfl, ?_⟩
 have S25 := S0.call r24
 refine FL.v (E.move (v := v1) rfl) ?_
 obtain ⟨r26, hr27, hp⟩ := bnd hp
 refine FL.call rfl rfl rfl (E.call Tryz.call163 (A1 rfl)) (w_impl_leading S25.sl v1 a1 p1 hr27) ?_
 rintro e w28 ⟨rfl, r29⟩
 refine ⟨_, rfl, ?_⟩
 have S30 := S25.call r29
 obtain ⟨r31, hr32, hp⟩ := bnd hp
 refine FL.call rfl rfl rfl (E.call Tryz.call212 (A2 rfl rfl)) (w_impl_compareMonos S30.sl r21 r26 hr32) ?_
 rintro e w33 ⟨rfl, r34⟩
 refine ⟨_, rfl, ?_⟩
 have S35 := S30.call r34
 refine FL.v (E.assign (v := Value.int .i64 r31) rfl) ?_
 refine FL.nil ?_
 refine FW.ret ?_
 obtain rfl := Option.some.inj hp
 exact ⟨.inr rfl, res1 rfl rfl ⟨rfl, S35.back⟩⟩

@[reducible] def p_impl_algebra_span (Ha : GH) (wa : World) (r : (Option echelon)) : Ending → World → Prop :=
  fun e w' => ∃ H' : GH, ∃ v0 : Value, e = .returned (v0) ∧ Run wa.heap.size Ha wa H' w' ∧ OP (fun (q : Addr) (x : echelon) => ∃ v0R_2 : Value, ∃ v0R_3 : Value, RSl H' (eL eI 1) 1 v0R_2 x.rows ∧ RSl (up wa.heap.size H') (eL eI 1) 1 v0R_3 x.made ∧ CAt H' q [Value.int .i64 x.ring.p, Value.int .i64 x.ring.vars, v0R_2, v0R_3, Value.int .i64 x.many]) v0 r
set_option maxHeartbeats 4000000 in
theorem w_impl_algebra_span {Ha : GH} {wa : World} (hs : Sl Ha wa) (q0P : Addr) (a0 : algebra) (v0P_3 : Value) (v0P_4 : Value) (p0P_3 : RSl Ha (eL eI 1) 1 v0P_3 a0.f.clauses) (p0P_4 : RSl Ha (eL eI 1) 1 v0P_4 a0.q) (c0P : CAt Ha q0P [Value.int .i64 a0.ring.p, Value.int .i64 a0.ring.vars, Value.int .i64 a0.f.vars, v0P_3, v0P_4]) (a1 : Int) {r : (Option echelon)} (hp : (PF.impl_algebra_span a0 a1) = some r) :
    Calls Tryz.prog 160 #[Value.pointer (some q0P), Value.int .i64 a1] wa (p_impl_algebra_span Ha wa r) := by
  unfold PF.impl_algebra_span at hp
  have S0 := St.init hs
  refine calls_go (N := 66) (args := [Value.pointer (some q0P), Value.int .i64 a1]) Tryz.func160 rfl rfl rfl ?_
  refine FW.seq (FW.region ?_)
  refine FL.v (E.assign (v := Value.pointer none) rfl) ?_
  refine FL.nil (FW.seq (FW.region ?_))
  refine FL.v (E.move (v := Value.pointer (some q0P)) rfl) ?_
  refine FL.v (E.nilCheck rfl) ?_
  refine FL.v (E.fieldAddr tf105_0 rfl) ?_
  refine FL.v (E.load rfl (run_loadA Tryz.isAgg102 Tryz.sizeOf102 ((c0P.now S0.sl).sub (j := 0) (n := 2) (c := [Value.int .i64 a0.ring.p, Value.int .i64 a0.ring.vars]) rfl) rfl)) ?_
  refine FL.v (E.build (B1 rfl) (run_build _ 148 #[(0, Value.agg #[Value.int .i64 a0.ring.p, Value.int .i64 a0.ring.vars])] #[Value.int .i64 a0.ring.p, Value.int .i64 a0.ring.vars, Value.slice none 0 0, Value.slice none 0 0, Value.int .i64 0] (by rfl))) ?_
  have S25 := S0.nil 99 1
  have els26 : Els (up wa.heap.size Ha) (eL eI 1) 1 [] [] := Els.nil
  have S27 := S25.nil 99 1
  have els28 : Els (up wa.heap.size Ha) (eL eI 1) 1 [] [] := Els.nil
  obtain ⟨b21, w22, run23, S24⟩ := S27.box (P := Tryz.prog) 148 [Value.int .i64 a0.ring.p, Value.int .i64 a0.ring.vars, (Value.slice none 0 0), (Value.slice none 0 0), Value.int .i64 0] (v := Value.agg #[Value.int .i64 a0.ring.p, Value.int .i64 a0.ring.vars, Value.slice none 0 0, Value.slice none 0 0, Value.int .i64 0]) rfl (ones_cons rfl (ones_cons rfl (ones_cons (Ln.one (S27.row_ln (i := 1) rfl)) (ones_cons (Ln.one (S27.row_ln (i := 0) rfl)) (ones_cons rfl ones_nil)))))
  refine FL.v (E.box rfl run23) ?_
  obtain ⟨b29, w30, run31, S32⟩ := S24.alloc (P := Tryz.prog) 138 [(Value.pointer none)] Tryz.zeroValue138 rfl (ones_cons rfl ones_nil)
  refine FL.v (E.alloc run31) ?_
  obtain ⟨w33, run34, S35⟩ := S32.store0 (P := Tryz.prog) (t := 138) (i := 0) (cs' := [Value.pointer (some (⟨b21, 0, none⟩ : Addr))]) (l' := [.box b29 138 [Value.pointer (some (⟨b21, 0, none⟩ : Addr))], .box b21 148 [Value.int .i64 a0.ring.p, Value.int .i64 a0.ring.vars, (Value.slice none 0 0), (Value.slice none 0 0), Value.int .i64 0], .row 99 1 (Value.slice none 0 0) 0 [], .row 99 1 (Value.slice none 0 0) 0 []]) (v := Value.pointer (some (⟨b21, 0, none⟩ : Addr))) (c := [Value.pointer (some (⟨b21, 0, none⟩ : Addr))]) rfl Tryz.sizeOf138 rfl rfl (ones_cons rfl ones_nil) (Nat.le_of_ble_eq_true rfl) rfl rfl
  refine FL.act rfl rfl (E.store rfl rfl run34) ?_
  obtain ⟨H36, S37, i38, at39⟩ := S35.sealBox (i := 0) (l' := [.box b21 148 [Value.int .i64 a0.ring.p, Value.int .i64 a0.ring.vars, (Value.slice none 0 0), (Value.slice none 0 0), Value.int .i64 0], .row 99 1 (Value.slice none 0 0) 0 [], .row 99 1 (Value.slice none 0 0) 0 []]) rfl rfl
  refine FL.nil (FW.seq (FW.seq (FW.region ?_)))
  refine FL.v (E.move (v := Value.pointer (some q0P)) rfl) ?_
  refine FL.v (E.nilCheck rfl) ?_
  refine FL.v (E.fieldAddr tf105_1 rfl) ?_
  refine FL.v (E.fieldAddrN tf32_1 rfl rfl) ?_
  refine FL.v (E.load rfl (run_load1 Tryz.isAgg22 ((c0P.mono i38).now S37.sl) rfl)) ?_
  refine FL.v (E.lenP te22 rfl p0P_3) ?_
  refine FL.v (E.move (v := Value.int .i64 0) rfl) ?_
  refine FL.nil ?_
  obtain ⟨q41, hq, hp⟩ := bndR hp
  refine FW.block ?_
  refine FW.mono (FW.forL (S := ((List (List Int)) × (List (List Int)) × Int × Int × Int)) (X := Empty) (fun (i41 : Nat) (s41 : ((List (List Int)) × (List (List Int)) × Int × Int × Int)) f w => ∃ H : GH, ∃ v42 : Value, ∃ n43 : Nat, ∃ cs44 : List Value, ∃ v46 : Value, ∃ n47 : Nat, ∃ cs48 : List Value, St Ha wa H w [.box b21 148 [Value.int .i64 s41.2.2.1, Value.int .i64 s41.2.2.2.1, v46, v42, Value.int .i64 s41.2.2.2.2], .row 99 1 v42 n43 cs44, .row 99 1 v46 n47 cs48] ∧ Inc H36 H ∧ Els (up wa.heap.size H) (eL eI 1) 1 cs44 s41.1 ∧ Els (up wa.heap.size H) (eL eI 1) 1 cs48 s41.2.1 ∧ (bl cs48).Nodup ∧ f 21 = Value.int .i64 ((i41 : Nat) : Int) ∧ f 0 = Value.pointer (some q0P) ∧ f 1 = Value.int .i64 a1 ∧ f 5 = Value.pointer (some ⟨b29, 0, none⟩) ∧ f 19 = v0P_3 ∧ f 20 = Value.int .i64 (len a0.f.clauses)) (fun (q : Rs ((List (List Int)) × (List (List Int)) × Int × Int × Int) Empty) e f w => match q with | .go s41 => e = Exit.exit 0 ∧ (∃ H : GH, ∃ v42 : Value, ∃ n43 : Nat, ∃ cs44 : List Value, ∃ v46 : Value, ∃ n47 : Nat, ∃ cs48 : List Value, St Ha wa H w [.box b21 148 [Value.int .i64 s41.2.2.1, Value.int .i64 s41.2.2.2.1, v46, v42, Value.int .i64 s41.2.2.2.2], .row 99 1 v42 n43 cs44, .row 99 1 v46 n47 cs48] ∧ Inc H36 H ∧ Els (up wa.heap.size H) (eL eI 1) 1 cs44 s41.1 ∧ Els (up wa.heap.size H) (eL eI 1) 1 cs48 s41.2.1 ∧ (bl cs48).Nodup ∧ f 0 = Value.pointer (some q0P) ∧ f 1 = Value.int .i64 a1 ∧ f 5 = Value.pointer (some ⟨b29, 0, none⟩)) | .rt x => x.elim) hq ⟨_, _, _, _, _, _, _, S37, (Inc.rfl _), (els28.mono (up_mono i38)), (els26.mono (up_mono i38)), (show (bl []).Nodup from List.nodup_nil), rfl, rfl, rfl, rfl, rfl, rfl⟩ ?_ ?_) ?_
  ·
    clear hp hq
    rintro i41 y40 s41 f55 w54 ⟨H51, v42, n43, cs44, v46, n47, cs48, S52, i53, els45, els49, nd50, k56, k57, k58, k59, k60, k61⟩ hx41 o126 hp
    refine FW.seq (FW.region ?_)
    refine FL.v (E.lssT k56 k61 (lss_len hx41)) ?_
    refine FL.nil (FW.seq ?_)
    refine FW.condT rfl rfl ?_
    refine FW.skip (FW.seq (FW.block (FW.seq (FW.region ?_))))
    refine FL.v (E.move k56) ?_
    obtain ⟨p62, cs63, pt64, l65, at66, rel67⟩ := p0P_3.at (ix_nat hx41)
    obtain ⟨v68, rfl, h69⟩ := eL_open rel67
    refine FL.v (E.indexAddr te22 k60 k56 pt64) ?_
    refine FL.v (E.load rfl (run_load0 Tryz.isAgg73 ((at66.mono (i38.tr i53)).now S52.sl) rfl)) ?_
    refine FL.v (E.assign (v := Value.int .i64 ((i41 : Nat) : Int)) rfl) ?_
    refine FL.v (E.assign (v := v68) rfl) ?_
    refine FL.nil (FW.seq (FW.region ?_))
    refine FL.v (E.move (v := v68) rfl) ?_
    refine FL.v (E.lenP te73 rfl h69) ?_
    refine FL.v (E.move k58) ?_
    refine FL.v (E.leq rfl rfl) ?_
    refine FL.nil ?_
    rcases ifB hp with ⟨c70, hp⟩ | ⟨c70, hp⟩
    ·
      refine FW.condT rfl c70 ?_
      obtain ⟨x81, hx82, hp⟩ := bnd hp
      obtain ⟨r85, hr86, hp⟩ := bnd hp
      refine FW.drawB (Sl H51) (fun f w => ∃ H : GH, ∃ v106 : Value, ∃ n107 : Nat, ∃ cs108 : List Value, ∃ v110 : Value, ∃ n111 : Nat, ∃ cs112 : List Value, St Ha wa H w [.box b21 148 [Value.int .i64 r85.2.ring.p, Value.int .i64 r85.2.ring.vars, v110, v106, Value.int .i64 r85.2.many], .row 99 1 v106 n107 cs108, .row 99 1 v110 n111 cs112] ∧ Inc H51 H ∧ Els (up wa.heap.size H) (eL eI 1) 1 cs108 r85.2.made ∧ Els (up wa.heap.size H) (eL eI 1) 1 cs112 r85.2.rows ∧ (bl cs112).Nodup ∧ f 0 = Value.pointer (some q0P) ∧ f 1 = Value.int .i64 a1 ∧ f 5 = Value.pointer (some ⟨b29, 0, none⟩) ∧ f 19 = v0P_3 ∧ f 20 = Value.int .i64 (len a0.f.clauses) ∧ f 21 = Value.int .i64 ((i41 : Nat) : Int)) (by kernel_rfl) S52.sl ?_ ?_
      ·
        intro w71 r72
        have S74 := S52.call r72
        refine FB.t (i := 0) (bs 9 1) rfl (SP.nil S74.sl) rfl (fun w' hw' => (E.load k59 (run_load0 Tryz.isAgg138 ((at39.mono i53).now hw') rfl))) ?_
        refine FB.t (i := 1) (bs 9 3) rfl (SP.nil S74.sl) rfl (fun w' hw' => (E.move k57)) ?_
        refine FB.t (i := 2) (bs 9 7) rfl (SP.nil S74.sl) rfl (fun w' hw' => (E.nilCheck rfl)) ?_
        refine FB.t (i := 3) (bs 9 15) rfl (SP.nil S74.sl) rfl (fun w' hw' => (E.fieldAddr tf105_2 rfl)) ?_
        refine FB.t (i := 4) (bs 9 31) rfl (SP.nil S74.sl) rfl (fun w' hw' => (E.load rfl (run_load1 Tryz.isAgg103 ((c0P.mono (i38.tr i53)).now hw') rfl))) ?_
        refine FB.t (i := 5) (bs 9 63) rfl (SP.nil S74.sl) rfl (fun w' hw' => (E.move (v := Value.int .i64 ((i41 : Nat) : Int)) rfl)) ?_
        obtain ⟨p75, cs76, pt77, l78, at79, rel80⟩ := p0P_4.at hx82
        obtain ⟨v83, rfl, h84⟩ := eL_open rel80
        refine FB.t (i := 6) (bs 9 127) rfl (SP.nil S74.sl) rfl (fun w' hw' => (E.indexAddr te103 rfl rfl pt77)) ?_
        refine FB.t (i := 7) (bs 9 255) rfl (SP.nil S74.sl) rfl (fun w' hw' => (E.load rfl (run_load0 Tryz.isAgg99 ((at79.mono (i38.tr i53)).now hw') rfl))) ?_
        refine FB.all1 (i := 8) (by kernel_rfl) ?_
        ·
          have S87 : St Ha wa H51 w71 [.row 99 1 v42 n43 cs44, .box b21 148 [Value.int .i64 s41.2.2.1, Value.int .i64 s41.2.2.2.1, v46, v42, Value.int .i64 s41.2.2.2.2], .row 99 1 v46 n47 cs48] := S74.front 1 rfl rfl
          have S88 : St Ha wa H51 w71 [.row 99 1 v46 n47 cs48, .row 99 1 v42 n43 cs44, .box b21 148 [Value.int .i64 s41.2.2.1, Value.int .i64 s41.2.2.2.1, v46, v42, Value.int .i64 s41.2.2.2.2]] := S87.front 2 rfl rfl
          have S89 : St Ha wa H51 w71 [.box b21 148 [Value.int .i64 s41.2.2.1, Value.int .i64 s41.2.2.2.1, v46, v42, Value.int .i64 s41.2.2.2.2], .row 99 1 v46 n47 cs48, .row 99 1 v42 n43 cs44] := S88.front 2 rfl rfl
          refine FC.call (l' := (bs 9 511)) rfl (by kernel_rfl) rfl rfl rfl (E.call Tryz.call206 (A2 rfl rfl)) (w_impl_echelon_add (L := []) S89 (a0 := (echelon.mk (ring.mk s41.2.2.1 s41.2.2.2.1) s41.2.1 s41.1 s41.2.2.2.2)) els49 nd50 els45 v83 x81 (h84.mono (i38.tr i53)) hr86) ?_
          rintro e w91 ⟨H90, v94, n95, cs96, v99, n100, cs101, rfl, ⟨S92, i93⟩, els97, nd98, els104⟩
          refine ⟨_, rfl, ?_⟩
          have S92 : St Ha wa H90 w91 [.box b21 148 [Value.int .i64 r85.2.ring.p, Value.int .i64 r85.2.ring.vars, v94, v99, Value.int .i64 r85.2.many], .row 99 1 v94 n95 cs96, .row 99 1 v99 n100 cs101] := S92
          refine ⟨(SP.nil (Sl.of_inc i93 S92.sl)), ?_⟩
          exact FB.done (by kernel_rfl) ⟨_, _, _, _, _, _, _, (S92.sel [0, 2, 1] (by decide) rfl), i93, els104, els97, nd98, k57, k58, k59, k60, k61, k56⟩
      ·
        rintro f119 w118 ⟨H115, v106, n107, cs108, v110, n111, cs112, S116, i117, els109, els113, nd114, k120, k121, k122, k123, k124, k125⟩
        refine FW.region ?_
        refine FL.v (E.add k125 rfl) ?_
        refine FL.v (E.move (v := Value.int .i64 (wr (((i41 : Nat) : Int) + 1))) rfl) ?_
        refine FL.nil ?_
        obtain rfl := Option.some.inj hp
        exact ⟨rfl, ⟨_, _, _, _, _, _, _, S116, (i53.tr i117), els109, els113, nd114, (nat_succ rfl (lt_of_get hx41) (p0P_3.mono ((i38.tr i53).tr i117)).le), k120, k121, k122, k123, k124⟩⟩
    ·
      refine FW.condF rfl c70 ?_
      refine FW.skip (FW.region ?_)
      refine FL.v (E.add k56 rfl) ?_
      refine FL.v (E.move (v := Value.int .i64 (wr (((i41 : Nat) : Int) + 1))) rfl) ?_
      refine FL.nil ?_
      obtain rfl := Option.some.inj hp
      exact ⟨rfl, ⟨_, _, _, _, _, _, _, S52, i53, els45, els49, nd50, (nat_succ rfl (lt_of_get hx41) (p0P_3.mono (i38.tr i53)).le), k57, k58, k59, k60, k61⟩⟩
  ·
    clear hp hq
    rintro s41 f489 w488 ⟨H485, v42, n43, cs44, v46, n47, cs48, S486, i487, els45, els49, nd50, k490, k491, k492, k493, k494, k495⟩
    refine FW.seq (FW.region ?_)
    refine FL.v (E.lss k490 k495) ?_
    refine FL.nil (FW.seq ?_)
    refine FW.condF rfl dlt_len ?_
    refine FW.exit ?_
    exact ⟨nofun, rfl, ⟨_, _, _, _, _, _, _, S486, i487, els45, els49, nd50, k491, k492, k493⟩⟩
  ·
    clear hq
    intro e f131 w130 hD
    rcases q41 with s41 | x41
    ·
      obtain ⟨rfl, hD⟩ := hD
      obtain ⟨H127, v42, n43, cs44, v46, n47, cs48, S128, i129, els45, els49, nd50, k132, k133, k134⟩ := hD
      replace hp := el_go hp
      refine FW.seq (FW.seq (FW.region ?_))
      obtain ⟨b135, w136, run137, S138⟩ := S128.alloc (P := Tryz.prog) 4 [Value.bool false] Tryz.zeroValue4 rfl (ones_cons rfl ones_nil)
      refine FL.v (E.alloc run137) ?_
      obtain ⟨w139, run140, S141⟩ := S138.store0 (P := Tryz.prog) (t := 4) (i := 0) (cs' := [Value.bool true]) (l' := [.box b135 4 [Value.bool true], .box b21 148 [Value.int .i64 s41.2.2.1, Value.int .i64 s41.2.2.2.1, v46, v42, Value.int .i64 s41.2.2.2.2], .row 99 1 v42 n43 cs44, .row 99 1 v46 n47 cs48]) (v := Value.bool true) (c := [Value.bool true]) rfl Tryz.sizeOf4 rfl rfl (ones_cons rfl ones_nil) (Nat.le_of_ble_eq_true rfl) rfl rfl
      refine FL.act rfl rfl (E.store rfl rfl run140) ?_
      refine FL.nil ?_
      obtain ⟨q142, hq, hp⟩ := bndR hp
      refine FW.block ?_
      refine FW.mono (FW.iter (S := ((List (List Int)) × (List (List Int)) × Int × Int × Int × Bool)) (X := Empty) (fun (s142 : ((List (List Int)) × (List (List Int)) × Int × Int × Int × Bool)) f w => ∃ H : GH, ∃ v143 : Value, ∃ n144 : Nat, ∃ cs145 : List Value, ∃ v147 : Value, ∃ n149 : Nat, ∃ cs150 : List Value, ∃ b153 : Nat, St Ha wa H w [.box b21 148 [Value.int .i64 s142.2.2.1, Value.int .i64 s142.2.2.2.1, v147, v143, Value.int .i64 s142.2.2.2.2.1], .row 99 1 v143 n144 cs145, .row 99 1 v147 n149 cs150, .box b153 4 [Value.bool s142.2.2.2.2.2]] ∧ Inc H127 H ∧ Els (up wa.heap.size H) (eL eI 1) 1 cs145 s142.1 ∧ Els (up wa.heap.size H) (eL eI 1) 1 cs150 s142.2.1 ∧ (bl cs150).Nodup ∧ f 0 = Value.pointer (some q0P) ∧ f 1 = Value.int .i64 a1 ∧ f 5 = Value.pointer (some ⟨b29, 0, none⟩) ∧ f 8 = Value.pointer (some (⟨b153, 0, none⟩ : Addr))) (fun (q : Rs ((List (List Int)) × (List (List Int)) × Int × Int × Int × Bool) Empty) e f w => match q with | .go s142 => e = Exit.exit 2 ∧ (∃ H : GH, ∃ v143 : Value, ∃ n144 : Nat, ∃ cs145 : List Value, ∃ v147 : Value, ∃ n149 : Nat, ∃ cs150 : List Value, ∃ b153 : Nat, St Ha wa H w [.box b21 148 [Value.int .i64 s142.2.2.1, Value.int .i64 s142.2.2.2.1, v147, v143, Value.int .i64 s142.2.2.2.2.1], .row 99 1 v143 n144 cs145, .row 99 1 v147 n149 cs150, .box b153 4 [Value.bool s142.2.2.2.2.2]] ∧ Inc H127 H ∧ Els (up wa.heap.size H) (eL eI 1) 1 cs145 s142.1 ∧ Els (up wa.heap.size H) (eL eI 1) 1 cs150 s142.2.1 ∧ (bl cs150).Nodup ∧ f 5 = Value.pointer (some ⟨b29, 0, none⟩)) | .rt x => x.elim) hq ⟨_, _, _, _, _, _, _, _, (S141.sel [1, 2, 3, 0] (by decide) rfl), (Inc.rfl _), els45, els49, nd50, k132, k133, k134, rfl⟩ ?_) ?_
      ·
        clear hp hq
        rintro s142 f158 w157 ⟨H154, v143, n144, cs145, v147, n149, cs150, b153, S155, i156, els146, els151, nd152, k159, k160, k161, k162⟩ o424 hp
        refine FW.seq (FW.seq (FW.region ?_))
        refine FL.v (E.load k162 (run_load0 Tryz.isAgg4 (S155.box_now (i := 3) rfl) rfl)) ?_
        refine FL.nil ?_
        rcases ifB hp with ⟨c163, hp⟩ | ⟨c163, hp⟩
        ·
          refine FW.condT rfl c163 ?_
          refine FW.skip (FW.seq (FW.block (FW.seq (FW.region ?_))))
          obtain ⟨w164, run165, S166⟩ := S155.store0 (P := Tryz.prog) (t := 4) (i := 3) (cs' := [Value.bool false]) (l' := [.box b21 148 [Value.int .i64 s142.2.2.1, Value.int .i64 s142.2.2.2.1, v147, v143, Value.int .i64 s142.2.2.2.2.1], .row 99 1 v143 n144 cs145, .row 99 1 v147 n149 cs150, .box b153 4 [Value.bool false]]) (v := Value.bool false) (c := [Value.bool false]) rfl Tryz.sizeOf4 rfl rfl (ones_cons rfl ones_nil) (Nat.le_of_ble_eq_true rfl) rfl rfl
          refine FL.act rfl rfl (E.store k162 rfl run165) ?_
          refine FL.nil (FW.region ?_)
          refine FL.v (E.move k159) ?_
          refine FL.v (E.load k161 (run_load0 Tryz.isAgg138 ((at39.mono (i129.tr i156)).now S166.sl) rfl)) ?_
          refine FL.v (E.nilCheck rfl) ?_
          refine FL.v (E.fieldAddr tf148_1 rfl) ?_
          refine FL.v (E.load rfl (run_load1 Tryz.isAgg103 (S166.box_now (i := 0) rfl) rfl)) ?_
          obtain ⟨s167, hq167, hp⟩ := bnd hp
          obtain ⟨R167, hR167⟩ : ∃ R167 : (List (List Int)) → Ending → World → Prop, R167 = (fun s167 e w => ∃ H : GH, ∃ v168 : Value, ∃ n169 : Nat, ∃ cs170 : List Value, e = Ending.returned (v168) ∧ St Ha wa H w [.box b21 148 [Value.int .i64 s142.2.2.1, Value.int .i64 s142.2.2.2.1, v147, v143, Value.int .i64 s142.2.2.2.2.1], .row 99 1 v143 n144 cs145, .row 99 1 v147 n149 cs150, .box b153 4 [Value.bool false], .row 99 1 v168 n169 cs170] ∧ Inc H154 H ∧ Els (up wa.heap.size H) (eL eI 1) 1 cs170 s167) := ⟨_, rfl⟩
          have hc167 : Calls Tryz.prog 208 #[v147] w164 (R167 s167) := by
            clear hp; have hp := hq167; clear hq167
            refine calls_go (N := 8) (args := [v147]) Tryz.func208 rfl rfl rfl ?_
            refine FW.seq (FW.region ?_)
            refine FL.v (E.assign (v := Value.slice none 0 0) rfl) ?_
            refine FL.nil (FW.seq (FW.seq (FW.region ?_)))
            refine FL.v (E.move (v := v147) rfl) ?_
            obtain ⟨nb172, run173, hn174⟩ := S166.nilTest te103 (i := 2) rfl els151 (by decide)
            refine FL.v (run173 _ _ _ _ _ _ _ _ _ _ _ _ rfl rfl) ?_
            refine FL.nil ?_
            rcases bcase nb172 with c175 | c175
            ·
              refine FW.condT (b := nb172) rfl c175 ?_
              rw [hn174 c175, app_nil2] at hp
              refine FW.seq (FW.region ?_)
              refine FL.v (E.assign (v := Value.slice none 0 0) rfl) ?_
              refine FL.nil ?_
              refine FW.ret ?_
              obtain rfl := Option.some.inj hp
              exact ⟨.inr rfl, res1 rfl rfl (by rw [hR167]; exact ⟨_, _, _, _, rfl, ((S166.nil 99 1).sel [1, 2, 3, 4, 0] (by decide) rfl), (Inc.rfl _), Els.nil⟩)⟩
            ·
              refine FW.condF (b := nb172) rfl c175 ?_
              refine FW.skip (FW.seq (FW.region ?_))
              obtain ⟨v176, w177, run178, S179⟩ := S166.buildSlice (P := Tryz.prog) te103 [] (parts := #[]) (cells := []) rfl szs_nil fc_nil ones_nil (Nat.le_of_ble_eq_true rfl)
              have els180 : Els (up wa.heap.size H154) (eL eI 1) 1 [] [] := Els.nil
              refine FL.v (E.buildSlice (B0) run178) ?_
              refine FL.v (E.move (v := v147) rfl) ?_
              obtain ⟨xs181, hz182, hp⟩ := bnd hp
              obtain ⟨v183, w186, n184, cs185, run187, S188, els189, ce190⟩ := S179.appendO (P := Tryz.prog) te103 (i := 0) (j := 3) rfl els180 rfl els151 hz182
              have S188 : St Ha wa H154 w186 [.row 99 1 v183 n184 cs185, .box b21 148 [Value.int .i64 s142.2.2.1, Value.int .i64 s142.2.2.2.1, v147, v143, Value.int .i64 s142.2.2.2.2.1], .row 99 1 v143 n144 cs145, .row 99 1 v147 n149 cs150, .box b153 4 [Value.bool false]] := S188
              refine FL.v (E.append rfl rfl run187) ?_
              refine FL.v (E.assign (v := v183) rfl) ?_
              refine FL.nil ?_
              refine FW.ret ?_
              obtain rfl := Option.some.inj hp
              exact ⟨.inr rfl, res1 rfl rfl (by rw [hR167]; exact ⟨_, _, _, _, rfl, (S188.sel [1, 2, 3, 4, 0] (by decide) rfl), (Inc.rfl _), els189⟩)⟩
          clear hq167
          refine FL.call rfl rfl rfl (E.call Tryz.call208 (A1 rfl)) hc167 ?_
          intro e w194 hQ167
          rw [hR167] at hQ167
          obtain ⟨H191, v168, n169, cs170, rfl, S192, i193, els171⟩ := hQ167
          refine ⟨_, rfl, ?_⟩
          refine FL.v (E.move k160) ?_
          refine FL.v (E.makeFunc A0 (A2 k161 k162)) ?_
          obtain ⟨s195, hq195, hp⟩ := bnd hp
          obtain ⟨R195, hR195⟩ : ∃ R195 : ((List (List Int)) × (List (List Int)) × Int × Int × Int × Bool × Bool) → Ending → World → Prop, R195 = (fun s195 e w => ∃ H : GH, ∃ v196 : Value, ∃ n197 : Nat, ∃ cs198 : List Value, ∃ v200 : Value, ∃ n201 : Nat, ∃ cs202 : List Value, e = Ending.returned (Value.bool s195.2.2.2.2.2.2) ∧ St Ha wa H w [.box b21 148 [Value.int .i64 s195.2.2.1, Value.int .i64 s195.2.2.2.1, v200, v196, Value.int .i64 s195.2.2.2.2.1], .row 99 1 v196 n197 cs198, .row 99 1 v200 n201 cs202, .box b153 4 [Value.bool s195.2.2.2.2.2.1], .row 99 1 v168 n169 cs170] ∧ Inc H191 H ∧ Els (up wa.heap.size H) (eL eI 1) 1 cs198 s195.1 ∧ Els (up wa.heap.size H) (eL eI 1) 1 cs202 s195.2.1 ∧ (bl cs202).Nodup) := ⟨_, rfl⟩
          have hc195 : Calls Tryz.prog 207 #[Value.pointer (some q0P), v168, Value.int .i64 a1, Value.func (.func 209) #[] #[Value.pointer (some ⟨b29, 0, none⟩), Value.pointer (some (⟨b153, 0, none⟩ : Addr))]] w194 (R195 s195) := by
            clear hp; have hp := hq195; clear hq195
            refine calls_go (N := 49) (args := [Value.pointer (some q0P), v168, Value.int .i64 a1, Value.func (.func 209) #[] #[Value.pointer (some ⟨b29, 0, none⟩), Value.pointer (some (⟨b153, 0, none⟩ : Addr))]]) Tryz.func207 rfl rfl rfl ?_
            refine FW.seq (FW.region ?_)
            refine FL.v (E.assign (v := Value.bool false) rfl) ?_
            refine FL.nil (FW.seq (FW.seq (FW.region ?_)))
            refine FL.v (E.move (v := v168) rfl) ?_
            refine FL.v (E.lenO te103 rfl S192 (i := 4) rfl els171 (by decide)) ?_
            refine FL.v (E.move (v := Value.int .i64 0) rfl) ?_
            refine FL.nil ?_
            obtain ⟨m205, hchk206, hp⟩ := bnd hp
            obtain ⟨q206, hq, hp⟩ := bndR hp
            refine FW.block ?_
            refine FW.mono (FW.forR (S := ((List (List Int)) × (List (List Int)) × Int × Int × Int × Bool)) (X := ((List (List Int)) × (List (List Int)) × Int × Int × Int × Bool × Bool)) (fun (i206 : Nat) (s206 : ((List (List Int)) × (List (List Int)) × Int × Int × Int × Bool)) f w => ∃ H : GH, ∃ v207 : Value, ∃ n208 : Nat, ∃ cs209 : List Value, ∃ v211 : Value, ∃ n212 : Nat, ∃ cs213 : List Value, St Ha wa H w [.box b21 148 [Value.int .i64 s206.2.2.1, Value.int .i64 s206.2.2.2.1, v211, v207, Value.int .i64 s206.2.2.2.2.1], .row 99 1 v207 n208 cs209, .row 99 1 v211 n212 cs213, .box b153 4 [Value.bool s206.2.2.2.2.2], .row 99 1 v168 n169 cs170] ∧ Inc H191 H ∧ Els (up wa.heap.size H) (eL eI 1) 1 cs209 s206.1 ∧ Els (up wa.heap.size H) (eL eI 1) 1 cs213 s206.2.1 ∧ (bl cs213).Nodup ∧ f 14 = Value.int .i64 ((i206 : Nat) : Int) ∧ f 0 = Value.pointer (some q0P) ∧ f 2 = Value.int .i64 a1 ∧ f 3 = Value.func (.func 209) #[] #[Value.pointer (some ⟨b29, 0, none⟩), Value.pointer (some (⟨b153, 0, none⟩ : Addr))] ∧ f 12 = v168 ∧ f 13 = Value.int .i64 (len s167)) (fun q e f w => match q with | .go s206 => e = Exit.exit 0 ∧ (∃ H : GH, ∃ v207 : Value, ∃ n208 : Nat, ∃ cs209 : List Value, ∃ v211 : Value, ∃ n212 : Nat, ∃ cs213 : List Value, St Ha wa H w [.box b21 148 [Value.int .i64 s206.2.2.1, Value.int .i64 s206.2.2.2.1, v211, v207, Value.int .i64 s206.2.2.2.2.1], .row 99 1 v207 n208 cs209, .row 99 1 v211 n212 cs213, .box b153 4 [Value.bool s206.2.2.2.2.2], .row 99 1 v168 n169 cs170] ∧ Inc H191 H ∧ Els (up wa.heap.size H) (eL eI 1) 1 cs209 s206.1 ∧ Els (up wa.heap.size H) (eL eI 1) 1 cs213 s206.2.1 ∧ (bl cs213).Nodup) | .rt x => ((e = Exit.ret) ∧ (fun e f w => (e = Exit.normal ∨ e = Exit.ret) ∧ ∀ a, Fr (δ := []) 49 a f → ∃ v, (results Tryz.f207 a.tmps).run Tryz.prog w = .ok v w ∧ R195 x (.returned v) w) e f w)) hq ⟨_, _, _, _, _, _, _, S192, (Inc.rfl _), (els146.mono (up_mono i193)), (els151.mono (up_mono i193)), nd152, rfl, rfl, rfl, rfl, rfl, rfl⟩ ?_ ?_) ?_
            ·
              clear hp hq
              rintro i206 s206 f220 w219 ⟨H216, v207, n208, cs209, v211, n212, cs213, S217, i218, els210, els214, nd215, k221, k222, k223, k224, k225, k226⟩ hi206 hj206 o396 hp
              refine FW.seq (FW.region ?_)
              refine FL.v (E.lssT k221 k226 (lss_chk hj206 hchk206)) ?_
              refine FL.nil (FW.seq ?_)
              refine FW.condT rfl rfl ?_
              refine FW.skip (FW.seq (FW.block (FW.seq (FW.region ?_))))
              obtain ⟨x233, hx234, hp⟩ := bnd hp
              obtain ⟨p227, cs228, pt229, l230, at231, rel232⟩ := S217.row_at (i := 4) rfl els171 (by decide) hx234
              obtain ⟨v235, rfl, h236⟩ := eL_open rel232
              refine FL.v (E.indexAddr te103 k225 k221 pt229) ?_
              refine FL.v (E.load rfl (run_load0 Tryz.isAgg99 at231 rfl)) ?_
              refine FL.v (E.assign (v := v235) rfl) ?_
              refine FL.nil (FW.seq (FW.region ?_))
              refine FL.v (E.assign (v := Value.int .i64 1) rfl) ?_
              refine FL.nil ?_
              obtain ⟨q237, hq, hp⟩ := bndR hp
              refine FW.block ?_
              refine FW.mono (FW.iter (S := ((List (List Int)) × (List (List Int)) × Int × Int × Int × Bool × Int)) (X := (Lp ((List (List Int)) × (List (List Int)) × Int × Int × Int × Bool) ((List (List Int)) × (List (List Int)) × Int × Int × Int × Bool × Bool))) (fun (s237 : ((List (List Int)) × (List (List Int)) × Int × Int × Int × Bool × Int)) f w => ∃ H : GH, ∃ v238 : Value, ∃ n239 : Nat, ∃ cs240 : List Value, ∃ v242 : Value, ∃ n243 : Nat, ∃ cs244 : List Value, St Ha wa H w [.box b21 148 [Value.int .i64 s237.2.2.1, Value.int .i64 s237.2.2.2.1, v242, v238, Value.int .i64 s237.2.2.2.2.1], .row 99 1 v238 n239 cs240, .row 99 1 v242 n243 cs244, .box b153 4 [Value.bool s237.2.2.2.2.2.1], .row 99 1 v168 n169 cs170] ∧ Inc H216 H ∧ Els (up wa.heap.size H) (eL eI 1) 1 cs240 s237.1 ∧ Els (up wa.heap.size H) (eL eI 1) 1 cs244 s237.2.1 ∧ (bl cs244).Nodup ∧ f 0 = Value.pointer (some q0P) ∧ f 2 = Value.int .i64 a1 ∧ f 3 = Value.func (.func 209) #[] #[Value.pointer (some ⟨b29, 0, none⟩), Value.pointer (some (⟨b153, 0, none⟩ : Addr))] ∧ f 10 = v235 ∧ f 11 = Value.int .i64 s237.2.2.2.2.2.2 ∧ f 12 = v168 ∧ f 13 = Value.int .i64 (len s167) ∧ f 14 = Value.int .i64 ((i206 : Nat) : Int)) (fun q e f w => match q with | .go s237 => e = Exit.exit 2 ∧ (∃ H : GH, ∃ v238 : Value, ∃ n239 : Nat, ∃ cs240 : List Value, ∃ v242 : Value, ∃ n243 : Nat, ∃ cs244 : List Value, St Ha wa H w [.box b21 148 [Value.int .i64 s237.2.2.1, Value.int .i64 s237.2.2.2.1, v242, v238, Value.int .i64 s237.2.2.2.2.1], .row 99 1 v238 n239 cs240, .row 99 1 v242 n243 cs244, .box b153 4 [Value.bool s237.2.2.2.2.2.1], .row 99 1 v168 n169 cs170] ∧ Inc H216 H ∧ Els (up wa.heap.size H) (eL eI 1) 1 cs240 s237.1 ∧ Els (up wa.heap.size H) (eL eI 1) 1 cs244 s237.2.1 ∧ (bl cs244).Nodup ∧ f 0 = Value.pointer (some q0P) ∧ f 2 = Value.int .i64 a1 ∧ f 3 = Value.func (.func 209) #[] #[Value.pointer (some ⟨b29, 0, none⟩), Value.pointer (some (⟨b153, 0, none⟩ : Addr))] ∧ f 12 = v168 ∧ f 13 = Value.int .i64 (len s167) ∧ f 14 = Value.int .i64 ((i206 : Nat) : Int)) | .rt x => ((e = Exit.ret) ∧ (Rd ((fun (i206 : Nat) (s206 : ((List (List Int)) × (List (List Int)) × Int × Int × Int × Bool)) f w => ∃ H : GH, ∃ v207 : Value, ∃ n208 : Nat, ∃ cs209 : List Value, ∃ v211 : Value, ∃ n212 : Nat, ∃ cs213 : List Value, St Ha wa H w [.box b21 148 [Value.int .i64 s206.2.2.1, Value.int .i64 s206.2.2.2.1, v211, v207, Value.int .i64 s206.2.2.2.2.1], .row 99 1 v207 n208 cs209, .row 99 1 v211 n212 cs213, .box b153 4 [Value.bool s206.2.2.2.2.2], .row 99 1 v168 n169 cs170] ∧ Inc H191 H ∧ Els (up wa.heap.size H) (eL eI 1) 1 cs209 s206.1 ∧ Els (up wa.heap.size H) (eL eI 1) 1 cs213 s206.2.1 ∧ (bl cs213).Nodup ∧ f 14 = Value.int .i64 ((i206 : Nat) : Int) ∧ f 0 = Value.pointer (some q0P) ∧ f 2 = Value.int .i64 a1 ∧ f 3 = Value.func (.func 209) #[] #[Value.pointer (some ⟨b29, 0, none⟩), Value.pointer (some (⟨b153, 0, none⟩ : Addr))] ∧ f 12 = v168 ∧ f 13 = Value.int .i64 (len s167)) (i206 + 1)) (fun q e f w => match q with | .go s206 => e = Exit.exit 0 ∧ (∃ H : GH, ∃ v207 : Value, ∃ n208 : Nat, ∃ cs209 : List Value, ∃ v211 : Value, ∃ n212 : Nat, ∃ cs213 : List Value, St Ha wa H w [.box b21 148 [Value.int .i64 s206.2.2.1, Value.int .i64 s206.2.2.2.1, v211, v207, Value.int .i64 s206.2.2.2.2.1], .row 99 1 v207 n208 cs209, .row 99 1 v211 n212 cs213, .box b153 4 [Value.bool s206.2.2.2.2.2], .row 99 1 v168 n169 cs170] ∧ Inc H191 H ∧ Els (up wa.heap.size H) (eL eI 1) 1 cs209 s206.1 ∧ Els (up wa.heap.size H) (eL eI 1) 1 cs213 s206.2.1 ∧ (bl cs213).Nodup) | .rt x => ((e = Exit.ret) ∧ (fun e f w => (e = Exit.normal ∨ e = Exit.ret) ∧ ∀ a, Fr (δ := []) 49 a f → ∃ v, (results Tryz.f207 a.tmps).run Tryz.prog w = .ok v w ∧ R195 x (.returned v) w) e f w)) x) e f w)) hq ⟨_, _, _, _, _, _, _, S217, (Inc.rfl _), els210, els214, nd215, k222, k223, k224, rfl, rfl, k225, k226, k221⟩ ?_) ?_
              ·
                clear hp hq
                rintro s237 f251 w250 ⟨H247, v238, n239, cs240, v242, n243, cs244, S248, i249, els241, els245, nd246, k252, k253, k254, k255, k256, k257, k258, k259⟩ o384 hp
                refine FW.seq (FW.seq (FW.region ?_))
                refine FL.v (E.move k256) ?_
                refine FL.v (E.move k252) ?_
                refine FL.v (E.nilCheck rfl) ?_
                refine FL.v (E.fieldAddr tf105_0 rfl) ?_
                refine FL.v (E.fieldAddrN tf102_1 rfl rfl) ?_
                refine FL.v (E.load rfl (run_load1 Tryz.isAgg3 ((c0P.mono (((((i38.tr i129).tr i156).tr i193).tr i218).tr i249)).now S248.sl) rfl)) ?_
                refine FL.v (E.leq rfl rfl) ?_
                refine FL.v (E.move (v := Value.bool (decide (s237.2.2.2.2.2.2 ≤ a0.ring.vars))) rfl) ?_
                obtain ⟨t260, hqt260, hp⟩ := bnd hp
                refine FL.cut 5 (fun f w => ∃ H : GH, St Ha wa H w [.box b21 148 [Value.int .i64 s237.2.2.1, Value.int .i64 s237.2.2.2.1, v242, v238, Value.int .i64 s237.2.2.2.2.1], .row 99 1 v238 n239 cs240, .row 99 1 v242 n243 cs244, .box b153 4 [Value.bool s237.2.2.2.2.2.1], .row 99 1 v168 n169 cs170] ∧ Inc H247 H ∧ f 0 = Value.pointer (some q0P) ∧ f 2 = Value.int .i64 a1 ∧ f 3 = Value.func (.func 209) #[] #[Value.pointer (some ⟨b29, 0, none⟩), Value.pointer (some (⟨b153, 0, none⟩ : Addr))] ∧ f 10 = v235 ∧ f 11 = Value.int .i64 s237.2.2.2.2.2.2 ∧ f 12 = v168 ∧ f 13 = Value.int .i64 (len s167) ∧ f 14 = Value.int .i64 ((i206 : Nat) : Int) ∧ f 30 = Value.bool t260) ?_ ?_
                ·
                  clear hp; have hp := hqt260; clear hqt260
                  rcases ifB hp with ⟨c266, hp⟩ | ⟨c266, hp⟩
                  ·
                    refine FL.val (wF_yes rfl rfl rfl c266) rfl rfl (E.move k255) ?_
                    obtain ⟨r267, hr268, hp⟩ := bnd hp
                    refine FL.call (wF_yes rfl rfl rfl c266) rfl rfl (E.call Tryz.call130 (A1 rfl)) (w_impl_dense_degree S248.sl v235 x233 (h236.mono (upI.tr (i218.tr i249))) hr268) ?_
                    rintro e w269 ⟨rfl, r270⟩
                    refine ⟨_, rfl, ?_⟩
                    have S271 := S248.call r270
                    refine FL.val (wF_yes rfl rfl rfl c266) rfl rfl (E.move k253) ?_
                    refine FL.val (wF_yes rfl rfl rfl c266) rfl rfl (E.lss rfl rfl) ?_
                    obtain rfl := Option.some.inj hp
                    refine FL.v (E.pickT rfl c266 rfl) ?_
                    exact FL.nil ⟨rfl, _, S271, (Inc.rfl _), k252, k253, k254, k255, k256, k257, k258, k259, rfl⟩
                  ·
                    refine FL.skip (wF_no rfl rfl rfl c266) rfl ?_
                    refine FL.skip (wF_no rfl rfl rfl c266) rfl ?_
                    refine FL.skip (wF_no rfl rfl rfl c266) rfl ?_
                    refine FL.skip (wF_no rfl rfl rfl c266) rfl ?_
                    obtain rfl := Option.some.inj hp
                    refine FL.v (E.pickF rfl c266 rfl) ?_
                    exact FL.nil ⟨rfl, _, S248, (Inc.rfl _), k252, k253, k254, k255, k256, k257, k258, k259, rfl⟩
                rintro f265 w264 ⟨H261, S262, i263, k272, k273, k274, k275, k276, k277, k278, k279, k280⟩
                refine FL.nil ?_
                rcases ifB hp with ⟨c281, hp⟩ | ⟨c281, hp⟩
                ·
                  refine FW.condT k280 c281 ?_
                  refine FW.skip (FW.seq (FW.block (FW.seq ?_)))
                  obtain ⟨r285, hr286, hp⟩ := bnd hp
                  obtain ⟨r300, hr301, hp⟩ := bnd hp
                  obtain ⟨s317, hq317, hp⟩ := bnd hp
                  refine FW.drawB (Sl H261) (fun f w => ∃ H : GH, ∃ v360 : Value, ∃ n361 : Nat, ∃ cs362 : List Value, ∃ v364 : Value, ∃ n365 : Nat, ∃ cs366 : List Value, St Ha wa H w [.box b21 148 [Value.int .i64 s317.2.2.1, Value.int .i64 s317.2.2.2.1, v364, v360, Value.int .i64 s317.2.2.2.2.1], .row 99 1 v360 n361 cs362, .row 99 1 v364 n365 cs366, .box b153 4 [Value.bool s317.2.2.2.2.2.1], .row 99 1 v168 n169 cs170] ∧ Inc H261 H ∧ Els (up wa.heap.size H) (eL eI 1) 1 cs362 s317.1 ∧ Els (up wa.heap.size H) (eL eI 1) 1 cs366 s317.2.1 ∧ (bl cs366).Nodup ∧ f 0 = Value.pointer (some q0P) ∧ f 2 = Value.int .i64 a1 ∧ f 3 = Value.func (.func 209) #[] #[Value.pointer (some ⟨b29, 0, none⟩), Value.pointer (some (⟨b153, 0, none⟩ : Addr))] ∧ f 10 = v235 ∧ f 11 = Value.int .i64 s237.2.2.2.2.2.2 ∧ f 12 = v168 ∧ f 13 = Value.int .i64 (len s167) ∧ f 14 = Value.int .i64 ((i206 : Nat) : Int) ∧ f 47 = Value.bool (!s317.2.2.2.2.2.2)) (by kernel_rfl) S262.sl ?_ ?_
                  ·
                    intro w282 r283
                    have S284 := S262.call r283
                    refine FB.t (i := 0) (bs 15 1) rfl (SP.nil S284.sl) rfl (fun w' hw' => (E.move k274)) ?_
                    refine FB.t (i := 1) (bs 15 3) rfl (SP.nil S284.sl) rfl (fun w' hw' => (E.move k272)) ?_
                    refine FB.t (i := 2) (bs 15 7) rfl (SP.nil S284.sl) rfl (fun w' hw' => (E.nilCheck rfl)) ?_
                    refine FB.t (i := 3) (bs 15 15) rfl (SP.nil S284.sl) rfl (fun w' hw' => (E.fieldAddr tf105_0 rfl)) ?_
                    refine FB.t (i := 4) (bs 15 31) rfl (SP.nil S284.sl) rfl (fun w' hw' => (E.load rfl (run_loadA Tryz.isAgg102 Tryz.sizeOf102 (((c0P.mono ((((((i38.tr i129).tr i156).tr i193).tr i218).tr i249).tr i263)).now hw').sub (j := 0) (n := 2) (c := [Value.int .i64 a0.ring.p, Value.int .i64 a0.ring.vars]) rfl) rfl))) ?_
                    refine FB.t (i := 5) (bs 15 63) rfl (SP.nil S284.sl) rfl (fun w' hw' => (E.move k275)) ?_
                    refine FB.t (i := 6) (bs 15 127) rfl (SP.nil S284.sl) rfl (fun w' hw' => (E.move k272)) ?_
                    refine FB.t (i := 7) (bs 15 255) rfl (SP.nil S284.sl) rfl (fun w' hw' => (E.nilCheck rfl)) ?_
                    refine FB.t (i := 8) (bs 15 511) rfl (SP.nil S284.sl) rfl (fun w' hw' => (E.fieldAddr tf105_0 rfl)) ?_
                    refine FB.t (i := 9) (bs 15 1023) rfl (SP.nil S284.sl) rfl (fun w' hw' => (E.load rfl (run_loadA Tryz.isAgg102 Tryz.sizeOf102 (((c0P.mono ((((((i38.tr i129).tr i156).tr i193).tr i218).tr i249).tr i263)).now hw').sub (j := 0) (n := 2) (c := [Value.int .i64 a0.ring.p, Value.int .i64 a0.ring.vars]) rfl) rfl))) ?_
                    refine FB.t (i := 10) (bs 15 2047) rfl (SP.nil S284.sl) rfl (fun w' hw' => (E.move k276)) ?_
                    refine FB.all1 (i := 11) (by kernel_rfl) ?_
                    ·
                      refine FC.call (l' := (bs 15 4095)) rfl (by kernel_rfl) rfl rfl rfl (E.call Tryz.call125 (A2 rfl rfl)) (w_impl_ring_literal S284.sl a0.ring s237.2.2.2.2.2.2 hr286) ?_
                      rintro e w288 ⟨H287, v291, n292, cs293, rfl, r290, els294⟩
                      refine ⟨_, rfl, ?_⟩
                      have els294 := els294.mono (up_le S284.size)
                      have S289 := S284.join (l' := [.row 3 1 v291 n292 cs293, .box b21 148 [Value.int .i64 s237.2.2.1, Value.int .i64 s237.2.2.2.1, v242, v238, Value.int .i64 s237.2.2.2.2.1], .row 99 1 v238 n239 cs240, .row 99 1 v242 n243 cs244, .box b153 4 [Value.bool s237.2.2.2.2.2.1], .row 99 1 v168 n169 cs170]) r290 rfl
                      refine ⟨(SP.nil (Sl.of_inc r290.run.inc S289.sl)), ?_⟩
                      refine FB.all1 (i := 12) (by kernel_rfl) ?_
                      ·
                        obtain ⟨H295, S296, i297, h298, nv299⟩ := S289.sealRowU (i := 0) (l' := [.box b21 148 [Value.int .i64 s237.2.2.1, Value.int .i64 s237.2.2.2.1, v242, v238, Value.int .i64 s237.2.2.2.2.1], .row 99 1 v238 n239 cs240, .row 99 1 v242 n243 cs244, .box b153 4 [Value.bool s237.2.2.2.2.2.1], .row 99 1 v168 n169 cs170]) rfl els294 (by decide) rfl
                        refine FC.call (l' := (bs 15 8191)) rfl (by kernel_rfl) rfl rfl rfl (E.call Tryz.call124 (A3 rfl rfl rfl)) (w_impl_ring_times S296.sl a0.ring v235 x233 (h236.mono (upI.tr ((((i218.tr i249).tr i263).tr r290.run.inc).tr i297))) v291 r285 (h298.mono upI) hr301) ?_
                        rintro e w303 ⟨H302, v308, n309, cs310, rfl, r305, els311⟩
                        refine ⟨_, rfl, ?_⟩
                        obtain ⟨H306, r305, hU307⟩ := St.lendX i297 S289.sl r305
                        have els311 := els311.mono (hU307.tr (up_le S289.size))
                        have S304 := S289.join (l' := [.row 3 1 v308 n309 cs310, .row 3 1 v291 n292 cs293, .box b21 148 [Value.int .i64 s237.2.2.1, Value.int .i64 s237.2.2.2.1, v242, v238, Value.int .i64 s237.2.2.2.2.1], .row 99 1 v238 n239 cs240, .row 99 1 v242 n243 cs244, .box b153 4 [Value.bool s237.2.2.2.2.2.1], .row 99 1 v168 n169 cs170]) r305 rfl
                        refine ⟨(SP.nil (Sl.of_inc (r290.run.inc.tr r305.run.inc) S304.sl)), ?_⟩
                        refine FB.all1 (i := 13) (by kernel_rfl) ?_
                        ·
                          obtain ⟨H312, S313, i314, h315, nv316⟩ := S304.sealRowU (i := 0) (l' := [.row 3 1 v291 n292 cs293, .box b21 148 [Value.int .i64 s237.2.2.1, Value.int .i64 s237.2.2.2.1, v242, v238, Value.int .i64 s237.2.2.2.2.1], .row 99 1 v238 n239 cs240, .row 99 1 v242 n243 cs244, .box b153 4 [Value.bool s237.2.2.2.2.2.1], .row 99 1 v168 n169 cs170]) rfl els311 (by decide) rfl
                          obtain ⟨R317, hR317⟩ : ∃ R317 : ((List (List Int)) × (List (List Int)) × Int × Int × Int × Bool × Bool) → Ending → World → Prop, R317 = (fun s317 e w => ∃ H : GH, ∃ v318 : Value, ∃ n319 : Nat, ∃ cs320 : List Value, ∃ v322 : Value, ∃ n323 : Nat, ∃ cs324 : List Value, e = Ending.returned (Value.bool s317.2.2.2.2.2.2) ∧ St Ha wa H w [.row 3 1 v291 n292 cs293, .box b21 148 [Value.int .i64 s317.2.2.1, Value.int .i64 s317.2.2.2.1, v322, v318, Value.int .i64 s317.2.2.2.2.1], .row 99 1 v318 n319 cs320, .row 99 1 v322 n323 cs324, .box b153 4 [Value.bool s317.2.2.2.2.2.1], .row 99 1 v168 n169 cs170] ∧ Inc H312 H ∧ Els (up wa.heap.size H) (eL eI 1) 1 cs320 s317.1 ∧ Els (up wa.heap.size H) (eL eI 1) 1 cs324 s317.2.1 ∧ (bl cs324).Nodup) := ⟨_, rfl⟩
                          have hc317 : Calls Tryz.prog 209 #[v308, Value.pointer (some ⟨b29, 0, none⟩), Value.pointer (some (⟨b153, 0, none⟩ : Addr))] w303 (R317 s317) := by
                            clear hp; have hp := hq317; clear hq317
                            refine calls_go (N := 11) (args := [v308, Value.pointer (some ⟨b29, 0, none⟩), Value.pointer (some (⟨b153, 0, none⟩ : Addr))]) Tryz.func209 rfl rfl rfl ?_
                            refine FW.seq (FW.region ?_)
                            refine FL.v (E.assign (v := Value.bool false) rfl) ?_
                            refine FL.nil (FW.seq (FW.region ?_))
                            refine FL.v (E.load rfl (run_load0 Tryz.isAgg138 ((at39.mono ((((((((i129.tr i156).tr i193).tr i218).tr i249).tr i263).tr r290.run.inc).tr r305.run.inc).tr i314)).now S313.sl) rfl)) ?_
                            refine FL.v (E.move (v := v308) rfl) ?_
                            obtain ⟨r327, hr328, hp⟩ := bnd hp
                            have S329 : St Ha wa H312 w303 [.row 99 1 v238 n239 cs240, .row 3 1 v291 n292 cs293, .box b21 148 [Value.int .i64 s237.2.2.1, Value.int .i64 s237.2.2.2.1, v242, v238, Value.int .i64 s237.2.2.2.2.1], .row 99 1 v242 n243 cs244, .box b153 4 [Value.bool s237.2.2.2.2.2.1], .row 99 1 v168 n169 cs170] := S313.front 2 rfl rfl
                            have S330 : St Ha wa H312 w303 [.row 99 1 v242 n243 cs244, .row 99 1 v238 n239 cs240, .row 3 1 v291 n292 cs293, .box b21 148 [Value.int .i64 s237.2.2.1, Value.int .i64 s237.2.2.2.1, v242, v238, Value.int .i64 s237.2.2.2.2.1], .box b153 4 [Value.bool s237.2.2.2.2.2.1], .row 99 1 v168 n169 cs170] := S329.front 3 rfl rfl
                            have S331 : St Ha wa H312 w303 [.box b21 148 [Value.int .i64 s237.2.2.1, Value.int .i64 s237.2.2.2.1, v242, v238, Value.int .i64 s237.2.2.2.2.1], .row 99 1 v242 n243 cs244, .row 99 1 v238 n239 cs240, .row 3 1 v291 n292 cs293, .box b153 4 [Value.bool s237.2.2.2.2.2.1], .row 99 1 v168 n169 cs170] := S330.front 3 rfl rfl
                            refine FL.call rfl rfl rfl (E.call Tryz.call206 (A2 rfl rfl)) (w_impl_echelon_add (L := [.row 3 1 v291 n292 cs293, .box b153 4 [Value.bool s237.2.2.2.2.2.1], .row 99 1 v168 n169 cs170]) S331 (a0 := (echelon.mk (ring.mk s237.2.2.1 s237.2.2.2.1) s237.2.1 s237.1 s237.2.2.2.2.1)) (els245.mono (up_mono (((i263.tr r290.run.inc).tr r305.run.inc).tr i314))) nd246 (els241.mono (up_mono (((i263.tr r290.run.inc).tr r305.run.inc).tr i314))) v308 r300 (h315.mono upI) hr328) ?_
                            rintro e w333 ⟨H332, v336, n337, cs338, v341, n342, cs343, rfl, ⟨S334, i335⟩, els339, nd340, els344⟩
                            refine ⟨_, rfl, ?_⟩
                            have S334 : St Ha wa H332 w333 [.box b21 148 [Value.int .i64 r327.2.ring.p, Value.int .i64 r327.2.ring.vars, v336, v341, Value.int .i64 r327.2.many], .row 99 1 v336 n337 cs338, .row 99 1 v341 n342 cs343, .row 3 1 v291 n292 cs293, .box b153 4 [Value.bool s237.2.2.2.2.2.1], .row 99 1 v168 n169 cs170] := S334
                            refine FL.v (E.move (v := Value.bool r327.1) rfl) ?_
                            refine FL.cut 2 (fun f w => ∃ H : GH, St Ha wa H w [.box b21 148 [Value.int .i64 r327.2.ring.p, Value.int .i64 r327.2.ring.vars, v336, v341, Value.int .i64 r327.2.many], .row 99 1 v336 n337 cs338, .row 99 1 v341 n342 cs343, .row 3 1 v291 n292 cs293, .box b153 4 [Value.bool s237.2.2.2.2.2.1], .row 99 1 v168 n169 cs170] ∧ Inc H332 H ∧ f 2 = Value.pointer (some (⟨b153, 0, none⟩ : Addr)) ∧ f 10 = Value.bool (bif r327.1 then true else s237.2.2.2.2.2.1)) ?_ ?_
                            ·
                              rcases bcase r327.1 with c350 | c350
                              ·
                                refine FL.skip (wF_no rfl rfl rfl c350) rfl ?_
                                refine FL.v (E.pickT rfl c350 rfl) ?_
                                exact FL.nil ⟨rfl, _, S334, (Inc.rfl _), rfl, (congrArg Value.bool (bifT c350).symm)⟩
                              ·
                                refine FL.val (wF_yes rfl rfl rfl c350) rfl rfl (E.load rfl (run_load0 Tryz.isAgg4 (S334.box_now (i := 4) rfl) rfl)) ?_
                                refine FL.v (E.pickF rfl c350 rfl) ?_
                                exact FL.nil ⟨rfl, _, S334, (Inc.rfl _), rfl, (congrArg Value.bool (bifF c350).symm)⟩
                            rintro f349 w348 ⟨H345, S346, i347, k351, k352⟩
                            obtain ⟨w353, run354, S355⟩ := S346.store0 (P := Tryz.prog) (t := 4) (i := 4) (cs' := [Value.bool (bif r327.1 then true else s237.2.2.2.2.2.1)]) (l' := [.box b21 148 [Value.int .i64 r327.2.ring.p, Value.int .i64 r327.2.ring.vars, v336, v341, Value.int .i64 r327.2.many], .row 99 1 v336 n337 cs338, .row 99 1 v341 n342 cs343, .row 3 1 v291 n292 cs293, .box b153 4 [Value.bool (bif r327.1 then true else s237.2.2.2.2.2.1)], .row 99 1 v168 n169 cs170]) (v := Value.bool (bif r327.1 then true else s237.2.2.2.2.2.1)) (c := [Value.bool (bif r327.1 then true else s237.2.2.2.2.2.1)]) rfl Tryz.sizeOf4 rfl rfl (ones_cons rfl ones_nil) (Nat.le_of_ble_eq_true rfl) rfl rfl
                            refine FL.act rfl rfl (E.store k351 k352 run354) ?_
                            refine FL.nil (FW.seq (FW.region ?_))
                            refine FL.v (E.assign (v := Value.bool true) rfl) ?_
                            refine FL.nil ?_
                            refine FW.ret ?_
                            obtain rfl := Option.some.inj hp
                            exact ⟨.inr rfl, res1 rfl rfl (by rw [hR317]; exact ⟨_, _, _, _, _, _, _, rfl, (S355.sel [3, 0, 2, 1, 4, 5] (by decide) rfl), (i335.tr i347), (els344.mono (up_mono i347)), (els339.mono (up_mono i347)), nd340⟩)⟩
                          clear hq317
                          refine FC.call (l' := (bs 15 16383)) rfl (by kernel_rfl) rfl rfl rfl (E.callV Tryz.call209 rfl (appA (A1 rfl) #[Value.pointer (some ⟨b29, 0, none⟩), Value.pointer (some (⟨b153, 0, none⟩ : Addr))])) hc317 ?_
                          intro e w359 hQ317
                          rw [hR317] at hQ317
                          obtain ⟨H356, v318, n319, cs320, v322, n323, cs324, rfl, S357, i358, els321, els325, nd326⟩ := hQ317
                          refine ⟨_, rfl, ?_⟩
                          refine ⟨(SP.nil (Sl.of_inc (((r290.run.inc.tr r305.run.inc).tr i314).tr i358) S357.sl)), ?_⟩
                          refine FB.t (i := 14) (bs 15 32767) rfl (SP.nil (Sl.of_inc (((r290.run.inc.tr r305.run.inc).tr i314).tr i358) S357.sl)) rfl (fun w' hw' => (E.not rfl)) ?_
                          exact FB.done (by kernel_rfl) ⟨_, _, _, _, _, _, _, (S357.sel [1, 2, 3, 4, 5] (by decide) rfl), (((r290.run.inc.tr r305.run.inc).tr i314).tr i358), els321, els325, nd326, k272, k273, k274, k275, k276, k277, k278, k279, rfl⟩
                  ·
                    rintro f373 w372 ⟨H369, v360, n361, cs362, v364, n365, cs366, S370, i371, els363, els367, nd368, k374, k375, k376, k377, k378, k379, k380, k381, k382⟩
                    rcases ifB hp with ⟨c383, hp⟩ | ⟨c383, hp⟩
                    ·
                      refine FW.condT k382 c383 ?_
                      refine FW.seq (FW.region ?_)
                      refine FL.v (E.assign (v := Value.bool false) rfl) ?_
                      refine FL.nil ?_
                      refine FW.ret ?_
                      obtain rfl := Option.some.inj hp
                      exact ⟨nofun, rfl, ⟨nofun, rfl, ⟨.inr rfl, res1 rfl rfl (by rw [hR195]; exact ⟨_, _, _, _, _, _, _, rfl, S370, (((i218.tr i249).tr i263).tr i371), els363, els367, nd368⟩)⟩⟩⟩
                    ·
                      refine FW.condF k382 c383 ?_
                      refine FW.skip (FW.region ?_)
                      refine FL.v (E.move k378) ?_
                      refine FL.v (E.add rfl rfl) ?_
                      refine FL.v (E.assign (v := Value.int .i64 (wr (s237.2.2.2.2.2.2 + 1))) rfl) ?_
                      refine FL.nil ?_
                      obtain rfl := Option.some.inj hp
                      exact ⟨rfl, ⟨_, _, _, _, _, _, _, S370, ((i249.tr i263).tr i371), els363, els367, nd368, k374, k375, k376, k377, rfl, k379, k380, k381⟩⟩
                ·
                  refine FW.condF k280 c281 ?_
                  refine FW.exit ?_
                  obtain rfl := Option.some.inj hp
                  exact ⟨nofun, rfl, ⟨_, _, _, _, _, _, _, S262, (i249.tr i263), (els241.mono (up_mono i263)), (els245.mono (up_mono i263)), nd246, k272, k273, k274, k277, k278, k279⟩⟩
              ·
                clear hq
                intro e f389 w388 hD
                rcases q237 with s237 | x237
                ·
                  obtain ⟨rfl, hD⟩ := hD
                  obtain ⟨H385, v238, n239, cs240, v242, n243, cs244, S386, i387, els241, els245, nd246, k390, k391, k392, k393, k394, k395⟩ := hD
                  replace hp := el_go hp
                  refine FW.region ?_
                  refine FL.v (E.add k395 rfl) ?_
                  refine FL.v (E.move (v := Value.int .i64 (wr (((i206 : Nat) : Int) + 1))) rfl) ?_
                  refine FL.nil ?_
                  obtain rfl := Option.some.inj hp
                  exact ⟨rfl, ⟨_, _, _, _, _, _, _, S386, (i218.tr i387), els241, els245, nd246, (nat_succ rfl hj206 (chk_le hchk206)), k390, k391, k392, k393, k394⟩⟩
                ·
                  obtain ⟨he, hL⟩ := hD
                  replace hp := el_rt hp
                  obtain rfl := Option.some.inj hp
                  subst he
                  exact hL
            ·
              clear hp hq
              rintro s206 f406 w405 ⟨H402, v207, n208, cs209, v211, n212, cs213, S403, i404, els210, els214, nd215, k407, k408, k409, k410, k411, k412⟩
              refine FW.seq (FW.region ?_)
              refine FL.v (E.lss k407 k412) ?_
              refine FL.nil (FW.seq ?_)
              refine FW.condF rfl (dlt_maxchk hchk206) ?_
              refine FW.exit ?_
              exact ⟨nofun, rfl, ⟨_, _, _, _, _, _, _, S403, i404, els210, els214, nd215⟩⟩
            ·
              clear hq
              intro e f401 w400 hD
              rcases q206 with s206 | x206
              ·
                obtain ⟨rfl, hD⟩ := hD
                obtain ⟨H397, v207, n208, cs209, v211, n212, cs213, S398, i399, els210, els214, nd215⟩ := hD
                replace hp := el_go hp
                refine FW.seq (FW.region ?_)
                refine FL.v (E.assign (v := Value.bool true) rfl) ?_
                refine FL.nil ?_
                refine FW.ret ?_
                obtain rfl := Option.some.inj hp
                exact ⟨.inr rfl, res1 rfl rfl (by rw [hR195]; exact ⟨_, _, _, _, _, _, _, rfl, S398, i399, els210, els214, nd215⟩)⟩
              ·
                obtain ⟨he, hL⟩ := hD
                replace hp := el_rt hp
                obtain rfl := Option.some.inj hp
                subst he
                exact hL
          clear hq195
          refine FL.call rfl rfl rfl (E.call Tryz.call207 (A4 rfl rfl rfl rfl)) hc195 ?_
          intro e w416 hQ195
          rw [hR195] at hQ195
          obtain ⟨H413, v196, n197, cs198, v200, n201, cs202, rfl, S414, i415, els199, els203, nd204⟩ := hQ195
          refine ⟨_, rfl, ?_⟩
          refine FL.nil (FW.seq (FW.region ?_))
          refine FL.v (E.load k162 (run_load0 Tryz.isAgg4 (S414.box_now (i := 3) rfl) rfl)) ?_
          refine FL.nil (FW.region ?_)
          obtain ⟨b417, w418, run419, S420⟩ := S414.alloc (P := Tryz.prog) 4 [Value.bool false] Tryz.zeroValue4 rfl (ones_cons rfl ones_nil)
          refine FL.v (E.alloc run419) ?_
          obtain ⟨w421, run422, S423⟩ := S420.store0 (P := Tryz.prog) (t := 4) (i := 0) (cs' := [Value.bool s195.2.2.2.2.2.1]) (l' := [.box b417 4 [Value.bool s195.2.2.2.2.2.1], .box b21 148 [Value.int .i64 s195.2.2.1, Value.int .i64 s195.2.2.2.1, v200, v196, Value.int .i64 s195.2.2.2.2.1], .row 99 1 v196 n197 cs198, .row 99 1 v200 n201 cs202, .box b153 4 [Value.bool s195.2.2.2.2.2.1], .row 99 1 v168 n169 cs170]) (v := Value.bool s195.2.2.2.2.2.1) (c := [Value.bool s195.2.2.2.2.2.1]) rfl Tryz.sizeOf4 rfl rfl (ones_cons rfl ones_nil) (Nat.le_of_ble_eq_true rfl) rfl rfl
          refine FL.act rfl rfl (E.store rfl rfl run422) ?_
          refine FL.nil ?_
          obtain rfl := Option.some.inj hp
          exact ⟨rfl, ⟨_, _, _, _, _, _, _, _, (S423.sel [1, 2, 3, 0] (by decide) rfl), ((i156.tr i193).tr i415), els199, els203, nd204, k159, k160, k161, rfl⟩⟩
        ·
          refine FW.condF rfl c163 ?_
          refine FW.exit ?_
          obtain rfl := Option.some.inj hp
          exact ⟨nofun, rfl, ⟨_, _, _, _, _, _, _, _, S155, i156, els146, els151, nd152, k161⟩⟩
      ·
        clear hq
        intro e f429 w428 hD
        rcases q142 with s142 | x142
        ·
          obtain ⟨rfl, hD⟩ := hD
          obtain ⟨H425, v143, n144, cs145, v147, n149, cs150, b153, S426, i427, els146, els151, nd152, k430⟩ := hD
          replace hp := el_go hp
          refine FW.seq (FW.region ?_)
          refine FL.v (E.load k430 (run_load0 Tryz.isAgg138 ((at39.mono (i129.tr i427)).now S426.sl) rfl)) ?_
          refine FL.v (E.nilCheck rfl) ?_
          refine FL.v (E.fieldAddr tf148_1 rfl) ?_
          refine FL.v (E.load rfl (run_load1 Tryz.isAgg103 (S426.box_now (i := 0) rfl) rfl)) ?_
          obtain ⟨r431, hr432, hp⟩ := bnd hp
          have S433 : St Ha wa H425 w428 [.row 99 1 v147 n149 cs150, .box b21 148 [Value.int .i64 s142.2.2.1, Value.int .i64 s142.2.2.2.1, v147, v143, Value.int .i64 s142.2.2.2.2.1], .row 99 1 v143 n144 cs145, .box b153 4 [Value.bool s142.2.2.2.2.2]] := S426.front 2 rfl rfl
          refine FL.call rfl rfl rfl (E.call Tryz.call210 (A2 rfl rfl)) (w_slices_SortFunc_impl_dense_impl_dense (L := [.box b21 148 [Value.int .i64 s142.2.2.1, Value.int .i64 s142.2.2.2.1, v147, v143, Value.int .i64 s142.2.2.2.2.1], .row 99 1 v143 n144 cs145, .box b153 4 [Value.bool s142.2.2.2.2.2]]) S433 s142.2.1 (els151.mono upI) (Value.func (.func 211) #[] #[]) (fun x0 x1 => PF.impl_algebra_span_2 x0 x1) (fun H2 w2 hi2 hs2 x0 y0 z0 x1 y1 z1 r hr => ⟨211, #[], rfl, Tryz.call211, w_impl_algebra_span_2 hs2 y0 x0 z0 y1 x1 z1  hr⟩) hr432) ?_
          rintro e w435 ⟨H434, cs438, rfl, ⟨S436, i437⟩, els439⟩
          refine ⟨_, rfl, ?_⟩
          have S436 : St Ha wa H434 w435 [.row 99 1 v147 n149 cs438, .box b21 148 [Value.int .i64 s142.2.2.1, Value.int .i64 s142.2.2.2.1, v147, v143, Value.int .i64 s142.2.2.2.2.1], .row 99 1 v143 n144 cs145, .box b153 4 [Value.bool s142.2.2.2.2.2]] := S436
          refine FL.nil (FW.seq ?_)
          obtain ⟨H440, S441, i442, h443, nv444⟩ := S436.sealRowU (i := 2) (l' := [.row 99 1 v147 n149 cs438, .box b21 148 [Value.int .i64 s142.2.2.1, Value.int .i64 s142.2.2.2.1, v147, v143, Value.int .i64 s142.2.2.2.2.1], .box b153 4 [Value.bool s142.2.2.2.2.2]]) rfl (els146.mono (up_mono i437)) (by decide) rfl
          obtain ⟨xs448, hm449, hp⟩ := bnd hp
          refine FW.drawB (Sl H440) (fun f w => ∃ H : GH, ∃ v468 : Value, St Ha wa H w [.row 99 1 v147 n149 cs438, .box b21 148 [Value.int .i64 s142.2.2.1, Value.int .i64 s142.2.2.2.1, v147, v468, Value.int .i64 s142.2.2.2.2.1]] ∧ Inc H440 H ∧ RSl (up wa.heap.size H) (eL eI 1) 1 v468 xs448 ∧ New H440 [v468] ∧ f 5 = Value.pointer (some ⟨b29, 0, none⟩)) (by kernel_rfl) S441.sl ?_ ?_
          ·
            intro w445 r446
            have S447 := S441.call r446
            refine FB.phase [] (fun w => WAt w (Addr.add ⟨b21, 0, none⟩ 2) [v147]) ?_
            refine FB.t (i := 0) (bs 10 1) rfl (SP.on ((S447.box_now (i := 1) rfl).sub (j := 2) (n := 1) (c := [v147]) rfl) (SP.nil S447.sl)) rfl (fun w' hw' => (E.load k430 (run_load0 Tryz.isAgg138 ((at39.mono (((i129.tr i427).tr i437).tr i442)).now hw') rfl))) ?_
            refine FB.t (i := 1) (bs 10 3) rfl (SP.on ((S447.box_now (i := 1) rfl).sub (j := 2) (n := 1) (c := [v147]) rfl) (SP.nil S447.sl)) rfl (fun w' hw' => (E.load k430 (run_load0 Tryz.isAgg138 ((at39.mono (((i129.tr i427).tr i437).tr i442)).now hw') rfl))) ?_
            refine FB.t (i := 2) (bs 10 7) rfl (SP.on ((S447.box_now (i := 1) rfl).sub (j := 2) (n := 1) (c := [v147]) rfl) (SP.nil S447.sl)) rfl (fun w' hw' => (E.nilCheck rfl)) ?_
            refine FB.t (i := 3) (bs 10 15) rfl (SP.on ((S447.box_now (i := 1) rfl).sub (j := 2) (n := 1) (c := [v147]) rfl) (SP.nil S447.sl)) rfl (fun w' hw' => (E.fieldAddr tf148_1 rfl)) ?_
            refine FB.p (i := 4) (bs 10 31) 0 [5, 6, 7, 8, 9] rfl (SP.on ((S447.box_now (i := 1) rfl).sub (j := 2) (n := 1) (c := [v147]) rfl) (SP.nil S447.sl)) rfl rfl (fun w' hw' => (E.load rfl (run_load0 Tryz.isAgg103 hw' rfl))) ?_
            refine FB.t (i := 5) (bs 10 63) rfl (SP.on ((S447.box_now (i := 1) rfl).sub (j := 2) (n := 1) (c := [v147]) rfl) (SP.nil S447.sl)) rfl (fun w' hw' => (E.lenOW te103 rfl S447 (i := 0) rfl els439 (by decide))) ?_
            refine FB.all1 (i := 6) (by kernel_rfl) ?_
            ·
              obtain ⟨v450, w451, n455, cs456, run452, S453, els454, hbl457⟩ := S447.makeEls (P := Tryz.prog) te103 (G := (up wa.heap.size H440)) (En := (eL eI 1)) (x0 := ([] : List Int)) hm449 ⟨_, rfl, RSl.nil _ _ _⟩ (ones_cons rfl ones_nil) .i64 .i64
              have nd458 : (bl cs456).Nodup := by rw [hbl457 (by simp [Value.cells, neb])]; exact List.nodup_nil
              refine FC.val (l' := (bs 10 127)) rfl (by kernel_rfl) rfl rfl rfl (E.makeSlice rfl rfl run452) ?_
              refine ⟨(SP.on ((S453.box_now (i := 2) rfl).sub (j := 2) (n := 1) (c := [v147]) rfl) (SP.nil S453.sl)), ?_⟩
              refine FB.t (i := 7) (bs 10 255) rfl (SP.on ((S453.box_now (i := 2) rfl).sub (j := 2) (n := 1) (c := [v147]) rfl) (SP.nil S453.sl)) rfl (fun w' hw' => (E.nilCheck rfl)) ?_
              refine FB.t (i := 8) (bs 10 511) rfl (SP.on ((S453.box_now (i := 2) rfl).sub (j := 2) (n := 1) (c := [v147]) rfl) (SP.nil S453.sl)) rfl (fun w' hw' => (E.fieldAddr tf148_2 rfl)) ?_
              refine FB.all1 (i := 9) (by kernel_rfl) ?_
              ·
                obtain ⟨w459, run460, S461⟩ := S453.store (P := Tryz.prog) (t := 103) (i := 2) (j := 3) (cs' := [Value.int .i64 s142.2.2.1, Value.int .i64 s142.2.2.2.1, v147, v450, Value.int .i64 s142.2.2.2.2.1]) (l' := [.row 99 1 v450 n455 cs456, .row 99 1 v147 n149 cs438, .box b21 148 [Value.int .i64 s142.2.2.1, Value.int .i64 s142.2.2.2.1, v147, v450, Value.int .i64 s142.2.2.2.2.1], .box b153 4 [Value.bool s142.2.2.2.2.2]]) (v := v450) (c := [v450]) rfl Tryz.sizeOf103 (Ln.cells (S453.row_ln (i := 0) rfl)) rfl (ones_cons (Ln.one (S453.row_ln (i := 0) rfl)) ones_nil) (Nat.le_of_ble_eq_true rfl) rfl rfl
                refine FC.act (l' := (bs 10 1023)) rfl (by kernel_rfl) rfl rfl (E.store rfl rfl run460) ?_
                refine ⟨(SP.on ((S461.box_now (i := 2) rfl).sub (j := 2) (n := 1) (c := [v147]) rfl) (SP.nil S461.sl)), ?_⟩
                obtain ⟨H462, S463, i464, ns467, nv466⟩ := S461.sealRowN (i := 0) (l' := [.row 99 1 v147 n149 cs438, .box b21 148 [Value.int .i64 s142.2.2.1, Value.int .i64 s142.2.2.2.1, v147, v450, Value.int .i64 s142.2.2.2.2.1], .box b153 4 [Value.bool s142.2.2.2.2.2]]) rfl els454 nd458 (by decide) rfl
                have h465 := ns467.rsl
                exact FB.done (by kernel_rfl) ⟨_, _, (S463.sel [0, 1] (by decide) rfl), i464, h465, (nv466.anti (Inc.rfl _)), k430⟩
          ·
            rintro f475 w474 ⟨H471, v468, S472, i473, h469, nv470, k476⟩
            refine FW.seq (FW.region ?_)
            refine FL.v (E.load k476 (run_load0 Tryz.isAgg138 ((at39.mono ((((i129.tr i427).tr i437).tr i442).tr i473)).now S472.sl) rfl)) ?_
            refine FL.v (E.assign (v := Value.pointer (some (⟨b21, 0, none⟩ : Addr))) rfl) ?_
            refine FL.nil ?_
            refine FW.ret ?_
            obtain ⟨H477, S478, i479, h480⟩ := S472.sealRow (i := 0) (l' := [.box b21 148 [Value.int .i64 s142.2.2.1, Value.int .i64 s142.2.2.2.1, v147, v468, Value.int .i64 s142.2.2.2.2.1]]) rfl (els439.mono (i442.tr i473)) (by decide) rfl
            obtain ⟨H481, S482, i483, at484⟩ := S478.sealBox (i := 0) (l' := []) rfl rfl
            obtain rfl := Option.some.inj hp
            exact ⟨.inr rfl, res1 rfl rfl ⟨_, _, rfl, S482.run, ⟨_, rfl, _, _, (h480.mono i483), (h469.mono (up_mono (i479.tr i483))), at484⟩⟩⟩
        · exact x142.elim
    · exact x41.elim

@[reducible] def p_impl_spanOf (Ha : GH) (wa : World) (r : ((Option algebra) × (Option echelon) × Bool)) : Ending → World → Prop :=
 fun e w' => ∃ H' : GH, ∃ v0 : Value, ∃ v1 : Value, e = .returned (Value.tuple #[v0, v1, Value.bool r.2.2]) ∧ Run wa.heap.size Ha wa H' w' ∧ OP (fun (q : Addr) (x : algebra) => ∃ v0R_3 : Value, ∃ v0R_4 : Value, RSl H' (eL eI 1) 1 v0R_3 x.f.clauses ∧ (∃ c, Nest (up wa.heap.size H') (eL eI 1) 1 v0R_4 x.q c) ∧ CAt H' q [Value.int .i64 x.ring.p, Value.int .i64 x.ring.vars, Value.int .i64 x.f.vars, v0R_3, v0R_4]) v0 r.1 ∧ OP (fun (q : Addr) (x : echelon) => ∃ v1R_2 : Value, ∃ v1R_3 : Value, RSl H' (eL eI 1) 1 v1R_2 x.rows ∧ RSl (up wa.heap.size H') (eL eI 1) 1 v1R_3 x.made ∧ CAt H' q [Value.int .i64 x.ring.p, Value.int .i64 x.ring.vars, v1R_2, v1R_3, Value.int .i64 x.many]) v1 r.2.1
theorem w_impl_spanOf {Ha : GH} {wa : World} (hs : Sl Ha wa) (a0 : Int) (a1 : Cnf) (v1_1 : Value) (p1_1 : RSl Ha (eL eI 1) 1 v1_1 a1.clauses) (a2 : Int) {r : ((Option algebra) × (Option echelon) × Bool)} (hp : (PF.impl_spanOf a0 a1 a2) = some r) :
  Calls Tryz.prog 97 #[Value.int .i64 a0, Value.agg #[Value.int .i64 a1.vars, v1_1], Value.int .i64 a2] wa (p_impl_spanOf Ha wa r) := by
 unfold PF.impl_spanOf at hp
 have S0 := St.init hs
 refine calls_go (N := 28) (args := [Value.int .i64 a0, Value.agg #[Value.int .i64 a1.vars, v1_1], Value.int .i64 a2]) Tryz.func97 rfl rfl rfl ?_
 refine FW.seq (FW.region ?_)
 obtain ⟨b21, w22, run23, S24⟩ := S0.box (P := Tryz.prog) 32 [Value.int .i64 a1.vars, v1_1] (v := Value.agg #[Value.int .i64 a1.vars, v1_1]) rfl (ones_cons rfl (ones_cons p1_1.one ones_nil))
 refine FL.v (E.box rfl run23) ?_
 obtain ⟨H25, S26, i27, at28⟩ := S24.sealBox (i := 0) (l' := []) rfl rfl
 refine FL.v (E.assign (v := Value.pointer none) rfl) ?_
 refine FL.v (E.assign (v := Value.pointer none) rfl) ?_
 refine FL.v (E.assign (v := Value.bool false) rfl) ?_
 refine FL.nil (FW.seq (FW.region ?_))
 refine FL.v (E.move (v := Value.int .i64 a0) rfl) ?_
 refine FL.v (E.load rfl (run_loadA Tryz.isAgg32 Tryz.sizeOf32 (at28.now S26.sl) rfl)) ?_
 obtain ⟨r29, hr30, hp⟩ := bnd hp
 refine FL.call rfl rfl rfl (E.call Tryz.call65 (A2 rfl rfl)) (w_impl_algebraOf S26.sl a0 a1 v1_1 (p1_1.mono i27) hr30) ?_
 rintro e w32 ⟨H31, v35, rfl, r34, h36⟩
 refine ⟨_, rfl, ?_⟩
 have S33 := S26.call r34
 refine FL.v (E.move (v := Value.tuple #[v35, Value.bool r29.2]) rfl) ?_
 refine FL.v (E.extract (i := 0) rfl rfl) ?_
 refine FL.v (E.extract (i := 1) rfl rfl) ?_
 refine FL.v (E.assign (v := v35) rfl) ?_
 refine FL.v (E.assign (v := Value.bool r29.2) rfl) ?_
 refine FL.nil (FW.seq (FW.seq (FW.region ?_)))
 refine FL.v (E.move (v := Value.bool r29.2) rfl) ?_
 refine FL.v (E.not rfl) ?_
 refine FL.v (E.move (v := Value.bool (!r29.2)) rfl) ?_
 refine FL.cut 4 (fun f w => ∃ H : GH, St Ha wa H w [] ∧ Inc H31 H ∧ f 2 = Value.int .i64 a2 ∧ f 9 = v35 ∧ f 23 = Value.bool (bif (!r29.2) then true else (!(PF.impl_degreeOk a2)))) ?_ ?_
 ·
  rcases bcase (!r29.2) with c46 | c46
  ·
   refine FL.skip (wF_no rfl rfl rfl c46) rfl ?_
   refine FL.skip (wF_no rfl rfl rfl c46) rfl ?_
   refine FL.skip (wF_no rfl rfl rfl c46) rfl ?_
   refine FL.v (E.pickT rfl c46 rfl) ?_
   exact FL.nil ⟨rfl, _, S33, (Inc.rfl _), rfl, rfl, (congrArg Value.bool (bifT c46).symm)⟩
  ·
   refine FL.val (wF_yes rfl rfl rfl c46) rfl rfl (E.move (v := Value.int .i64 a2) rfl) ?_
   refine FL.call (wF_yes rfl rfl rfl c46) rfl rfl (E.call Tryz.call159 (A1 rfl)) (w_impl_degreeOk S33.sl a2) ?_
   rintro e w47 ⟨rfl, r48⟩
   refine ⟨_, rfl, ?_⟩
   have S49 := S33.call r48
   refine FL.val (wF_yes rfl rfl rfl c46) rfl rfl (E.not rfl) ?_
   refine FL.v (E.pickF rfl c46 rfl) ?_
   exact FL.nil ⟨rfl, _, S49, (Inc.rfl _), rfl, rfl, (congrArg Value.bool (bifF c46).symm)⟩
 rintro f45 w44 ⟨H41, S42, i43, k50, k51, k52⟩
 refine FL.nil ?_
 rcases ifB hp with ⟨c53, hp⟩ | ⟨c53, hp⟩
 ·
  refine FW.condT k52 c53 ?_
  refine FW.seq (FW.region ?_)
  refine FL.v (E.assign (v := Value.pointer none) rfl) ?_
  refine FL.v (E.assign (v := Value.pointer none) rfl) ?_
  refine FL.v (E.assign (v := Value.bool false) rfl) ?_
  refine FL.nil ?_
  refine FW.ret ?_
  obtain rfl := Option.some.inj hp
  exact ⟨.inr rfl, res3 rfl rfl rfl rfl ⟨_, _, _, rfl, S42.run, rfl, rfl⟩⟩
 ·
  refine FW.condF k52 c53 ?_
  refine FW.skip (FW.seq ?_)
  obtain ⟨y54, hy55, hp⟩ := bnd hp
  rw [hy55] at h36
  obtain ⟨q56, rfl, v57, v59, h58, ⟨c62, ns61⟩, at64⟩ := h36
  have h60 := ns61.rsl
  have nv63 : New H25 [v59] := New.of_up S26.sl h60.dom
  have h60 := h60.mono (up_le S26.size)
  have ns61 := ns61.mono (up_le S26.size)
  refine FW.region ?_
  refine FL.v (E.move k51) ?_
  refine FL.v (E.move k51) ?_
  refine FL.v (E.move k50) ?_
  obtain ⟨r65, hr66, hp⟩ := bnd hp
  refine FL.call rfl rfl rfl (E.call Tryz.call160 (A2 rfl rfl)) (w_impl_algebra_span S42.sl q56 y54 v57 v59 (h58.mono i43) (h60.mono (upI.tr i43)) (at64.mono i43) a2 hr66) ?_
  rintro e w68 ⟨H67, v71, rfl, r70, h72⟩
  refine ⟨_, rfl, ?_⟩
  have S69 := S42.call r70
  refine FL.v (E.assign (v := Value.pointer (some q56)) rfl) ?_
  refine FL.v (E.assign (v := v71) rfl) ?_
  refine FL.v (E.assign (v := Value.bool true) rfl) ?_
  refine FL.nil ?_
  refine FW.ret ?_
  obtain ⟨y73, hy74, hp⟩ := bnd hp
  rw [hy74] at h72
  obtain ⟨q75, rfl, v76, v78, h77, h79, at81⟩ := h72
  have nv80 : New H41 [v78] := New.of_up S42.sl h79.dom
  have h79 := h79.mono (up_le S42.size)
  obtain rfl := Option.some.inj hp
  exact ⟨.inr rfl, res3 rfl rfl rfl rfl ⟨_, _, _, rfl, S69.run, ⟨_, rfl, _, _, (h58.mono (i43.tr r70.inc)), ⟨_, (ns61.mono (up_mono (i43.tr r70.inc)))⟩, (at64.mono (i43.tr r70.inc))⟩, ⟨_, rfl, _, _, h77, h79, at81⟩⟩⟩

theorem w_impl_bitsOk {Ha : GH} {wa : World} (hs : Sl Ha wa) (a0 : Int) (a1 : Int) {r : Bool} (hp : (PF.impl_bitsOk a0 a1) = some r) :
  Calls Tryz.prog 161 #[Value.int .i64 a0, Value.int .i64 a1] wa (Sc Ha wa (Value.bool r)) := by
 unfold PF.impl_bitsOk at hp
 have S0 := St.init hs
 refine calls_go (N := 10) (args := [Value.int .i64 a0, Value.int .i64 a1]) Tryz.func161 rfl rfl rfl ?_
 refine FW.seq (FW.region ?_)
 refine FL.v (E.assign (v := Value.bool false) rfl) ?_
 refine FL.nil (FW.seq (FW.region ?_))
 refine FL.v (E.move (v := Value.int .i64 a1) rfl) ?_
 refine FL.v (E.move (v := Value.int .i64 a0) rfl) ?_
 obtain ⟨u22, z21, hp⟩ := bnd hp
 refine FL.v (E.shl rfl rfl (nn_ge z21)) ?_
 refine FL.v (E.sub rfl rfl) ?_
 refine FL.call rfl rfl rfl (E.call Tryz.call162 (A3 rfl rfl rfl)) (w_impl_within S0.sl a1 0 (wr ((shlK true 64 1 a0) - 1))) ?_
 rintro e w23 ⟨rfl, r24⟩
 refine ⟨_, rfl, ?_⟩
 have S25 := S0.call r24
 refine FL.v (E.assign (v := Value.bool (PF.impl_within a1 0 (wr ((shlK true 64 1 a0) - 1)))) rfl) ?_
 refine FL.nil ?_
 refine FW.ret ?_
 obtain rfl := Option.some.inj hp
 exact ⟨.inr rfl, res1 rfl rfl ⟨rfl, S25.back⟩⟩

theorem w_impl_ring_is {Ha : GH} {wa : World} (hs : Sl Ha wa) (a0 : ring) (v1 : Value) (a1 : List Term) (p1 : RSl Ha eTerm 2 v1 a1) {r : Bool} (hp : (PF.impl_ring_is a0 a1) = some r) :
  Calls Tryz.prog 98 #[Value.agg #[Value.int .i64 a0.p, Value.int .i64 a0.vars], v1] wa (Sc Ha wa (Value.bool r)) := by
 unfold PF.impl_ring_is at hp
 have S0 := St.init hs
 refine calls_go (N := 45) (args := [Value.agg #[Value.int .i64 a0.p, Value.int .i64 a0.vars], v1]) Tryz.func98 rfl rfl rfl ?_
 refine FW.seq (FW.region ?_)
 obtain ⟨b21, w22, run23, S24⟩ := S0.box (P := Tryz.prog) 102 [Value.int .i64 a0.p, Value.int .i64 a0.vars] (v := Value.agg #[Value.int .i64 a0.p, Value.int .i64 a0.vars]) rfl (ones_cons rfl (ones_cons rfl ones_nil))
 refine FL.v (E.box rfl run23) ?_
 obtain ⟨H25, S26, i27, at28⟩ := S24.sealBox (i := 0) (l' := []) rfl rfl
 refine FL.v (E.assign (v := Value.bool false) rfl) ?_
 refine FL.nil (FW.seq (FW.seq (FW.region ?_)))
 refine FL.v (E.move (v := v1) rfl) ?_
 refine FL.v (E.lenP te55 rfl p1) ?_
 refine FL.v (E.move (v := Value.int .i64 0) rfl) ?_
 refine FL.nil ?_
 obtain ⟨q30, hq, hp⟩ := bndR hp
 refine FW.block ?_
 refine FW.mono (FW.forL (S := Unit) (X := Bool) (fun (i30 : Nat) (s30 : Unit) f w => ∃ H : GH, St Ha wa H w [] ∧ Inc H25 H ∧ f 9 = Value.int .i64 ((i30 : Nat) : Int) ∧ f 1 = v1 ∧ f 2 = Value.pointer (some ⟨b21, 0, none⟩) ∧ f 7 = v1 ∧ f 8 = Value.int .i64 (len a1)) (fun q e f w => match q with | .go s30 => e = Exit.exit 0 ∧ (∃ H : GH, St Ha wa H w [] ∧ Inc H25 H) | .rt x => ((e = Exit.ret) ∧ (fun e f w => (e = Exit.normal ∨ e = Exit.ret) ∧ ∀ a, Fr (δ := []) 45 a f → ∃ v, (results Tryz.f98 a.tmps).run Tryz.prog w = .ok v w ∧ (Sc Ha wa (Value.bool x)) (.returned v) w) e f w)) hq ⟨_, S26, (Inc.rfl _), rfl, rfl, rfl, rfl, rfl⟩ ?_ ?_) ?_
 ·
  clear hp hq
  rintro i30 y29 s30 f157 w156 ⟨H153, S154, i155, k158, k159, k160, k161, k162⟩ hx30 o275 hp
  refine FW.seq (FW.region ?_)
  refine FL.v (E.lssT k158 k162 (lss_len hx30)) ?_
  refine FL.nil (FW.seq ?_)
  refine FW.condT rfl rfl ?_
  refine FW.skip (FW.seq (FW.block (FW.seq (FW.region ?_))))
  refine FL.v (E.move k158) ?_
  obtain ⟨p163, cs164, pt165, l166, at167, rel168⟩ := p1.at (ix_nat hx30)
  obtain rfl := eTerm_open rel168
  refine FL.v (E.indexAddr te55 k161 k158 pt165) ?_
  refine FL.v (E.load rfl (run_loadA Tryz.isAgg108 Tryz.sizeOf108 ((at167.mono (i27.tr i155)).now S154.sl) rfl)) ?_
  obtain ⟨b169, w170, run171, S172⟩ := S154.alloc (P := Tryz.prog) 108 [Value.int .i64 0, Value.int .i64 0] Tryz.zeroValue108 rfl (ones_cons rfl (ones_cons rfl ones_nil))
  refine FL.v (E.alloc run171) ?_
  refine FL.v (E.assign (v := Value.int .i64 ((i30 : Nat) : Int)) rfl) ?_
  obtain ⟨w173, run174, S175⟩ := S172.store0 (P := Tryz.prog) (t := 108) (i := 0) (cs' := [Value.int .i64 y29.mono, Value.int .i64 y29.coeff]) (l' := [.box b169 108 [Value.int .i64 y29.mono, Value.int .i64 y29.coeff]]) (v := Value.agg #[Value.int .i64 y29.mono, Value.int .i64 y29.coeff]) (c := [Value.int .i64 y29.mono, Value.int .i64 y29.coeff]) rfl Tryz.sizeOf108 rfl rfl (ones_cons rfl (ones_cons rfl ones_nil)) (Nat.le_of_ble_eq_true rfl) rfl rfl
  refine FL.act rfl rfl (E.store rfl rfl run174) ?_
  obtain ⟨H176, S177, i178, at179⟩ := S175.sealBox (i := 0) (l' := []) rfl rfl
  refine FL.nil (FW.seq ?_)
  refine FW.draw (fun w' => Run w173.heap.size H176 w173 H176 w') (by kernel_rfl) (by kernel_rfl) (run_drew S177.sl) ?_
  refine FD.val rfl rfl rfl (fun w' hw' => (E.fieldAddr tf102_1 k160)) ?_
  refine FD.val rfl rfl rfl (fun w' hw' => (E.load rfl (run_load1 Tryz.isAgg3 ((at28.mono (i155.tr i178)).now (S177.call hw').sl) rfl))) ?_
  refine FD.val rfl rfl rfl (fun w' hw' => (E.fieldAddr tf108_0 rfl)) ?_
  refine FD.val rfl rfl rfl (fun w' hw' => (E.load rfl (run_load1 Tryz.isAgg3 (at179.now (S177.call hw').sl) rfl))) ?_
  obtain ⟨r181, hr182, hp⟩ := bnd hp
  refine FD.call rfl rfl rfl (fun w' hw' => (E.call Tryz.call161 (A2 rfl rfl))) (fun w' hw' => Calls.cls hw' (w_impl_bitsOk (S177.call hw').sl a0.vars y29.mono hr182)) ?_
  refine FD.val rfl rfl rfl (fun w' hw' => (E.not rfl)) ?_
  refine FD.val rfl rfl rfl (fun w' hw' => (E.move (v := Value.bool (!r181)) rfl)) ?_
  refine FD.cut 8 (fun f => f 1 = v1 ∧ f 2 = Value.pointer (some ⟨b21, 0, none⟩) ∧ f 5 = Value.int .i64 ((i30 : Nat) : Int) ∧ f 6 = Value.pointer (some ⟨b169, 0, none⟩) ∧ f 7 = v1 ∧ f 8 = Value.int .i64 (len a1) ∧ f 9 = Value.int .i64 ((i30 : Nat) : Int) ∧ f 28 = Value.bool (bif (!r181) then true else (!(PF.impl_within y29.coeff 1 (wr (a0.p - 1)))))) ?_ ?_
  ·
   rcases bcase (!r181) with c189 | c189
   ·
    refine FD.skip (wF_no rfl rfl rfl c189) rfl ?_
    refine FD.skip (wF_no rfl rfl rfl c189) rfl ?_
    refine FD.skip (wF_no rfl rfl rfl c189) rfl ?_
    refine FD.skip (wF_no rfl rfl rfl c189) rfl ?_
    refine FD.skip (wF_no rfl rfl rfl c189) rfl ?_
    refine FD.skip (wF_no rfl rfl rfl c189) rfl ?_
    refine FD.skip (wF_no rfl rfl rfl c189) rfl ?_
    refine FD.val rfl rfl rfl (fun w' hw' => (E.pickT rfl c189 rfl)) ?_
    exact FD.nil ⟨k159, k160, rfl, rfl, k161, k162, k158, (congrArg Value.bool (bifT c189).symm)⟩
   ·
    refine FD.val (wF_yes rfl rfl rfl c189) rfl rfl (fun w' hw' => (E.fieldAddr tf108_1 rfl)) ?_
    refine FD.val (wF_yes rfl rfl rfl c189) rfl rfl (fun w' hw' => (E.load rfl (run_load1 Tryz.isAgg3 (at179.now (S177.call hw').sl) rfl))) ?_
    refine FD.val (wF_yes rfl rfl rfl c189) rfl rfl (fun w' hw' => (E.fieldAddr tf102_0 k160)) ?_
    refine FD.val (wF_yes rfl rfl rfl c189) rfl rfl (fun w' hw' => (E.load rfl (run_load1 Tryz.isAgg3 ((at28.mono (i155.tr i178)).now (S177.call hw').sl) rfl))) ?_
    refine FD.val (wF_yes rfl rfl rfl c189) rfl rfl (fun w' hw' => (E.sub rfl rfl)) ?_
    refine FD.call (wF_yes rfl rfl rfl c189) rfl rfl (fun w' hw' => (E.call Tryz.call162 (A3 rfl rfl rfl))) (fun w' hw' => Calls.cls hw' (w_impl_within (S177.call hw').sl y29.coeff 1 (wr (a0.p - 1)))) ?_
    refine FD.val (wF_yes rfl rfl rfl c189) rfl rfl (fun w' hw' => (E.not rfl)) ?_
    refine FD.val rfl rfl rfl (fun w' hw' => (E.pickF rfl c189 rfl)) ?_
    exact FD.nil ⟨k159, k160, rfl, rfl, k161, k162, k158, (congrArg Value.bool (bifF c189).symm)⟩
  rintro f188 ⟨k190, k191, k192, k193, k194, k195, k196, k197⟩
  refine FD.val rfl rfl rfl (fun w' hw' => (E.move k197)) ?_
  obtain ⟨t228, hqt228, hp⟩ := bnd hp
  refine FD.cut 14 (fun f => f 1 = v1 ∧ f 2 = Value.pointer (some ⟨b21, 0, none⟩) ∧ f 7 = v1 ∧ f 8 = Value.int .i64 (len a1) ∧ f 9 = Value.int .i64 ((i30 : Nat) : Int) ∧ f 43 = Value.bool t228) ?_ ?_
  ·
   clear hp; have hp := hqt228; clear hqt228
   rcases ifB hp with ⟨c234, hp⟩ | ⟨c234, hp⟩
   ·
    refine FD.skip (wF_no rfl rfl rfl c234) rfl ?_
    refine FD.skip (wF_no rfl rfl rfl c234) rfl ?_
    refine FD.skip (wF_no rfl rfl rfl c234) rfl ?_
    refine FD.skip (wF_undef rfl rfl rfl) rfl ?_
    refine FD.skip (wF_undef rfl rfl rfl) rfl ?_
    refine FD.skip (wF_undef rfl rfl rfl) rfl ?_
    refine FD.skip (wF_undef rfl rfl rfl) rfl ?_
    refine FD.skip (wF_undef rfl rfl rfl) rfl ?_
    refine FD.skip (wF_undef rfl rfl rfl) rfl ?_
    refine FD.skip (wF_undef rfl rfl rfl) rfl ?_
    refine FD.skip (wF_undef rfl rfl rfl) rfl ?_
    refine FD.skip (wF_undef rfl rfl rfl) rfl ?_
    refine FD.skip (wF_no rfl rfl rfl c234) rfl ?_
    obtain rfl := Option.some.inj hp
    refine FD.val rfl rfl rfl (fun w' hw' => (E.pickT rfl c234 rfl)) ?_
    exact FD.nil ⟨k190, k191, k194, k195, k196, rfl⟩
   ·
    refine FD.val (wF_yes rfl rfl rfl c234) rfl rfl (fun w' hw' => (E.move k192)) ?_
    refine FD.val (wF_yes rfl rfl rfl c234) rfl rfl (fun w' hw' => (E.gtr rfl rfl)) ?_
    refine FD.val (wF_yes rfl rfl rfl c234) rfl rfl (fun w' hw' => (E.move (v := Value.bool (decide (0 < ((i30 : Nat) : Int)))) rfl)) ?_
    obtain ⟨t243, hqt243, hp⟩ := bnd hp
    refine FD.cut 10 (fun f => f 1 = v1 ∧ f 2 = Value.pointer (some ⟨b21, 0, none⟩) ∧ f 7 = v1 ∧ f 8 = Value.int .i64 (len a1) ∧ f 9 = Value.int .i64 ((i30 : Nat) : Int) ∧ f 29 = Value.bool (bif (!r181) then true else (!(PF.impl_within y29.coeff 1 (wr (a0.p - 1))))) ∧ f 42 = Value.bool t243) ?_ ?_
    ·
     clear hp; have hp := hqt243; clear hqt243
     rcases ifB hp with ⟨c249, hp⟩ | ⟨c249, hp⟩
     ·
      refine FD.val (wF_yes rfl rfl rfl c249) rfl rfl (fun w' hw' => (E.fieldAddr tf108_0 k193)) ?_
      refine FD.val (wF_yes rfl rfl rfl c249) rfl rfl (fun w' hw' => (E.load rfl (run_load1 Tryz.isAgg3 (at179.now (S177.call hw').sl) rfl))) ?_
      refine FD.val (wF_yes rfl rfl rfl c249) rfl rfl (fun w' hw' => (E.move k190)) ?_
      refine FD.val (wF_yes rfl rfl rfl c249) rfl rfl (fun w' hw' => (E.move k192)) ?_
      refine FD.val (wF_yes rfl rfl rfl c249) rfl rfl (fun w' hw' => (E.sub rfl rfl)) ?_
      obtain ⟨x256, hx257, hp⟩ := bnd hp
      obtain ⟨p250, cs251, pt252, l253, at254, rel255⟩ := p1.at hx257
      obtain rfl := eTerm_open rel255
      refine FD.val (wF_yes rfl rfl rfl c249) rfl rfl (fun w' hw' => (E.indexAddr te55 rfl rfl pt252)) ?_
      refine FD.val (wF_yes rfl rfl rfl c249) rfl rfl (fun w' hw' => (E.fieldAddr tf108_0 rfl)) ?_
      refine FD.val (wF_yes rfl rfl rfl c249) rfl rfl (fun w' hw' => (E.load rfl (run_load1 Tryz.isAgg3 ((at254.mono ((i27.tr i155).tr i178)).now (S177.call hw').sl) rfl))) ?_
      refine FD.val (wF_yes rfl rfl rfl c249) rfl rfl (fun w' hw' => (E.leq rfl rfl)) ?_
      obtain rfl := Option.some.inj hp
      refine FD.val (wF_yes rfl rfl rfl c234) rfl rfl (fun w' hw' => (E.pickT rfl c249 rfl)) ?_
      exact FD.nil ⟨k190, k191, k194, k195, k196, rfl, rfl⟩
     ·
      refine FD.skip (wF_no rfl rfl rfl c249) rfl ?_
      refine FD.skip (wF_no rfl rfl rfl c249) rfl ?_
      refine FD.skip (wF_no rfl rfl rfl c249) rfl ?_
      refine FD.skip (wF_no rfl rfl rfl c249) rfl ?_
      refine FD.skip (wF_no rfl rfl rfl c249) rfl ?_
      refine FD.skip (wF_no rfl rfl rfl c249) rfl ?_
      refine FD.skip (wF_no rfl rfl rfl c249) rfl ?_
      refine FD.skip (wF_no rfl rfl rfl c249) rfl ?_
      refine FD.skip (wF_no rfl rfl rfl c249) rfl ?_
      obtain rfl := Option.some.inj hp
      refine FD.val (wF_yes rfl rfl rfl c234) rfl rfl (fun w' hw' => (E.pickF rfl c249 rfl)) ?_
      exact FD.nil ⟨k190, k191, k194, k195, k196, rfl, rfl⟩
    rintro f248 ⟨k258, k259, k260, k261, k262, k263, k264⟩
    obtain rfl := Option.some.inj hp
    refine FD.val rfl rfl rfl (fun w' hw' => (E.pickF k263 c234 k264)) ?_
    exact FD.nil ⟨k258, k259, k260, k261, k262, rfl⟩
  rintro f233 ⟨k265, k266, k267, k268, k269, k270⟩
  refine FD.nil ?_
  intro w271 r273
  have S272 := S177.call r273
  rcases ifB hp with ⟨c274, hp⟩ | ⟨c274, hp⟩
  ·
   refine FW.condT k270 c274 ?_
   refine FW.seq (FW.region ?_)
   refine FL.v (E.assign (v := Value.bool false) rfl) ?_
   refine FL.nil ?_
   refine FW.ret ?_
   obtain rfl := Option.some.inj hp
   exact ⟨nofun, rfl, ⟨.inr rfl, res1 rfl rfl ⟨rfl, S272.back⟩⟩⟩
  ·
   refine FW.condF k270 c274 ?_
   refine FW.skip (FW.region ?_)
   refine FL.v (E.add k269 rfl) ?_
   refine FL.v (E.move (v := Value.int .i64 (wr (((i30 : Nat) : Int) + 1))) rfl) ?_
   refine FL.nil ?_
   obtain rfl := Option.some.inj hp
   exact ⟨rfl, ⟨_, S272, (i155.tr i178), (nat_succ rfl (lt_of_get hx30) (p1.mono ((i27.tr i155).tr i178)).le), k265, k266, k267, k268⟩⟩
 ·
  clear hp hq
  rintro s30 f285 w284 ⟨H281, S282, i283, k286, k287, k288, k289, k290⟩
  refine FW.seq (FW.region ?_)
  refine FL.v (E.lss k286 k290) ?_
  refine FL.nil (FW.seq ?_)
  refine FW.condF rfl dlt_len ?_
  refine FW.exit ?_
  exact ⟨nofun, rfl, ⟨_, S282, i283⟩⟩
 ·
  clear hq
  intro e f280 w279 hD
  rcases q30 with s30 | x30
  ·
   obtain ⟨rfl, hD⟩ := hD
   obtain ⟨H276, S277, i278⟩ := hD
   replace hp := el_go hp
   refine FW.seq (FW.region ?_)
   refine FL.v (E.assign (v := Value.bool true) rfl) ?_
   refine FL.nil ?_
   refine FW.ret ?_
   obtain rfl := Option.some.inj hp
   exact ⟨.inr rfl, res1 rfl rfl ⟨rfl, S277.back⟩⟩
  ·
   obtain ⟨he, hL⟩ := hD
   replace hp := el_rt hp
   obtain rfl := Option.some.inj hp
   subst he
   exact hL

@[reducible] def p_impl_ring_dense (Ha : GH) (wa : World) (r : (List Int)) : Ending → World → Prop :=
  fun e w' => ∃ H' : GH, ∃ v0 : Value, ∃ n0 : Nat, ∃ c0 : List Value, e = .returned (v0) ∧ St Ha wa H' w' [.row 3 1 v0 n0 c0] ∧ Els (up wa.heap.size H') eI 1 c0 r
theorem w_impl_ring_dense {Ha : GH} {wa : World} (hs : Sl Ha wa) (a0 : ring) (v1 : Value) (a1 : List Term) (p1 : RSl Ha eTerm 2 v1 a1) {r : (List Int)} (hp : (PF.impl_ring_dense a0 a1) = some r) :
    Calls Tryz.prog 100 #[Value.agg #[Value.int .i64 a0.p, Value.int .i64 a0.vars], v1] wa (p_impl_ring_dense Ha wa r) := by
  unfold PF.impl_ring_dense at hp
  have S0 := St.init hs
  refine calls_go (N := 33) (args := [Value.agg #[Value.int .i64 a0.p, Value.int .i64 a0.vars], v1]) Tryz.func100 rfl rfl rfl ?_
  refine FW.seq (FW.region ?_)
  obtain ⟨b21, w22, run23, S24⟩ := S0.box (P := Tryz.prog) 102 [Value.int .i64 a0.p, Value.int .i64 a0.vars] (v := Value.agg #[Value.int .i64 a0.p, Value.int .i64 a0.vars]) rfl (ones_cons rfl (ones_cons rfl ones_nil))
  refine FL.v (E.box rfl run23) ?_
  obtain ⟨H25, S26, i27, at28⟩ := S24.sealBox (i := 0) (l' := []) rfl rfl
  refine FL.v (E.assign (v := Value.slice none 0 0) rfl) ?_
  refine FL.nil (FW.seq (FW.region ?_))
  refine FL.v (E.load rfl (run_loadA Tryz.isAgg102 Tryz.sizeOf102 (at28.now S26.sl) rfl)) ?_
  obtain ⟨r29, hr30, hp⟩ := bnd hp
  refine FL.call rfl rfl rfl (E.call Tryz.call165 (A1 rfl)) (w_impl_ring_zero S26.sl a0 hr30) ?_
  rintro e w32 ⟨H31, v35, n36, cs37, rfl, r34, els38⟩
  refine ⟨_, rfl, ?_⟩
  have els38 := els38.mono (up_le S26.size)
  have S33 := S26.join (l' := [.row 3 1 v35 n36 cs37]) r34 rfl
  refine FL.v (E.assign (v := v35) rfl) ?_
  refine FL.nil (FW.seq (FW.seq (FW.region ?_)))
  refine FL.v (E.move (v := v1) rfl) ?_
  refine FL.v (E.lenP te55 rfl p1) ?_
  refine FL.v (E.move (v := Value.int .i64 0) rfl) ?_
  refine FL.nil ?_
  obtain ⟨q40, hq, hp⟩ := bndR hp
  refine FW.block ?_
  refine FW.mono (FW.forL (S := (List Int)) (X := Empty) (fun (i40 : Nat) (s40 : (List Int)) f w => ∃ H : GH, ∃ v41 : Value, ∃ n42 : Nat, ∃ cs43 : List Value, St Ha wa H w [.row 3 1 v41 n42 cs43] ∧ Inc H31 H ∧ Els (up wa.heap.size H) eI 1 cs43 s40 ∧ f 12 = Value.int .i64 ((i40 : Nat) : Int) ∧ f 2 = Value.pointer (some ⟨b21, 0, none⟩) ∧ f 5 = v41 ∧ f 10 = v1 ∧ f 11 = Value.int .i64 (len a1)) (fun (q : Rs (List Int) Empty) e f w => match q with | .go s40 => e = Exit.exit 0 ∧ (∃ H : GH, ∃ v41 : Value, ∃ n42 : Nat, ∃ cs43 : List Value, St Ha wa H w [.row 3 1 v41 n42 cs43] ∧ Inc H31 H ∧ Els (up wa.heap.size H) eI 1 cs43 s40 ∧ f 5 = v41) | .rt x => x.elim) hq ⟨_, _, _, _, S33, (Inc.rfl _), els38, rfl, rfl, rfl, rfl, rfl⟩ ?_ ?_) ?_
  ·
    clear hp hq
    rintro i40 y39 s40 f49 w48 ⟨H45, v41, n42, cs43, S46, i47, els44, k50, k51, k52, k53, k54⟩ hx40 o121 hp
    refine FW.seq (FW.region ?_)
    refine FL.v (E.lssT k50 k54 (lss_len hx40)) ?_
    refine FL.nil (FW.seq ?_)
    refine FW.condT rfl rfl ?_
    refine FW.skip (FW.seq (FW.block (FW.seq (FW.region ?_))))
    obtain ⟨p56, cs57, pt58, l59, at60, rel61⟩ := p1.at (ix_nat hx40)
    obtain rfl := eTerm_open rel61
    refine FL.v (E.indexAddr te55 k53 k50 pt58) ?_
    refine FL.v (E.load rfl (run_loadA Tryz.isAgg108 Tryz.sizeOf108 ((at60.mono ((i27.tr r34.run.inc).tr i47)).now S46.sl) rfl)) ?_
    obtain ⟨b62, w63, run64, S65⟩ := S46.alloc (P := Tryz.prog) 108 [Value.int .i64 0, Value.int .i64 0] Tryz.zeroValue108 rfl (ones_cons rfl (ones_cons rfl ones_nil))
    refine FL.v (E.alloc run64) ?_
    obtain ⟨w66, run67, S68⟩ := S65.store0 (P := Tryz.prog) (t := 108) (i := 0) (cs' := [Value.int .i64 y39.mono, Value.int .i64 y39.coeff]) (l' := [.box b62 108 [Value.int .i64 y39.mono, Value.int .i64 y39.coeff], .row 3 1 v41 n42 cs43]) (v := Value.agg #[Value.int .i64 y39.mono, Value.int .i64 y39.coeff]) (c := [Value.int .i64 y39.mono, Value.int .i64 y39.coeff]) rfl Tryz.sizeOf108 rfl rfl (ones_cons rfl (ones_cons rfl ones_nil)) (Nat.le_of_ble_eq_true rfl) rfl rfl
    refine FL.act rfl rfl (E.store rfl rfl run67) ?_
    obtain ⟨H69, S70, i71, at72⟩ := S68.sealBox (i := 0) (l' := [.row 3 1 v41 n42 cs43]) rfl rfl
    refine FL.nil ?_
    obtain ⟨x82, hx83, hp⟩ := bnd hp
    obtain ⟨u86, z85, hp⟩ := bnd hp
    obtain ⟨x93, hx94, hp⟩ := bnd hp
    obtain ⟨xs100, hput101, hp⟩ := bnd hp
    refine FW.drawB (Sl H69) (fun f w => ∃ H : GH, ∃ v106 : Value, ∃ n107 : Nat, ∃ cs109 : List Value, St Ha wa H w [.row 3 1 v106 n107 cs109] ∧ Inc H69 H ∧ Els (up wa.heap.size H) eI 1 cs109 xs100 ∧ f 2 = Value.pointer (some ⟨b21, 0, none⟩) ∧ f 5 = v106 ∧ f 10 = v1 ∧ f 11 = Value.int .i64 (len a1) ∧ f 12 = Value.int .i64 ((i40 : Nat) : Int)) (by kernel_rfl) S70.sl ?_ ?_
    ·
      intro w73 r74
      have S75 := S70.call r74
      refine FB.t (i := 0) (bs 16 1) rfl (SP.nil S75.sl) rfl (fun w' hw' => (E.move k52)) ?_
      refine FB.t (i := 1) (bs 16 3) rfl (SP.nil S75.sl) rfl (fun w' hw' => (E.fieldAddr tf108_0 rfl)) ?_
      refine FB.t (i := 2) (bs 16 7) rfl (SP.nil S75.sl) rfl (fun w' hw' => (E.load rfl (run_load1 Tryz.isAgg3 (at72.now hw') rfl))) ?_
      refine FB.t (i := 3) (bs 16 15) rfl (SP.nil S75.sl) rfl (fun w' hw' => (E.move k52)) ?_
      refine FB.t (i := 4) (bs 16 31) rfl (SP.nil S75.sl) rfl (fun w' hw' => (E.fieldAddr tf108_0 rfl)) ?_
      refine FB.t (i := 5) (bs 16 63) rfl (SP.nil S75.sl) rfl (fun w' hw' => (E.load rfl (run_load1 Tryz.isAgg3 (at72.now hw') rfl))) ?_
      obtain ⟨p76, cs77, pt78, l79, at80, rel81, hall84⟩ := S75.row_atA (i := 0) rfl els44 (by decide) hx83
      obtain rfl := eI_open rel81
      refine FB.t (i := 6) (bs 16 127) rfl (SP.nil S75.sl) rfl (fun w' hw' => (E.indexAddr te99 rfl rfl pt78)) ?_
      refine FB.phase [15] (fun w' => WAt w' p76 [Value.int .i64 x82]) ?_
      refine FB.p (i := 7) (bs 16 255) 0 [10, 13, 14, 15] rfl (SP.on (hall84 _ _ _ 0 S75 rfl) (SP.nil S75.sl)) rfl rfl (fun w' hw' => (E.load rfl (run_load0 Tryz.isAgg3 hw' rfl))) ?_
      refine FB.t (i := 8) (bs 16 511) rfl (SP.on (hall84 _ _ _ 0 S75 rfl) (SP.nil S75.sl)) rfl (fun w' hw' => (E.fieldAddr tf108_1 rfl)) ?_
      refine FB.t (i := 9) (bs 16 1023) rfl (SP.on (hall84 _ _ _ 0 S75 rfl) (SP.nil S75.sl)) rfl (fun w' hw' => (E.load rfl (run_load1 Tryz.isAgg3 (at72.now hw') rfl))) ?_
      refine FB.t (i := 10) (bs 16 2047) rfl (SP.on (hall84 _ _ _ 0 S75 rfl) (SP.nil S75.sl)) rfl (fun w' hw' => (E.add rfl rfl)) ?_
      refine FB.t (i := 11) (bs 16 4095) rfl (SP.on (hall84 _ _ _ 0 S75 rfl) (SP.nil S75.sl)) rfl (fun w' hw' => (E.fieldAddr tf102_0 k51)) ?_
      refine FB.t (i := 12) (bs 16 8191) rfl (SP.on (hall84 _ _ _ 0 S75 rfl) (SP.nil S75.sl)) rfl (fun w' hw' => (E.load rfl (run_load1 Tryz.isAgg3 ((at28.mono ((r34.run.inc.tr i47).tr i71)).now hw') rfl))) ?_
      refine FB.t (i := 13) (bs 16 16383) rfl (SP.on (hall84 _ _ _ 0 S75 rfl) (SP.nil S75.sl)) rfl (fun w' hw' => (E.rem rfl rfl (nz_ne z85))) ?_
      obtain ⟨p87, cs88, pt89, l90, at91, rel92, hall95⟩ := S75.row_atA (i := 0) rfl els44 (by decide) hx94
      obtain rfl := eI_open rel92
      refine FB.t (i := 14) (bs 16 32767) rfl (SP.on (hall84 _ _ _ 0 S75 rfl) (SP.nil S75.sl)) rfl (fun w' hw' => (E.indexAddr te99 rfl rfl pt89)) ?_
      refine FB.all1 (i := 15) (by kernel_rfl) ?_
      ·
        obtain ⟨w96, cs104, run97, S98, els103, ce105⟩ := S75.putEls (P := Tryz.prog) (t := 3) (i := 0) rfl (els44.mono (up_mono i71)) hput101 pt89 Tryz.sizeOf3 (u := Value.int .i64 ((wr (x82 + y39.coeff)).tmod a0.p)) (c := [Value.int .i64 ((wr (x82 + y39.coeff)).tmod a0.p)]) rfl rfl (ones_cons rfl ones_nil) rfl
        have S98 : St Ha wa H69 w96 [.row 3 1 v41 n42 cs104] := S98
        refine FC.act (l' := (bs 16 65535)) rfl (by kernel_rfl) rfl rfl (E.store rfl rfl run97) ?_
        refine ⟨(SP.o (SP.nil S98.sl)), ?_⟩
        exact FB.done (by kernel_rfl) ⟨_, _, _, _, S98, (Inc.rfl _), els103, k51, k52, k53, k54, k50⟩
    ·
      rintro f115 w114 ⟨H111, v106, n107, cs109, S112, i113, els110, k116, k117, k118, k119, k120⟩
      refine FW.region ?_
      refine FL.v (E.add k120 rfl) ?_
      refine FL.v (E.move (v := Value.int .i64 (wr (((i40 : Nat) : Int) + 1))) rfl) ?_
      refine FL.nil ?_
      obtain rfl := Option.some.inj hp
      exact ⟨rfl, ⟨_, _, _, _, S112, ((i47.tr i71).tr i113), els110, (nat_succ rfl (lt_of_get hx40) (p1.mono ((((i27.tr r34.run.inc).tr i47).tr i71).tr i113)).le), k116, k117, k118, k119⟩⟩
  ·
    clear hp hq
    rintro s40 f132 w131 ⟨H128, v41, n42, cs43, S129, i130, els44, k133, k134, k135, k136, k137⟩
    refine FW.seq (FW.region ?_)
    refine FL.v (E.lss k133 k137) ?_
    refine FL.nil (FW.seq ?_)
    refine FW.condF rfl dlt_len ?_
    refine FW.exit ?_
    exact ⟨nofun, rfl, ⟨_, _, _, _, S129, i130, els44, k135⟩⟩
  ·
    clear hq
    intro e f126 w125 hD
    rcases q40 with s40 | x40
    ·
      obtain ⟨rfl, hD⟩ := hD
      obtain ⟨H122, v41, n42, cs43, S123, i124, els44, k127⟩ := hD
      replace hp := el_go hp
      refine FW.seq (FW.region ?_)
      refine FL.v (E.move k127) ?_
      refine FL.v (E.assign (v := v41) rfl) ?_
      refine FL.nil ?_
      refine FW.ret ?_
      obtain rfl := Option.some.inj hp
      exact ⟨.inr rfl, res1 rfl rfl ⟨_, _, _, _, rfl, S123, els44⟩⟩
    · exact x40.elim

@[reducible] def p_impl_dense_terms (Ha : GH) (wa : World) (r : (List Term)) : Ending → World → Prop :=
  fun e w' => ∃ H' : GH, ∃ v0 : Value, ∃ n0 : Nat, ∃ c0 : List Value, e = .returned (v0) ∧ St Ha wa H' w' [.row 108 2 v0 n0 c0] ∧ Els (up wa.heap.size H') eTerm 2 c0 r
theorem w_impl_dense_terms {Ha : GH} {wa : World} (hs : Sl Ha wa) (v0 : Value) (a0 : List Int) (p0 : RSl Ha eI 1 v0 a0) {r : (List Term)} (hp : (PF.impl_dense_terms a0) = some r) :
    Calls Tryz.prog 69 #[v0] wa (p_impl_dense_terms Ha wa r) := by
  unfold PF.impl_dense_terms at hp
  have S0 := St.init hs
  refine calls_go (N := 23) (args := [v0]) Tryz.func69 rfl rfl rfl ?_
  refine FW.seq (FW.region ?_)
  refine FL.v (E.assign (v := Value.slice none 0 0) rfl) ?_
  refine FL.nil (FW.seq (FW.region ?_))
  refine FL.v (E.assign (v := Value.slice none 0 0) rfl) ?_
  refine FL.nil (FW.seq (FW.seq (FW.region ?_)))
  refine FL.v (E.move (v := v0) rfl) ?_
  refine FL.v (E.lenP te99 rfl p0) ?_
  refine FL.v (E.move (v := Value.int .i64 0) rfl) ?_
  refine FL.nil ?_
  obtain ⟨q22, hq, hp⟩ := bndR hp
  refine FW.block ?_
  refine FW.mono (FW.forL (S := (List Term)) (X := Empty) (fun (i22 : Nat) (s22 : (List Term)) f w => ∃ H : GH, ∃ v23 : Value, ∃ n24 : Nat, ∃ cs25 : List Value, St Ha wa H w [.row 108 2 v23 n24 cs25] ∧ Inc Ha H ∧ Els (up wa.heap.size H) eTerm 2 cs25 s22 ∧ f 8 = Value.int .i64 ((i22 : Nat) : Int) ∧ f 3 = v23 ∧ f 6 = v0 ∧ f 7 = Value.int .i64 (len a0)) (fun (q : Rs (List Term) Empty) e f w => match q with | .go s22 => e = Exit.exit 0 ∧ (∃ H : GH, ∃ v23 : Value, ∃ n24 : Nat, ∃ cs25 : List Value, St Ha wa H w [.row 108 2 v23 n24 cs25] ∧ Inc Ha H ∧ Els (up wa.heap.size H) eTerm 2 cs25 s22 ∧ f 3 = v23) | .rt x => x.elim) hq ⟨_, _, _, _, (S0.nil 108 2), (Inc.rfl _), Els.nil, rfl, rfl, rfl, rfl⟩ ?_ ?_) ?_
  ·
    clear hp hq
    rintro i22 y21 s22 f63 w62 ⟨H59, v23, n24, cs25, S60, i61, els26, k64, k65, k66, k67⟩ hx22 o91 hp
    refine FW.seq (FW.region ?_)
    refine FL.v (E.lssT k64 k67 (lss_len hx22)) ?_
    refine FL.nil (FW.seq ?_)
    refine FW.condT rfl rfl ?_
    refine FW.skip (FW.seq (FW.block (FW.seq (FW.region ?_))))
    refine FL.v (E.move k64) ?_
    obtain ⟨p68, cs69, pt70, l71, at72, rel73⟩ := p0.at (ix_nat hx22)
    obtain rfl := eI_open rel73
    refine FL.v (E.indexAddr te99 k66 k64 pt70) ?_
    refine FL.v (E.load rfl (run_load0 Tryz.isAgg3 ((at72.mono i61).now S60.sl) rfl)) ?_
    refine FL.v (E.assign (v := Value.int .i64 ((i22 : Nat) : Int)) rfl) ?_
    refine FL.v (E.assign (v := Value.int .i64 y21) rfl) ?_
    refine FL.nil (FW.seq (FW.region ?_))
    refine FL.v (E.move (v := Value.int .i64 y21) rfl) ?_
    refine FL.v (E.neq rfl rfl) ?_
    refine FL.nil ?_
    rcases ifB hp with ⟨c74, hp⟩ | ⟨c74, hp⟩
    ·
      refine FW.condT rfl c74 ?_
      refine FW.region ?_
      refine FL.v (E.move k65) ?_
      refine FL.v (E.move (v := Value.int .i64 ((i22 : Nat) : Int)) rfl) ?_
      refine FL.v (E.move (v := Value.int .i64 y21) rfl) ?_
      refine FL.v (E.build (B2 rfl rfl) (run_build _ 108 #[(0, Value.int .i64 ((i22 : Nat) : Int)), (1, Value.int .i64 y21)] #[Value.int .i64 ((i22 : Nat) : Int), Value.int .i64 y21] (by rfl))) ?_
      obtain ⟨v75, w76, run77, S78⟩ := S60.buildSlice (P := Tryz.prog) te55 [Value.agg #[Value.int .i64 ((i22 : Nat) : Int), Value.int .i64 y21]] (parts := #[(0, Value.agg #[Value.int .i64 ((i22 : Nat) : Int), Value.int .i64 y21])]) (cells := [Value.int .i64 ((i22 : Nat) : Int), Value.int .i64 y21]) rfl (szs_cons rfl szs_nil) (fc_cons rfl fc_nil) (ones_cons rfl (ones_cons rfl ones_nil)) (Nat.le_of_ble_eq_true rfl)
      have els79 : Els (up wa.heap.size H59) eTerm 2 [Value.int .i64 ((i22 : Nat) : Int), Value.int .i64 y21] [(Term.mk ((i22 : Nat) : Int) y21)] := (Els.snoc (H := (up wa.heap.size H59)) (E := eTerm) (k := 2) (c := [Value.int .i64 ((i22 : Nat) : Int), Value.int .i64 y21]) (x := (Term.mk ((i22 : Nat) : Int) y21)) Els.nil rfl rfl)
      refine FL.v (E.buildSlice (B1 rfl) run77) ?_
      obtain ⟨xs80, hz81, hp⟩ := bnd hp
      obtain ⟨v82, w85, n83, cs84, run86, S87, els88, ce89⟩ := S78.appendO (P := Tryz.prog) te55 (i := 1) (j := 0) rfl els26 rfl els79 hz81
      have S87 : St Ha wa H59 w85 [.row 108 2 v75 1 [Value.int .i64 ((i22 : Nat) : Int), Value.int .i64 y21], .row 108 2 v82 n83 cs84] := S87
      have S90 : St Ha wa H59 w85 [.row 108 2 v82 n83 cs84] := S87.drop 0
      refine FL.v (E.append rfl rfl run86) ?_
      refine FL.v (E.assign (v := v82) rfl) ?_
      refine FL.nil (FW.region ?_)
      refine FL.v (E.add k64 rfl) ?_
      refine FL.v (E.move (v := Value.int .i64 (wr (((i22 : Nat) : Int) + 1))) rfl) ?_
      refine FL.nil ?_
      obtain rfl := Option.some.inj hp
      exact ⟨rfl, ⟨_, _, _, _, S90, i61, els88, (nat_succ rfl (lt_of_get hx22) (p0.mono i61).le), rfl, k66, k67⟩⟩
    ·
      refine FW.condF rfl c74 ?_
      refine FW.skip (FW.region ?_)
      refine FL.v (E.add k64 rfl) ?_
      refine FL.v (E.move (v := Value.int .i64 (wr (((i22 : Nat) : Int) + 1))) rfl) ?_
      refine FL.nil ?_
      obtain rfl := Option.some.inj hp
      exact ⟨rfl, ⟨_, _, _, _, S60, i61, els26, (nat_succ rfl (lt_of_get hx22) (p0.mono i61).le), k65, k66, k67⟩⟩
  ·
    clear hp hq
    rintro s22 f102 w101 ⟨H98, v23, n24, cs25, S99, i100, els26, k103, k104, k105, k106⟩
    refine FW.seq (FW.region ?_)
    refine FL.v (E.lss k103 k106) ?_
    refine FL.nil (FW.seq ?_)
    refine FW.condF rfl dlt_len ?_
    refine FW.exit ?_
    exact ⟨nofun, rfl, ⟨_, _, _, _, S99, i100, els26, k104⟩⟩
  ·
    clear hq
    intro e f96 w95 hD
    rcases q22 with s22 | x22
    ·
      obtain ⟨rfl, hD⟩ := hD
      obtain ⟨H92, v23, n24, cs25, S93, i94, els26, k97⟩ := hD
      replace hp := el_go hp
      refine FW.seq (FW.region ?_)
      refine FL.v (E.move k97) ?_
      refine FL.v (E.assign (v := v23) rfl) ?_
      refine FL.nil ?_
      refine FW.ret ?_
      obtain rfl := Option.some.inj hp
      exact ⟨.inr rfl, res1 rfl rfl ⟨_, _, _, _, rfl, S93, els26⟩⟩
    · exact x22.elim

@[reducible] def p_impl_RemainderOf (Ha : GH) (wa : World) (r : ((List Term) × Bool)) : Ending → World → Prop :=
  fun e w' => ∃ H' : GH, ∃ v0 : Value, ∃ n0 : Nat, ∃ c0 : List Value, e = .returned (Value.tuple #[v0, Value.bool r.2]) ∧ St Ha wa H' w' [.row 108 2 v0 n0 c0] ∧ Els (up wa.heap.size H') eTerm 2 c0 r.1
set_option maxHeartbeats 4000000 in
theorem w_impl_RemainderOf {Ha : GH} {wa : World} (hs : Sl Ha wa) (a0 : Int) (a1 : Cnf) (v1_1 : Value) (p1_1 : RSl Ha (eL eI 1) 1 v1_1 a1.clauses) (a2 : Int) (v3 : Value) (a3 : List Term) (p3 : RSl Ha eTerm 2 v3 a3) {r : ((List Term) × Bool)} (hp : (PF.impl_RemainderOf a0 a1 a2 a3) = some r) :
    Calls Tryz.prog 34 #[Value.int .i64 a0, Value.agg #[Value.int .i64 a1.vars, v1_1], Value.int .i64 a2, v3] wa (p_impl_RemainderOf Ha wa r) := by
  unfold PF.impl_RemainderOf at hp
  have S0 := St.init hs
  refine calls_go (N := 47) (args := [Value.int .i64 a0, Value.agg #[Value.int .i64 a1.vars, v1_1], Value.int .i64 a2, v3]) Tryz.func34 rfl rfl rfl ?_
  refine FW.seq (FW.region ?_)
  obtain ⟨b21, w22, run23, S24⟩ := S0.box (P := Tryz.prog) 32 [Value.int .i64 a1.vars, v1_1] (v := Value.agg #[Value.int .i64 a1.vars, v1_1]) rfl (ones_cons rfl (ones_cons p1_1.one ones_nil))
  refine FL.v (E.box rfl run23) ?_
  obtain ⟨H25, S26, i27, at28⟩ := S24.sealBox (i := 0) (l' := []) rfl rfl
  refine FL.v (E.assign (v := Value.slice none 0 0) rfl) ?_
  refine FL.v (E.assign (v := Value.bool false) rfl) ?_
  refine FL.nil (FW.seq (FW.region ?_))
  refine FL.v (E.move (v := Value.int .i64 a0) rfl) ?_
  refine FL.v (E.load rfl (run_loadA Tryz.isAgg32 Tryz.sizeOf32 (at28.now S26.sl) rfl)) ?_
  refine FL.v (E.move (v := Value.int .i64 a2) rfl) ?_
  obtain ⟨r29, hr30, hp⟩ := bnd hp
  refine FL.call rfl rfl rfl (E.call Tryz.call97 (A3 rfl rfl rfl)) (w_impl_spanOf S26.sl a0 a1 v1_1 (p1_1.mono i27) a2 hr30) ?_
  rintro e w32 ⟨H31, v35, v37, rfl, r34, h36, h38⟩
  refine ⟨_, rfl, ?_⟩
  have S33 := S26.call r34
  refine FL.v (E.move (v := Value.tuple #[v35, v37, Value.bool r29.2.2]) rfl) ?_
  refine FL.v (E.extract (i := 0) rfl rfl) ?_
  refine FL.v (E.extract (i := 1) rfl rfl) ?_
  refine FL.v (E.extract (i := 2) rfl rfl) ?_
  refine FL.v (E.assign (v := v35) rfl) ?_
  refine FL.v (E.assign (v := v37) rfl) ?_
  refine FL.v (E.assign (v := Value.bool r29.2.2) rfl) ?_
  refine FL.nil (FW.seq (FW.seq (FW.region ?_)))
  refine FL.v (E.move (v := Value.bool r29.2.2) rfl) ?_
  refine FL.v (E.not rfl) ?_
  refine FL.v (E.move (v := Value.bool (!r29.2.2)) rfl) ?_
  obtain ⟨t55, hqt55, hp⟩ := bnd hp
  refine FL.cut 8 (fun f w => ∃ H : GH, St Ha wa H w [] ∧ Inc H31 H ∧ f 3 = v3 ∧ f 10 = v35 ∧ f 11 = v37 ∧ f 33 = Value.bool t55) ?_ ?_
  ·
    clear hp; have hp := hqt55; clear hqt55
    rcases ifB hp with ⟨c61, hp⟩ | ⟨c61, hp⟩
    ·
      refine FL.skip (wF_no rfl rfl rfl c61) rfl ?_
      refine FL.skip (wF_no rfl rfl rfl c61) rfl ?_
      refine FL.skip (wF_no rfl rfl rfl c61) rfl ?_
      refine FL.skip (wF_no rfl rfl rfl c61) rfl ?_
      refine FL.skip (wF_no rfl rfl rfl c61) rfl ?_
      refine FL.skip (wF_no rfl rfl rfl c61) rfl ?_
      refine FL.skip (wF_no rfl rfl rfl c61) rfl ?_
      obtain rfl := Option.some.inj hp
      refine FL.v (E.pickT rfl c61 rfl) ?_
      exact FL.nil ⟨rfl, _, S33, (Inc.rfl _), rfl, rfl, rfl, rfl⟩
    ·
      refine FL.val (wF_yes rfl rfl rfl c61) rfl rfl (E.move (v := v35) rfl) ?_
      obtain ⟨y62, hy63, hp⟩ := bnd hp
      rw [hy63] at h36
      obtain ⟨q64, rfl, v65, v67, h66, ⟨c70, ns69⟩, at72⟩ := h36
      have h68 := ns69.rsl
      have nv71 : New H25 [v67] := New.of_up S26.sl h68.dom
      have h68 := h68.mono (up_le S26.size)
      have ns69 := ns69.mono (up_le S26.size)
      refine FL.val (wF_yes rfl rfl rfl c61) rfl rfl (E.nilCheck rfl) ?_
      refine FL.val (wF_yes rfl rfl rfl c61) rfl rfl (E.fieldAddr tf105_0 rfl) ?_
      refine FL.val (wF_yes rfl rfl rfl c61) rfl rfl (E.load rfl (run_loadA Tryz.isAgg102 Tryz.sizeOf102 ((at72.now S33.sl).sub (j := 0) (n := 2) (c := [Value.int .i64 y62.ring.p, Value.int .i64 y62.ring.vars]) rfl) rfl)) ?_
      refine FL.val (wF_yes rfl rfl rfl c61) rfl rfl (E.move (v := v3) rfl) ?_
      obtain ⟨r73, hr74, hp⟩ := bnd hp
      refine FL.call (wF_yes rfl rfl rfl c61) rfl rfl (E.call Tryz.call98 (A2 rfl rfl)) (w_impl_ring_is S33.sl y62.ring v3 a3 (p3.mono (i27.tr r34.inc)) hr74) ?_
      rintro e w75 ⟨rfl, r76⟩
      refine ⟨_, rfl, ?_⟩
      have S77 := S33.call r76
      refine FL.val (wF_yes rfl rfl rfl c61) rfl rfl (E.not rfl) ?_
      obtain rfl := Option.some.inj hp
      refine FL.v (E.pickF rfl c61 rfl) ?_
      exact FL.nil ⟨rfl, _, S77, (Inc.rfl _), rfl, rfl, rfl, rfl⟩
  rintro f60 w59 ⟨H56, S57, i58, k78, k79, k80, k81⟩
  refine FL.nil ?_
  rcases ifB hp with ⟨c82, hp⟩ | ⟨c82, hp⟩
  ·
    refine FW.condT k81 c82 ?_
    refine FW.seq (FW.region ?_)
    refine FL.v (E.assign (v := Value.slice none 0 0) rfl) ?_
    refine FL.v (E.assign (v := Value.bool false) rfl) ?_
    refine FL.nil ?_
    refine FW.ret ?_
    obtain rfl := Option.some.inj hp
    exact ⟨.inr rfl, res2 rfl rfl rfl ⟨_, _, _, _, rfl, (S57.nil 108 2), Els.nil⟩⟩
  ·
    refine FW.condF k81 c82 ?_
    refine FW.skip (FW.seq ?_)
    obtain ⟨y83, hy84, hp⟩ := bnd hp
    rw [hy84] at h36
    obtain ⟨q85, rfl, v86, v88, h87, ⟨c91, ns90⟩, at93⟩ := h36
    have h89 := ns90.rsl
    have nv92 : New H25 [v88] := New.of_up S26.sl h89.dom
    have h89 := h89.mono (up_le S26.size)
    have ns90 := ns90.mono (up_le S26.size)
    obtain ⟨y94, hy95, hp⟩ := bnd hp
    rw [hy95] at h38
    obtain ⟨q96, rfl, v97, v99, h98, h100, at102⟩ := h38
    have nv101 : New H25 [v99] := New.of_up S26.sl h100.dom
    have h100 := h100.mono (up_le S26.size)
    refine FW.region ?_
    refine FL.v (E.move k80) ?_
    refine FL.v (E.move k79) ?_
    refine FL.v (E.nilCheck rfl) ?_
    refine FL.v (E.fieldAddr tf105_0 rfl) ?_
    refine FL.v (E.load rfl (run_loadA Tryz.isAgg102 Tryz.sizeOf102 (((at93.mono i58).now S57.sl).sub (j := 0) (n := 2) (c := [Value.int .i64 y83.ring.p, Value.int .i64 y83.ring.vars]) rfl) rfl)) ?_
    refine FL.v (E.move k78) ?_
    obtain ⟨r103, hr104, hp⟩ := bnd hp
    refine FL.call rfl rfl rfl (E.call Tryz.call100 (A2 rfl rfl)) (w_impl_ring_dense S57.sl y83.ring v3 a3 (p3.mono ((i27.tr r34.inc).tr i58)) hr104) ?_
    rintro e w106 ⟨H105, v109, n110, cs111, rfl, r108, els112⟩
    refine ⟨_, rfl, ?_⟩
    have els112 := els112.mono (up_le S57.size)
    have S107 := S57.join (l' := [.row 3 1 v109 n110 cs111]) r108 rfl
    obtain ⟨H39, S40, i41, h42, nv43⟩ := S107.sealRowU (i := 0) (l' := []) rfl els112 (by decide) rfl
    obtain ⟨s44, hq44, hp⟩ := bnd hp
    obtain ⟨R44, hR44⟩ : ∃ R44 : ((List Int) × (List Int)) → Ending → World → Prop, R44 = (fun s44 e w => ∃ H : GH, ∃ v45 : Value, ∃ n46 : Nat, ∃ cs47 : List Value, ∃ v49 : Value, e = Ending.returned (Value.tuple #[v49, v45]) ∧ St Ha wa H w [.row 3 1 v45 n46 cs47] ∧ Inc H39 H ∧ Els (up wa.heap.size H) eI 1 cs47 s44.1 ∧ RSl (up wa.heap.size H) eI 1 v49 s44.2) := ⟨_, rfl⟩
    have hc44 : Calls Tryz.prog 99 #[Value.pointer (some q96), v109] w106 (R44 s44) := by
      clear hp; have hp := hq44; clear hq44
      refine calls_go (N := 82) (args := [Value.pointer (some q96), v109]) Tryz.func99 rfl rfl rfl ?_
      refine FW.seq (FW.region ?_)
      refine FL.v (E.assign (v := Value.slice none 0 0) rfl) ?_
      refine FL.v (E.assign (v := Value.slice none 0 0) rfl) ?_
      refine FL.nil (FW.seq (FW.region ?_))
      refine FL.v (E.move (v := Value.pointer (some q96)) rfl) ?_
      refine FL.v (E.nilCheck rfl) ?_
      refine FL.v (E.fieldAddr tf148_3 rfl) ?_
      refine FL.v (E.load rfl (run_load1 Tryz.isAgg3 ((at102.mono ((i58.tr r108.run.inc).tr i41)).now S40.sl) rfl)) ?_
      obtain ⟨xs51, hm52, hp⟩ := bnd hp
      obtain ⟨v53, w54, n116, cs117, run113, S114, els115, hbl118⟩ := S40.makeEls (P := Tryz.prog) te99 (G := (up wa.heap.size H39)) (En := eI) (x0 := (0 : Int)) hm52 rfl (ones_cons rfl ones_nil) .i64 .i64
      refine FL.v (E.makeSlice rfl rfl run113) ?_
      refine FL.v (E.assign (v := v53) rfl) ?_
      refine FL.nil (FW.seq (FW.seq (FW.region ?_)))
      refine FL.v (E.move (v := Value.pointer (some q96)) rfl) ?_
      refine FL.v (E.nilCheck rfl) ?_
      refine FL.v (E.fieldAddr tf148_1 rfl) ?_
      refine FL.v (E.load rfl (run_load1 Tryz.isAgg103 ((at102.mono ((i58.tr r108.run.inc).tr i41)).now S114.sl) rfl)) ?_
      refine FL.v (E.lenP te103 rfl h98) ?_
      refine FL.v (E.move (v := Value.int .i64 0) rfl) ?_
      refine FL.nil ?_
      obtain ⟨q120, hq, hp⟩ := bndR hp
      refine FW.block ?_
      refine FW.mono (FW.forL (S := ((List Int) × (List Int))) (X := Empty) (fun (i120 : Nat) (s120 : ((List Int) × (List Int))) f w => ∃ H : GH, ∃ v121 : Value, ∃ n122 : Nat, ∃ cs123 : List Value, ∃ v125 : Value, St Ha wa H w [.row 3 1 v121 n122 cs123] ∧ Inc H39 H ∧ Els (up wa.heap.size H) eI 1 cs123 s120.1 ∧ RSl (up wa.heap.size H) eI 1 v125 s120.2 ∧ f 22 = Value.int .i64 ((i120 : Nat) : Int) ∧ f 0 = Value.pointer (some q96) ∧ f 1 = v125 ∧ f 6 = v121 ∧ f 20 = v97 ∧ f 21 = Value.int .i64 (len y94.rows)) (fun (q : Rs ((List Int) × (List Int)) Empty) e f w => match q with | .go s120 => e = Exit.exit 0 ∧ (∃ H : GH, ∃ v121 : Value, ∃ n122 : Nat, ∃ cs123 : List Value, ∃ v125 : Value, St Ha wa H w [.row 3 1 v121 n122 cs123] ∧ Inc H39 H ∧ Els (up wa.heap.size H) eI 1 cs123 s120.1 ∧ RSl (up wa.heap.size H) eI 1 v125 s120.2 ∧ f 1 = v125 ∧ f 6 = v121) | .rt x => x.elim) hq ⟨_, _, _, _, _, S114, (Inc.rfl _), els115, h42, rfl, rfl, rfl, rfl, rfl, rfl⟩ ?_ ?_) ?_
      ·
        clear hp hq
        rintro i120 y119 s120 f131 w130 ⟨H127, v121, n122, cs123, v125, S128, i129, els124, h126, k132, k133, k134, k135, k136, k137⟩ hx120 o310 hp
        refine FW.seq (FW.region ?_)
        refine FL.v (E.lssT k132 k137 (lss_len hx120)) ?_
        refine FL.nil (FW.seq ?_)
        refine FW.condT rfl rfl ?_
        refine FW.skip (FW.seq (FW.block (FW.seq (FW.region ?_))))
        refine FL.v (E.move k132) ?_
        obtain ⟨p138, cs139, pt140, l141, at142, rel143⟩ := h98.at (ix_nat hx120)
        obtain ⟨v144, rfl, h145⟩ := eL_open rel143
        refine FL.v (E.indexAddr te103 k136 k132 pt140) ?_
        refine FL.v (E.load rfl (run_load0 Tryz.isAgg99 ((at142.mono (((i58.tr r108.run.inc).tr i41).tr i129)).now S128.sl) rfl)) ?_
        refine FL.v (E.assign (v := Value.int .i64 ((i120 : Nat) : Int)) rfl) ?_
        refine FL.v (E.assign (v := v144) rfl) ?_
        refine FL.nil (FW.seq (FW.region ?_))
        refine FL.v (E.move k134) ?_
        refine FL.v (E.move (v := v144) rfl) ?_
        obtain ⟨r146, hr147, hp⟩ := bnd hp
        refine FL.call rfl rfl rfl (E.call Tryz.call163 (A1 rfl)) (w_impl_leading S128.sl v144 y119 (h145.mono (((i58.tr r108.run.inc).tr i41).tr i129)) hr147) ?_
        rintro e w149 ⟨rfl, r150⟩
        refine ⟨_, rfl, ?_⟩
        have S151 := S128.call r150
        obtain ⟨x158, hx159, hp⟩ := bnd hp
        obtain ⟨p152, cs153, pt154, l155, at156, rel157⟩ := h126.at hx159
        obtain rfl := eI_open rel157
        refine FL.v (E.indexAddr te99 rfl rfl pt154) ?_
        refine FL.v (E.load rfl (run_load0 Tryz.isAgg3 ((at156.mono upI).now S151.sl) rfl)) ?_
        refine FL.v (E.assign (v := Value.int .i64 x158) rfl) ?_
        refine FL.nil (FW.seq (FW.region ?_))
        refine FL.v (E.move (v := Value.int .i64 x158) rfl) ?_
        refine FL.v (E.neq rfl rfl) ?_
        refine FL.nil ?_
        rcases ifB hp with ⟨c160, hp⟩ | ⟨c160, hp⟩
        ·
          refine FW.condT rfl c160 ?_
          refine FW.seq ?_
          obtain ⟨r164, hr165, hp⟩ := bnd hp
          refine FW.drawB (Sl H127) (fun f w => ∃ H : GH, ∃ v174 : Value, ∃ n175 : Nat, ∃ cs176 : List Value, St Ha wa H w [.row 3 1 v121 n122 cs123, .row 3 1 v174 n175 cs176] ∧ Inc H127 H ∧ Els (up wa.heap.size H) eI 1 cs176 r164 ∧ f 0 = Value.pointer (some q96) ∧ f 1 = v174 ∧ f 6 = v121 ∧ f 7 = Value.int .i64 ((i120 : Nat) : Int) ∧ f 9 = Value.int .i64 x158 ∧ f 20 = v97 ∧ f 21 = Value.int .i64 (len y94.rows) ∧ f 22 = Value.int .i64 ((i120 : Nat) : Int)) (by kernel_rfl) S151.sl ?_ ?_
          ·
            intro w161 r162
            have S163 := S151.call r162
            refine FB.t (i := 0) (bs 15 1) rfl (SP.nil S163.sl) rfl (fun w' hw' => (E.move k133)) ?_
            refine FB.t (i := 1) (bs 15 3) rfl (SP.nil S163.sl) rfl (fun w' hw' => (E.nilCheck rfl)) ?_
            refine FB.t (i := 2) (bs 15 7) rfl (SP.nil S163.sl) rfl (fun w' hw' => (E.fieldAddr tf148_0 rfl)) ?_
            refine FB.t (i := 3) (bs 15 15) rfl (SP.nil S163.sl) rfl (fun w' hw' => (E.load rfl (run_loadA Tryz.isAgg102 Tryz.sizeOf102 (((at102.mono (((i58.tr r108.run.inc).tr i41).tr i129)).now hw').sub (j := 0) (n := 2) (c := [Value.int .i64 y94.ring.p, Value.int .i64 y94.ring.vars]) rfl) rfl))) ?_
            refine FB.t (i := 4) (bs 15 31) rfl (SP.nil S163.sl) rfl (fun w' hw' => (E.move k134)) ?_
            refine FB.t (i := 5) (bs 15 63) rfl (SP.nil S163.sl) rfl (fun w' hw' => (E.move (v := v144) rfl)) ?_
            refine FB.t (i := 6) (bs 15 127) rfl (SP.nil S163.sl) rfl (fun w' hw' => (E.move k133)) ?_
            refine FB.t (i := 7) (bs 15 255) rfl (SP.nil S163.sl) rfl (fun w' hw' => (E.nilCheck rfl)) ?_
            refine FB.t (i := 8) (bs 15 511) rfl (SP.nil S163.sl) rfl (fun w' hw' => (E.fieldAddr tf148_0 rfl)) ?_
            refine FB.t (i := 9) (bs 15 1023) rfl (SP.nil S163.sl) rfl (fun w' hw' => (E.fieldAddrN tf102_0 rfl rfl)) ?_
            refine FB.t (i := 10) (bs 15 2047) rfl (SP.nil S163.sl) rfl (fun w' hw' => (E.load rfl (run_load1 Tryz.isAgg3 ((at102.mono (((i58.tr r108.run.inc).tr i41).tr i129)).now hw') rfl))) ?_
            refine FB.t (i := 11) (bs 15 4095) rfl (SP.nil S163.sl) rfl (fun w' hw' => (E.move (v := Value.int .i64 x158) rfl)) ?_
            refine FB.t (i := 12) (bs 15 8191) rfl (SP.nil S163.sl) rfl (fun w' hw' => (E.sub rfl rfl)) ?_
            refine FB.all1 (i := 13) (by kernel_rfl) ?_
            ·
              refine FC.call (l' := (bs 15 16383)) rfl (by kernel_rfl) rfl rfl rfl (E.call Tryz.call164 (A4 rfl rfl rfl rfl)) (w_impl_ring_plus S163.sl y94.ring v125 s120.2 (h126.mono upI) v144 y119 (h145.mono (((i58.tr r108.run.inc).tr i41).tr i129)) (wr (y94.ring.p - x158)) hr165) ?_
              rintro e w167 ⟨H166, v170, n171, cs172, rfl, r169, els173⟩
              refine ⟨_, rfl, ?_⟩
              have els173 := els173.mono (up_le S163.size)
              have S168 := S163.join (l' := [.row 3 1 v170 n171 cs172, .row 3 1 v121 n122 cs123]) r169 rfl
              refine ⟨(SP.nil (Sl.of_inc r169.run.inc S168.sl)), ?_⟩
              refine FB.t (i := 14) (bs 15 32767) rfl (SP.nil (Sl.of_inc r169.run.inc S168.sl)) rfl (fun w' hw' => (E.assign (v := v170) rfl)) ?_
              exact FB.done (by kernel_rfl) ⟨_, _, _, _, (S168.sel [1, 0] (by decide) rfl), r169.run.inc, els173, k133, rfl, k135, rfl, rfl, k136, k137, k132⟩
          ·
            rintro f182 w181 ⟨H178, v174, n175, cs176, S179, i180, els177, k183, k184, k185, k186, k187, k188, k189, k190⟩
            refine FW.seq (FW.region ?_)
            refine FL.v (E.move k183) ?_
            refine FL.v (E.nilCheck rfl) ?_
            refine FL.v (E.fieldAddr tf148_2 rfl) ?_
            refine FL.v (E.load rfl (run_load1 Tryz.isAgg103 ((at102.mono ((((i58.tr r108.run.inc).tr i41).tr i129).tr i180)).now S179.sl) rfl)) ?_
            refine FL.v (E.move k186) ?_
            obtain ⟨x197, hx198, hp⟩ := bnd hp
            obtain ⟨p191, cs192, pt193, l194, at195, rel196⟩ := h100.at hx198
            obtain ⟨v199, rfl, h200⟩ := eL_open rel196
            refine FL.v (E.indexAddr te103 rfl rfl pt193) ?_
            refine FL.v (E.load rfl (run_load0 Tryz.isAgg99 ((at195.mono (upI.tr ((((i58.tr r108.run.inc).tr i41).tr i129).tr i180))).now S179.sl) rfl)) ?_
            refine FL.v (E.lenP te99 rfl h200) ?_
            refine FL.v (E.move (v := Value.int .i64 0) rfl) ?_
            refine FL.nil ?_
            obtain ⟨q202, hq, hp⟩ := bndR hp
            refine FW.block ?_
            refine FW.mono (FW.forL (S := (List Int)) (X := Empty) (fun (i202 : Nat) (s202 : (List Int)) f w => ∃ H : GH, ∃ v203 : Value, ∃ n204 : Nat, ∃ cs205 : List Value, St Ha wa H w [.row 3 1 v203 n204 cs205, .row 3 1 v174 n175 cs176] ∧ Inc H178 H ∧ Els (up wa.heap.size H) eI 1 cs205 s202 ∧ f 56 = Value.int .i64 ((i202 : Nat) : Int) ∧ f 0 = Value.pointer (some q96) ∧ f 1 = v174 ∧ f 6 = v203 ∧ f 9 = Value.int .i64 x158 ∧ f 20 = v97 ∧ f 21 = Value.int .i64 (len y94.rows) ∧ f 22 = Value.int .i64 ((i120 : Nat) : Int) ∧ f 54 = v199 ∧ f 55 = Value.int .i64 (len x197)) (fun (q : Rs (List Int) Empty) e f w => match q with | .go s202 => e = Exit.exit 2 ∧ (∃ H : GH, ∃ v203 : Value, ∃ n204 : Nat, ∃ cs205 : List Value, St Ha wa H w [.row 3 1 v203 n204 cs205, .row 3 1 v174 n175 cs176] ∧ Inc H178 H ∧ Els (up wa.heap.size H) eI 1 cs205 s202 ∧ f 0 = Value.pointer (some q96) ∧ f 1 = v174 ∧ f 6 = v203 ∧ f 20 = v97 ∧ f 21 = Value.int .i64 (len y94.rows) ∧ f 22 = Value.int .i64 ((i120 : Nat) : Int)) | .rt x => x.elim) hq ⟨_, _, _, _, S179, (Inc.rfl _), (els124.mono (up_mono i180)), rfl, k183, k184, k185, k187, k188, k189, k190, rfl, rfl⟩ ?_ ?_) ?_
            ·
              clear hp hq
              rintro i202 y201 s202 f211 w210 ⟨H207, v203, n204, cs205, S208, i209, els206, k212, k213, k214, k215, k216, k217, k218, k219, k220, k221⟩ hx202 o278 hp
              refine FW.seq (FW.region ?_)
              refine FL.v (E.lssT k212 k221 (lss_len hx202)) ?_
              refine FL.nil (FW.seq ?_)
              refine FW.condT rfl rfl ?_
              refine FW.skip (FW.seq (FW.block (FW.seq (FW.region ?_))))
              refine FL.v (E.move k212) ?_
              obtain ⟨p222, cs223, pt224, l225, at226, rel227⟩ := h200.at (ix_nat hx202)
              obtain rfl := eI_open rel227
              refine FL.v (E.indexAddr te99 k220 k212 pt224) ?_
              refine FL.v (E.load rfl (run_load0 Tryz.isAgg3 ((at226.mono (upI.tr (((((i58.tr r108.run.inc).tr i41).tr i129).tr i180).tr i209))).now S208.sl) rfl)) ?_
              refine FL.v (E.assign (v := Value.int .i64 ((i202 : Nat) : Int)) rfl) ?_
              refine FL.v (E.assign (v := Value.int .i64 y201) rfl) ?_
              refine FL.nil ?_
              obtain ⟨x237, hx238, hp⟩ := bnd hp
              obtain ⟨u241, z240, hp⟩ := bnd hp
              obtain ⟨x248, hx249, hp⟩ := bnd hp
              obtain ⟨xs254, hput255, hp⟩ := bnd hp
              refine FW.drawB (Sl H207) (fun f w => ∃ H : GH, ∃ v259 : Value, ∃ n260 : Nat, ∃ cs261 : List Value, St Ha wa H w [.row 3 1 v259 n260 cs261, .row 3 1 v174 n175 cs176] ∧ Inc H207 H ∧ Els (up wa.heap.size H) eI 1 cs261 xs254 ∧ f 0 = Value.pointer (some q96) ∧ f 1 = v174 ∧ f 6 = v259 ∧ f 9 = Value.int .i64 x158 ∧ f 20 = v97 ∧ f 21 = Value.int .i64 (len y94.rows) ∧ f 22 = Value.int .i64 ((i120 : Nat) : Int) ∧ f 54 = v199 ∧ f 55 = Value.int .i64 (len x197) ∧ f 56 = Value.int .i64 ((i202 : Nat) : Int)) (by kernel_rfl) S208.sl ?_ ?_
              ·
                intro w228 r229
                have S230 := S208.call r229
                refine FB.t (i := 0) (bs 18 1) rfl (SP.nil S230.sl) rfl (fun w' hw' => (E.move k215)) ?_
                refine FB.t (i := 1) (bs 18 3) rfl (SP.nil S230.sl) rfl (fun w' hw' => (E.move (v := Value.int .i64 ((i202 : Nat) : Int)) rfl)) ?_
                refine FB.t (i := 2) (bs 18 7) rfl (SP.nil S230.sl) rfl (fun w' hw' => (E.move k215)) ?_
                refine FB.t (i := 3) (bs 18 15) rfl (SP.nil S230.sl) rfl (fun w' hw' => (E.move (v := Value.int .i64 ((i202 : Nat) : Int)) rfl)) ?_
                obtain ⟨p231, cs232, pt233, l234, at235, rel236, hall239⟩ := S230.row_atA (i := 0) rfl els206 (by decide) hx238
                obtain rfl := eI_open rel236
                refine FB.t (i := 4) (bs 18 31) rfl (SP.nil S230.sl) rfl (fun w' hw' => (E.indexAddr te99 rfl rfl pt233)) ?_
                refine FB.phase [17] (fun w' => WAt w' p231 [Value.int .i64 x237]) ?_
                refine FB.p (i := 5) (bs 18 63) 0 [9, 15, 16, 17] rfl (SP.on (hall239 _ _ _ 0 S230 rfl) (SP.nil S230.sl)) rfl rfl (fun w' hw' => (E.load rfl (run_load0 Tryz.isAgg3 hw' rfl))) ?_
                refine FB.t (i := 6) (bs 18 127) rfl (SP.on (hall239 _ _ _ 0 S230 rfl) (SP.nil S230.sl)) rfl (fun w' hw' => (E.move k216)) ?_
                refine FB.t (i := 7) (bs 18 255) rfl (SP.on (hall239 _ _ _ 0 S230 rfl) (SP.nil S230.sl)) rfl (fun w' hw' => (E.move (v := Value.int .i64 y201) rfl)) ?_
                refine FB.t (i := 8) (bs 18 511) rfl (SP.on (hall239 _ _ _ 0 S230 rfl) (SP.nil S230.sl)) rfl (fun w' hw' => (E.mul rfl rfl)) ?_
                refine FB.t (i := 9) (bs 18 1023) rfl (SP.on (hall239 _ _ _ 0 S230 rfl) (SP.nil S230.sl)) rfl (fun w' hw' => (E.add rfl rfl)) ?_
                refine FB.t (i := 10) (bs 18 2047) rfl (SP.on (hall239 _ _ _ 0 S230 rfl) (SP.nil S230.sl)) rfl (fun w' hw' => (E.move k213)) ?_
                refine FB.t (i := 11) (bs 18 4095) rfl (SP.on (hall239 _ _ _ 0 S230 rfl) (SP.nil S230.sl)) rfl (fun w' hw' => (E.nilCheck rfl)) ?_
                refine FB.t (i := 12) (bs 18 8191) rfl (SP.on (hall239 _ _ _ 0 S230 rfl) (SP.nil S230.sl)) rfl (fun w' hw' => (E.fieldAddr tf148_0 rfl)) ?_
                refine FB.t (i := 13) (bs 18 16383) rfl (SP.on (hall239 _ _ _ 0 S230 rfl) (SP.nil S230.sl)) rfl (fun w' hw' => (E.fieldAddrN tf102_0 rfl rfl)) ?_
                refine FB.t (i := 14) (bs 18 32767) rfl (SP.on (hall239 _ _ _ 0 S230 rfl) (SP.nil S230.sl)) rfl (fun w' hw' => (E.load rfl (run_load1 Tryz.isAgg3 ((at102.mono (((((i58.tr r108.run.inc).tr i41).tr i129).tr i180).tr i209)).now hw') rfl))) ?_
                refine FB.t (i := 15) (bs 18 65535) rfl (SP.on (hall239 _ _ _ 0 S230 rfl) (SP.nil S230.sl)) rfl (fun w' hw' => (E.rem rfl rfl (nz_ne z240))) ?_
                obtain ⟨p242, cs243, pt244, l245, at246, rel247, hall250⟩ := S230.row_atA (i := 0) rfl els206 (by decide) hx249
                obtain rfl := eI_open rel247
                refine FB.t (i := 16) (bs 18 131071) rfl (SP.on (hall239 _ _ _ 0 S230 rfl) (SP.nil S230.sl)) rfl (fun w' hw' => (E.indexAddr te99 rfl rfl pt244)) ?_
                refine FB.all1 (i := 17) (by kernel_rfl) ?_
                ·
                  obtain ⟨w251, cs257, run252, S253, els256, ce258⟩ := S230.putEls (P := Tryz.prog) (t := 3) (i := 0) rfl els206 hput255 pt244 Tryz.sizeOf3 (u := Value.int .i64 ((wr (x237 + (wr (x158 * y201)))).tmod y94.ring.p)) (c := [Value.int .i64 ((wr (x237 + (wr (x158 * y201)))).tmod y94.ring.p)]) rfl rfl (ones_cons rfl ones_nil) rfl
                  have S253 : St Ha wa H207 w251 [.row 3 1 v203 n204 cs257, .row 3 1 v174 n175 cs176] := S253
                  refine FC.act (l' := (bs 18 262143)) rfl (by kernel_rfl) rfl rfl (E.store rfl rfl run252) ?_
                  refine ⟨(SP.o (SP.nil S253.sl)), ?_⟩
                  exact FB.done (by kernel_rfl) ⟨_, _, _, _, S253, (Inc.rfl _), els256, k213, k214, k215, k216, k217, k218, k219, k220, k221, k212⟩
              ·
                rintro f267 w266 ⟨H263, v259, n260, cs261, S264, i265, els262, k268, k269, k270, k271, k272, k273, k274, k275, k276, k277⟩
                refine FW.region ?_
                refine FL.v (E.add k277 rfl) ?_
                refine FL.v (E.move (v := Value.int .i64 (wr (((i202 : Nat) : Int) + 1))) rfl) ?_
                refine FL.nil ?_
                obtain rfl := Option.some.inj hp
                exact ⟨rfl, ⟨_, _, _, _, S264, (i209.tr i265), els262, (nat_succ rfl (lt_of_get hx202) (h200.mono (upI.tr ((((((i58.tr r108.run.inc).tr i41).tr i129).tr i180).tr i209).tr i265))).le), k268, k269, k270, k271, k272, k273, k274, k275, k276⟩⟩
            ·
              clear hp hq
              rintro s202 f299 w298 ⟨H295, v203, n204, cs205, S296, i297, els206, k300, k301, k302, k303, k304, k305, k306, k307, k308, k309⟩
              refine FW.seq (FW.region ?_)
              refine FL.v (E.lss k300 k309) ?_
              refine FL.nil (FW.seq ?_)
              refine FW.condF rfl dlt_len ?_
              refine FW.exit ?_
              exact ⟨nofun, rfl, ⟨_, _, _, _, S296, i297, els206, k301, k302, k303, k305, k306, k307⟩⟩
            ·
              clear hq
              intro e f283 w282 hD
              rcases q202 with s202 | x202
              ·
                obtain ⟨rfl, hD⟩ := hD
                obtain ⟨H279, v203, n204, cs205, S280, i281, els206, k284, k285, k286, k287, k288, k289⟩ := hD
                replace hp := el_go hp
                refine FW.region ?_
                refine FL.v (E.add k289 rfl) ?_
                refine FL.v (E.move (v := Value.int .i64 (wr (((i120 : Nat) : Int) + 1))) rfl) ?_
                refine FL.nil ?_
                obtain ⟨H290, S291, i292, h293, nv294⟩ := S280.sealRowU (i := 1) (l' := [.row 3 1 v203 n204 cs205]) rfl (els177.mono (up_mono i281)) (by decide) rfl
                obtain rfl := Option.some.inj hp
                exact ⟨rfl, ⟨_, _, _, _, _, S291, (((i129.tr i180).tr i281).tr i292), (els206.mono (up_mono i292)), h293, (nat_succ rfl (lt_of_get hx120) (h98.mono ((((((i58.tr r108.run.inc).tr i41).tr i129).tr i180).tr i281).tr i292)).le), k284, k285, k286, k287, k288⟩⟩
              · exact x202.elim
        ·
          refine FW.condF rfl c160 ?_
          refine FW.skip (FW.region ?_)
          refine FL.v (E.add k132 rfl) ?_
          refine FL.v (E.move (v := Value.int .i64 (wr (((i120 : Nat) : Int) + 1))) rfl) ?_
          refine FL.nil ?_
          obtain rfl := Option.some.inj hp
          exact ⟨rfl, ⟨_, _, _, _, _, S151, i129, els124, h126, (nat_succ rfl (lt_of_get hx120) (h98.mono (((i58.tr r108.run.inc).tr i41).tr i129)).le), k133, k134, k135, k136, k137⟩⟩
      ·
        clear hp hq
        rintro s120 f322 w321 ⟨H318, v121, n122, cs123, v125, S319, i320, els124, h126, k323, k324, k325, k326, k327, k328⟩
        refine FW.seq (FW.region ?_)
        refine FL.v (E.lss k323 k328) ?_
        refine FL.nil (FW.seq ?_)
        refine FW.condF rfl dlt_len ?_
        refine FW.exit ?_
        exact ⟨nofun, rfl, ⟨_, _, _, _, _, S319, i320, els124, h126, k325, k326⟩⟩
      ·
        clear hq
        intro e f315 w314 hD
        rcases q120 with s120 | x120
        ·
          obtain ⟨rfl, hD⟩ := hD
          obtain ⟨H311, v121, n122, cs123, v125, S312, i313, els124, h126, k316, k317⟩ := hD
          replace hp := el_go hp
          refine FW.seq (FW.region ?_)
          refine FL.v (E.move k316) ?_
          refine FL.v (E.move k317) ?_
          refine FL.v (E.assign (v := v125) rfl) ?_
          refine FL.v (E.assign (v := v121) rfl) ?_
          refine FL.nil ?_
          refine FW.ret ?_
          obtain rfl := Option.some.inj hp
          exact ⟨.inr rfl, res2 rfl rfl rfl (by rw [hR44]; exact ⟨_, _, _, _, _, rfl, S312, i313, els124, h126⟩)⟩
        · exact x120.elim
    clear hq44
    refine FL.call rfl rfl rfl (E.call Tryz.call99 (A2 rfl rfl)) hc44 ?_
    intro e w332 hQ44
    rw [hR44] at hQ44
    obtain ⟨H329, v45, n46, cs47, v49, rfl, S330, i331, els48, h50⟩ := hQ44
    refine ⟨_, rfl, ?_⟩
    refine FL.v (E.move (v := Value.tuple #[v49, v45]) rfl) ?_
    refine FL.v (E.extract (i := 0) rfl rfl) ?_
    refine FL.v (E.extract (i := 1) rfl rfl) ?_
    refine FL.v (E.assign (v := v49) rfl) ?_
    refine FL.v (E.assign (v := v45) rfl) ?_
    refine FL.nil (FW.seq (FW.region ?_))
    refine FL.v (E.move (v := v49) rfl) ?_
    obtain ⟨r333, hr334, hp⟩ := bnd hp
    refine FL.call rfl rfl rfl (E.call Tryz.call69 (A1 rfl)) (w_impl_dense_terms S330.sl v49 s44.2 (h50.mono upI) hr334) ?_
    rintro e w336 ⟨H335, v339, n340, cs341, rfl, r338, els342⟩
    refine ⟨_, rfl, ?_⟩
    have els342 := els342.mono (up_le S330.size)
    have S337 := S330.join (l' := [.row 108 2 v339 n340 cs341, .row 3 1 v45 n46 cs47]) r338 rfl
    refine FL.v (E.assign (v := v339) rfl) ?_
    refine FL.v (E.assign (v := Value.bool true) rfl) ?_
    refine FL.nil ?_
    refine FW.ret ?_
    obtain rfl := Option.some.inj hp
    exact ⟨.inr rfl, res2 rfl rfl rfl ⟨_, _, _, _, rfl, (S337.sel [0] (by decide) rfl), els342⟩⟩

theorem w_impl_IsInPcSpan {Ha : GH} {wa : World} (hs : Sl Ha wa) (a0 : Int) (a1 : Cnf) (v1_1 : Value) (p1_1 : RSl Ha (eL eI 1) 1 v1_1 a1.clauses) (a2 : Int) (v3 : Value) (a3 : List Term) (p3 : RSl Ha eTerm 2 v3 a3) {r : (Bool × Bool)} (hp : (PF.impl_IsInPcSpan a0 a1 a2 a3) = some r) :
  Calls Tryz.prog 39 #[Value.int .i64 a0, Value.agg #[Value.int .i64 a1.vars, v1_1], Value.int .i64 a2, v3] wa (Sc Ha wa (Value.tuple #[Value.bool r.1, Value.bool r.2])) := by
 unfold PF.impl_IsInPcSpan at hp
 have S0 := St.init hs
 refine calls_go (N := 27) (args := [Value.int .i64 a0, Value.agg #[Value.int .i64 a1.vars, v1_1], Value.int .i64 a2, v3]) Tryz.func39 rfl rfl rfl ?_
 refine FW.seq (FW.region ?_)
 obtain ⟨b21, w22, run23, S24⟩ := S0.box (P := Tryz.prog) 32 [Value.int .i64 a1.vars, v1_1] (v := Value.agg #[Value.int .i64 a1.vars, v1_1]) rfl (ones_cons rfl (ones_cons p1_1.one ones_nil))
 refine FL.v (E.box rfl run23) ?_
 obtain ⟨H25, S26, i27, at28⟩ := S24.sealBox (i := 0) (l' := []) rfl rfl
 refine FL.v (E.assign (v := Value.bool false) rfl) ?_
 refine FL.v (E.assign (v := Value.bool false) rfl) ?_
 refine FL.nil (FW.seq (FW.region ?_))
 refine FL.v (E.move (v := Value.int .i64 a0) rfl) ?_
 refine FL.v (E.load rfl (run_loadA Tryz.isAgg32 Tryz.sizeOf32 (at28.now S26.sl) rfl)) ?_
 refine FL.v (E.move (v := Value.int .i64 a2) rfl) ?_
 refine FL.v (E.move (v := v3) rfl) ?_
 obtain ⟨r29, hr30, hp⟩ := bnd hp
 refine FL.call rfl rfl rfl (E.call Tryz.call34 (A4 rfl rfl rfl rfl)) (w_impl_RemainderOf S26.sl a0 a1 v1_1 (p1_1.mono i27) a2 v3 a3 (p3.mono i27) hr30) ?_
 rintro e w32 ⟨H31, v35, n36, cs37, rfl, r34, els38⟩
 refine ⟨_, rfl, ?_⟩
 have els38 := els38.mono (up_le S26.size)
 have S33 := S26.join (l' := [.row 108 2 v35 n36 cs37]) r34 rfl
 refine FL.v (E.move (v := Value.tuple #[v35, Value.bool r29.2]) rfl) ?_
 refine FL.v (E.extract (i := 0) rfl rfl) ?_
 refine FL.v (E.extract (i := 1) rfl rfl) ?_
 refine FL.v (E.assign (v := v35) rfl) ?_
 refine FL.v (E.assign (v := Value.bool r29.2) rfl) ?_
 refine FL.nil (FW.seq (FW.region ?_))
 refine FL.v (E.move (v := Value.bool r29.2) rfl) ?_
 refine FL.v (E.move (v := Value.bool r29.2) rfl) ?_
 refine FL.cut 4 (fun f w => ∃ H : GH, St Ha wa H w [.row 108 2 v35 n36 cs37] ∧ Inc H31 H ∧ f 11 = Value.bool r29.2 ∧ f 25 = Value.bool (bif r29.2 then ((len r29.1) == 0) else false)) ?_ ?_
 ·
  rcases bcase r29.2 with c45 | c45
  ·
   refine FL.val (wF_yes rfl rfl rfl c45) rfl rfl (E.move (v := v35) rfl) ?_
   refine FL.val (wF_yes rfl rfl rfl c45) rfl rfl (E.lenO te55 rfl S33 (i := 0) rfl els38 (by decide)) ?_
   refine FL.val (wF_yes rfl rfl rfl c45) rfl rfl (E.eql rfl rfl) ?_
   refine FL.v (E.pickT rfl c45 rfl) ?_
   exact FL.nil ⟨rfl, _, S33, (Inc.rfl _), rfl, (congrArg Value.bool (bifT c45).symm)⟩
  ·
   refine FL.skip (wF_no rfl rfl rfl c45) rfl ?_
   refine FL.skip (wF_no rfl rfl rfl c45) rfl ?_
   refine FL.skip (wF_no rfl rfl rfl c45) rfl ?_
   refine FL.v (E.pickF rfl c45 rfl) ?_
   exact FL.nil ⟨rfl, _, S33, (Inc.rfl _), rfl, (congrArg Value.bool (bifF c45).symm)⟩
 rintro f44 w43 ⟨H40, S41, i42, k46, k47⟩
 refine FL.v (E.move k46) ?_
 refine FL.v (E.assign k47) ?_
 refine FL.v (E.assign (v := Value.bool r29.2) rfl) ?_
 refine FL.nil ?_
 refine FW.ret ?_
 obtain rfl := Option.some.inj hp
 exact ⟨.inr rfl, res2 rfl rfl rfl ⟨rfl, S41.back⟩⟩

theorem w_laws_eqIntS {Ha : GH} {wa : World} (hs : Sl Ha wa) (v0 : Value) (a0 : List Int) (p0 : RSl Ha eI 1 v0 a0) (v1 : Value) (a1 : List Int) (p1 : RSl Ha eI 1 v1 a1) {r : Bool} (hp : (PF.laws_eqIntS a0 a1) = some r) :
  Calls Tryz.prog 52 #[v0, v1] wa (Sc Ha wa (Value.bool r)) := by
 unfold PF.laws_eqIntS at hp
 have S0 := St.init hs
 refine calls_go (N := 26) (args := [v0, v1]) Tryz.func52 rfl rfl rfl ?_
 refine FW.seq (FW.region ?_)
 refine FL.v (E.assign (v := Value.bool false) rfl) ?_
 refine FL.nil (FW.seq (FW.seq (FW.region ?_)))
 refine FL.v (E.move (v := v0) rfl) ?_
 refine FL.v (E.lenP te73 rfl p0) ?_
 refine FL.v (E.move (v := v1) rfl) ?_
 refine FL.v (E.lenP te73 rfl p1) ?_
 refine FL.v (E.neq rfl rfl) ?_
 refine FL.nil ?_
 rcases ifB hp with ⟨c21, hp⟩ | ⟨c21, hp⟩
 ·
  refine FW.condT rfl c21 ?_
  refine FW.seq (FW.region ?_)
  refine FL.v (E.assign (v := Value.bool false) rfl) ?_
  refine FL.nil ?_
  refine FW.ret ?_
  obtain rfl := Option.some.inj hp
  exact ⟨.inr rfl, res1 rfl rfl ⟨rfl, S0.back⟩⟩
 ·
  refine FW.condF rfl c21 ?_
  refine FW.skip (FW.seq (FW.seq (FW.region ?_)))
  refine FL.v (E.assign (v := Value.int .i64 0) rfl) ?_
  refine FL.nil ?_
  obtain ⟨q23, hq, hp⟩ := bndR hp
  refine FW.block ?_
  refine FW.mono (FW.forL (S := Unit) (X := Bool) (fun (i23 : Nat) (s23 : Unit) f w => ∃ H : GH, St Ha wa H w [] ∧ Inc Ha H ∧ f 5 = Value.int .i64 ((i23 : Nat) : Int) ∧ f 0 = v0 ∧ f 1 = v1) (fun q e f w => match q with | .go s23 => e = Exit.exit 0 ∧ (∃ H : GH, St Ha wa H w [] ∧ Inc Ha H) | .rt x => ((e = Exit.ret) ∧ (fun e f w => (e = Exit.normal ∨ e = Exit.ret) ∧ ∀ a, Fr (δ := []) 26 a f → ∃ v, (results Tryz.f52 a.tmps).run Tryz.prog w = .ok v w ∧ (Sc Ha wa (Value.bool x)) (.returned v) w) e f w)) hq ⟨_, S0, (Inc.rfl _), rfl, rfl, rfl⟩ ?_ ?_) ?_
  ·
   clear hp hq
   rintro i23 y22 s23 f55 w54 ⟨H51, S52, i53, k56, k57, k58⟩ hx23 o78 hp
   refine FW.seq (FW.seq (FW.region ?_))
   refine FL.v (E.move k56) ?_
   refine FL.v (E.move k57) ?_
   refine FL.v (E.lenP te73 rfl p0) ?_
   refine FL.v (E.lssT rfl rfl (lss_len hx23)) ?_
   refine FL.nil ?_
   refine FW.condT rfl rfl ?_
   refine FW.skip (FW.seq (FW.block (FW.seq ?_)))
   refine FW.draw (fun w' => Run w54.heap.size H51 w54 H51 w') (by kernel_rfl) (by kernel_rfl) (run_drew S52.sl) ?_
   refine FD.val rfl rfl rfl (fun w' hw' => (E.move k57)) ?_
   refine FD.val rfl rfl rfl (fun w' hw' => (E.move k56)) ?_
   obtain ⟨p60, cs61, pt62, l63, at64, rel65⟩ := p0.at (ix_nat hx23)
   obtain rfl := eI_open rel65
   refine FD.val rfl rfl rfl (fun w' hw' => (E.indexAddr te73 rfl rfl pt62)) ?_
   refine FD.val rfl rfl rfl (fun w' hw' => (E.load rfl (run_load0 Tryz.isAgg3 ((at64.mono i53).now (S52.call hw').sl) rfl))) ?_
   refine FD.val rfl rfl rfl (fun w' hw' => (E.move k58)) ?_
   refine FD.val rfl rfl rfl (fun w' hw' => (E.move k56)) ?_
   obtain ⟨x72, hx73, hp⟩ := bnd hp
   obtain ⟨p66, cs67, pt68, l69, at70, rel71⟩ := p1.at hx73
   obtain rfl := eI_open rel71
   refine FD.val rfl rfl rfl (fun w' hw' => (E.indexAddr te73 rfl rfl pt68)) ?_
   refine FD.val rfl rfl rfl (fun w' hw' => (E.load rfl (run_load0 Tryz.isAgg3 ((at70.mono i53).now (S52.call hw').sl) rfl))) ?_
   refine FD.val rfl rfl rfl (fun w' hw' => (E.neq rfl rfl)) ?_
   refine FD.nil ?_
   intro w74 r76
   have S75 := S52.call r76
   rcases ifB hp with ⟨c77, hp⟩ | ⟨c77, hp⟩
   ·
    refine FW.condT rfl c77 ?_
    refine FW.seq (FW.region ?_)
    refine FL.v (E.assign (v := Value.bool false) rfl) ?_
    refine FL.nil ?_
    refine FW.ret ?_
    obtain rfl := Option.some.inj hp
    exact ⟨nofun, rfl, ⟨.inr rfl, res1 rfl rfl ⟨rfl, S75.back⟩⟩⟩
   ·
    refine FW.condF rfl c77 ?_
    refine FW.skip (FW.region ?_)
    refine FL.v (E.move k56) ?_
    refine FL.v (E.add rfl rfl) ?_
    refine FL.v (E.assign (v := Value.int .i64 (wr (((i23 : Nat) : Int) + 1))) rfl) ?_
    refine FL.nil ?_
    obtain rfl := Option.some.inj hp
    exact ⟨rfl, ⟨_, S75, i53, (nat_succ rfl (lt_of_get hx23) (p0.mono i53).le), k57, k58⟩⟩
  ·
   clear hp hq
   rintro s23 f88 w87 ⟨H84, S85, i86, k89, k90, k91⟩
   refine FW.seq (FW.seq (FW.region ?_))
   refine FL.v (E.move k89) ?_
   refine FL.v (E.move k90) ?_
   refine FL.v (E.lenP te73 rfl p0) ?_
   refine FL.v (E.lss rfl rfl) ?_
   refine FL.nil ?_
   refine FW.condF rfl dlt_len ?_
   refine FW.exit ?_
   exact ⟨nofun, rfl, ⟨_, S85, i86⟩⟩
  ·
   clear hq
   intro e f83 w82 hD
   rcases q23 with s23 | x23
   ·
    obtain ⟨rfl, hD⟩ := hD
    obtain ⟨H79, S80, i81⟩ := hD
    replace hp := el_go hp
    refine FW.seq (FW.region ?_)
    refine FL.v (E.assign (v := Value.bool true) rfl) ?_
    refine FL.nil ?_
    refine FW.ret ?_
    obtain rfl := Option.some.inj hp
    exact ⟨.inr rfl, res1 rfl rfl ⟨rfl, S80.back⟩⟩
   ·
    obtain ⟨he, hL⟩ := hD
    replace hp := el_rt hp
    obtain rfl := Option.some.inj hp
    subst he
    exact hL

theorem w_laws_eqIntSS {Ha : GH} {wa : World} (hs : Sl Ha wa) (v0 : Value) (a0 : List (List Int)) (p0 : RSl Ha (eL eI 1) 1 v0 a0) (v1 : Value) (a1 : List (List Int)) (p1 : RSl Ha (eL eI 1) 1 v1 a1) {r : Bool} (hp : (PF.laws_eqIntSS a0 a1) = some r) :
  Calls Tryz.prog 47 #[v0, v1] wa (Sc Ha wa (Value.bool r)) := by
 unfold PF.laws_eqIntSS at hp
 have S0 := St.init hs
 refine calls_go (N := 27) (args := [v0, v1]) Tryz.func47 rfl rfl rfl ?_
 refine FW.seq (FW.region ?_)
 refine FL.v (E.assign (v := Value.bool false) rfl) ?_
 refine FL.nil (FW.seq (FW.seq (FW.region ?_)))
 refine FL.v (E.move (v := v0) rfl) ?_
 refine FL.v (E.lenP te22 rfl p0) ?_
 refine FL.v (E.move (v := v1) rfl) ?_
 refine FL.v (E.lenP te22 rfl p1) ?_
 refine FL.v (E.neq rfl rfl) ?_
 refine FL.nil ?_
 rcases ifB hp with ⟨c21, hp⟩ | ⟨c21, hp⟩
 ·
  refine FW.condT rfl c21 ?_
  refine FW.seq (FW.region ?_)
  refine FL.v (E.assign (v := Value.bool false) rfl) ?_
  refine FL.nil ?_
  refine FW.ret ?_
  obtain rfl := Option.some.inj hp
  exact ⟨.inr rfl, res1 rfl rfl ⟨rfl, S0.back⟩⟩
 ·
  refine FW.condF rfl c21 ?_
  refine FW.skip (FW.seq (FW.seq (FW.region ?_)))
  refine FL.v (E.assign (v := Value.int .i64 0) rfl) ?_
  refine FL.nil ?_
  obtain ⟨q23, hq, hp⟩ := bndR hp
  refine FW.block ?_
  refine FW.mono (FW.forL (S := Unit) (X := Bool) (fun (i23 : Nat) (s23 : Unit) f w => ∃ H : GH, St Ha wa H w [] ∧ Inc Ha H ∧ f 5 = Value.int .i64 ((i23 : Nat) : Int) ∧ f 0 = v0 ∧ f 1 = v1) (fun q e f w => match q with | .go s23 => e = Exit.exit 0 ∧ (∃ H : GH, St Ha wa H w [] ∧ Inc Ha H) | .rt x => ((e = Exit.ret) ∧ (fun e f w => (e = Exit.normal ∨ e = Exit.ret) ∧ ∀ a, Fr (δ := []) 27 a f → ∃ v, (results Tryz.f47 a.tmps).run Tryz.prog w = .ok v w ∧ (Sc Ha wa (Value.bool x)) (.returned v) w) e f w)) hq ⟨_, S0, (Inc.rfl _), rfl, rfl, rfl⟩ ?_ ?_) ?_
  ·
   clear hp hq
   rintro i23 y22 s23 f61 w60 ⟨H57, S58, i59, k62, k63, k64⟩ hx23 o90 hp
   refine FW.seq (FW.seq (FW.region ?_))
   refine FL.v (E.move k62) ?_
   refine FL.v (E.move k63) ?_
   refine FL.v (E.lenP te22 rfl p0) ?_
   refine FL.v (E.lssT rfl rfl (lss_len hx23)) ?_
   refine FL.nil ?_
   refine FW.condT rfl rfl ?_
   refine FW.skip (FW.seq (FW.block (FW.seq ?_)))
   refine FW.draw (fun w' => Run w60.heap.size H57 w60 H57 w') (by kernel_rfl) (by kernel_rfl) (run_drew S58.sl) ?_
   refine FD.val rfl rfl rfl (fun w' hw' => (E.move k63)) ?_
   refine FD.val rfl rfl rfl (fun w' hw' => (E.move k62)) ?_
   obtain ⟨p66, cs67, pt68, l69, at70, rel71⟩ := p0.at (ix_nat hx23)
   obtain ⟨v72, rfl, h73⟩ := eL_open rel71
   refine FD.val rfl rfl rfl (fun w' hw' => (E.indexAddr te22 rfl rfl pt68)) ?_
   refine FD.val rfl rfl rfl (fun w' hw' => (E.load rfl (run_load0 Tryz.isAgg73 ((at70.mono i59).now (S58.call hw').sl) rfl))) ?_
   refine FD.val rfl rfl rfl (fun w' hw' => (E.move k64)) ?_
   refine FD.val rfl rfl rfl (fun w' hw' => (E.move k62)) ?_
   obtain ⟨x80, hx81, hp⟩ := bnd hp
   obtain ⟨p74, cs75, pt76, l77, at78, rel79⟩ := p1.at hx81
   obtain ⟨v82, rfl, h83⟩ := eL_open rel79
   refine FD.val rfl rfl rfl (fun w' hw' => (E.indexAddr te22 rfl rfl pt76)) ?_
   refine FD.val rfl rfl rfl (fun w' hw' => (E.load rfl (run_load0 Tryz.isAgg73 ((at78.mono i59).now (S58.call hw').sl) rfl))) ?_
   obtain ⟨r84, hr85, hp⟩ := bnd hp
   refine FD.call rfl rfl rfl (fun w' hw' => (E.call Tryz.call52 (A2 rfl rfl))) (fun w' hw' => Calls.cls hw' (w_laws_eqIntS (S58.call hw').sl v72 y22 (h73.mono i59) v82 x80 (h83.mono i59) hr85)) ?_
   refine FD.val rfl rfl rfl (fun w' hw' => (E.not rfl)) ?_
   refine FD.nil ?_
   intro w86 r88
   have S87 := S58.call r88
   rcases ifB hp with ⟨c89, hp⟩ | ⟨c89, hp⟩
   ·
    refine FW.condT rfl c89 ?_
    refine FW.seq (FW.region ?_)
    refine FL.v (E.assign (v := Value.bool false) rfl) ?_
    refine FL.nil ?_
    refine FW.ret ?_
    obtain rfl := Option.some.inj hp
    exact ⟨nofun, rfl, ⟨.inr rfl, res1 rfl rfl ⟨rfl, S87.back⟩⟩⟩
   ·
    refine FW.condF rfl c89 ?_
    refine FW.skip (FW.region ?_)
    refine FL.v (E.move k62) ?_
    refine FL.v (E.add rfl rfl) ?_
    refine FL.v (E.assign (v := Value.int .i64 (wr (((i23 : Nat) : Int) + 1))) rfl) ?_
    refine FL.nil ?_
    obtain rfl := Option.some.inj hp
    exact ⟨rfl, ⟨_, S87, i59, (nat_succ rfl (lt_of_get hx23) (p0.mono i59).le), k63, k64⟩⟩
  ·
   clear hp hq
   rintro s23 f100 w99 ⟨H96, S97, i98, k101, k102, k103⟩
   refine FW.seq (FW.seq (FW.region ?_))
   refine FL.v (E.move k101) ?_
   refine FL.v (E.move k102) ?_
   refine FL.v (E.lenP te22 rfl p0) ?_
   refine FL.v (E.lss rfl rfl) ?_
   refine FL.nil ?_
   refine FW.condF rfl dlt_len ?_
   refine FW.exit ?_
   exact ⟨nofun, rfl, ⟨_, S97, i98⟩⟩
  ·
   clear hq
   intro e f95 w94 hD
   rcases q23 with s23 | x23
   ·
    obtain ⟨rfl, hD⟩ := hD
    obtain ⟨H91, S92, i93⟩ := hD
    replace hp := el_go hp
    refine FW.seq (FW.region ?_)
    refine FL.v (E.assign (v := Value.bool true) rfl) ?_
    refine FL.nil ?_
    refine FW.ret ?_
    obtain rfl := Option.some.inj hp
    exact ⟨.inr rfl, res1 rfl rfl ⟨rfl, S92.back⟩⟩
   ·
    obtain ⟨he, hL⟩ := hD
    replace hp := el_rt hp
    obtain rfl := Option.some.inj hp
    subst he
    exact hL

theorem w_laws_eqCnf {Ha : GH} {wa : World} (hs : Sl Ha wa) (a0 : Cnf) (v0_1 : Value) (p0_1 : RSl Ha (eL eI 1) 1 v0_1 a0.clauses) (a1 : Cnf) (v1_1 : Value) (p1_1 : RSl Ha (eL eI 1) 1 v1_1 a1.clauses) {r : Bool} (hp : (PF.laws_eqCnf a0 a1) = some r) :
  Calls Tryz.prog 19 #[Value.agg #[Value.int .i64 a0.vars, v0_1], Value.agg #[Value.int .i64 a1.vars, v1_1]] wa (Sc Ha wa (Value.bool r)) := by
 unfold PF.laws_eqCnf at hp
 have S0 := St.init hs
 refine calls_go (N := 16) (args := [Value.agg #[Value.int .i64 a0.vars, v0_1], Value.agg #[Value.int .i64 a1.vars, v1_1]]) Tryz.func19 rfl rfl rfl ?_
 refine FW.seq (FW.region ?_)
 obtain ⟨b21, w22, run23, S24⟩ := S0.box (P := Tryz.prog) 32 [Value.int .i64 a0.vars, v0_1] (v := Value.agg #[Value.int .i64 a0.vars, v0_1]) rfl (ones_cons rfl (ones_cons p0_1.one ones_nil))
 refine FL.v (E.box rfl run23) ?_
 obtain ⟨H25, S26, i27, at28⟩ := S24.sealBox (i := 0) (l' := []) rfl rfl
 obtain ⟨b29, w30, run31, S32⟩ := S26.box (P := Tryz.prog) 32 [Value.int .i64 a1.vars, v1_1] (v := Value.agg #[Value.int .i64 a1.vars, v1_1]) rfl (ones_cons rfl (ones_cons p1_1.one ones_nil))
 refine FL.v (E.box rfl run31) ?_
 obtain ⟨H33, S34, i35, at36⟩ := S32.sealBox (i := 0) (l' := []) rfl rfl
 refine FL.v (E.assign (v := Value.bool false) rfl) ?_
 refine FL.nil (FW.seq (FW.seq (FW.region ?_)))
 refine FL.v (E.fieldAddr tf32_0 rfl) ?_
 refine FL.v (E.load rfl (run_load1 Tryz.isAgg3 ((at28.mono i35).now S34.sl) rfl)) ?_
 refine FL.v (E.fieldAddr tf32_0 rfl) ?_
 refine FL.v (E.load rfl (run_load1 Tryz.isAgg3 (at36.now S34.sl) rfl)) ?_
 refine FL.v (E.neq rfl rfl) ?_
 refine FL.nil ?_
 rcases ifB hp with ⟨c37, hp⟩ | ⟨c37, hp⟩
 ·
  refine FW.condT rfl c37 ?_
  refine FW.seq (FW.region ?_)
  refine FL.v (E.assign (v := Value.bool false) rfl) ?_
  refine FL.nil ?_
  refine FW.ret ?_
  obtain rfl := Option.some.inj hp
  exact ⟨.inr rfl, res1 rfl rfl ⟨rfl, S34.back⟩⟩
 ·
  refine FW.condF rfl c37 ?_
  refine FW.skip (FW.seq (FW.seq (FW.region ?_)))
  refine FL.v (E.fieldAddr tf32_1 rfl) ?_
  refine FL.v (E.load rfl (run_load1 Tryz.isAgg22 ((at28.mono i35).now S34.sl) rfl)) ?_
  refine FL.v (E.fieldAddr tf32_1 rfl) ?_
  refine FL.v (E.load rfl (run_load1 Tryz.isAgg22 (at36.now S34.sl) rfl)) ?_
  obtain ⟨r38, hr39, hp⟩ := bnd hp
  refine FL.call rfl rfl rfl (E.call Tryz.call47 (A2 rfl rfl)) (w_laws_eqIntSS S34.sl v0_1 a0.clauses (p0_1.mono (i27.tr i35)) v1_1 a1.clauses (p1_1.mono (i27.tr i35)) hr39) ?_
  rintro e w40 ⟨rfl, r41⟩
  refine ⟨_, rfl, ?_⟩
  have S42 := S34.call r41
  refine FL.v (E.not rfl) ?_
  refine FL.nil ?_
  rcases ifB hp with ⟨c43, hp⟩ | ⟨c43, hp⟩
  ·
   refine FW.condT rfl c43 ?_
   refine FW.seq (FW.region ?_)
   refine FL.v (E.assign (v := Value.bool false) rfl) ?_
   refine FL.nil ?_
   refine FW.ret ?_
   obtain rfl := Option.some.inj hp
   exact ⟨.inr rfl, res1 rfl rfl ⟨rfl, S42.back⟩⟩
  ·
   refine FW.condF rfl c43 ?_
   refine FW.skip (FW.seq (FW.region ?_))
   refine FL.v (E.assign (v := Value.bool true) rfl) ?_
   refine FL.nil ?_
   refine FW.ret ?_
   obtain rfl := Option.some.inj hp
   exact ⟨.inr rfl, res1 rfl rfl ⟨rfl, S42.back⟩⟩

theorem w_laws_eqTerm {Ha : GH} {wa : World} (hs : Sl Ha wa) (a0 : Term) (a1 : Term) :
  Calls Tryz.prog 101 #[Value.agg #[Value.int .i64 a0.mono, Value.int .i64 a0.coeff], Value.agg #[Value.int .i64 a1.mono, Value.int .i64 a1.coeff]] wa (Sc Ha wa (Value.bool (PF.laws_eqTerm a0 a1))) := by
 obtain ⟨r, hp⟩ : ∃ r, (PF.laws_eqTerm a0 a1) = r := ⟨_, rfl⟩
 rw [hp]
 unfold PF.laws_eqTerm at hp
 have S0 := St.init hs
 refine calls_go (N := 15) (args := [Value.agg #[Value.int .i64 a0.mono, Value.int .i64 a0.coeff], Value.agg #[Value.int .i64 a1.mono, Value.int .i64 a1.coeff]]) Tryz.func101 rfl rfl rfl ?_
 refine FW.seq (FW.region ?_)
 obtain ⟨b21, w22, run23, S24⟩ := S0.box (P := Tryz.prog) 108 [Value.int .i64 a0.mono, Value.int .i64 a0.coeff] (v := Value.agg #[Value.int .i64 a0.mono, Value.int .i64 a0.coeff]) rfl (ones_cons rfl (ones_cons rfl ones_nil))
 refine FL.v (E.box rfl run23) ?_
 obtain ⟨H25, S26, i27, at28⟩ := S24.sealBox (i := 0) (l' := []) rfl rfl
 obtain ⟨b29, w30, run31, S32⟩ := S26.box (P := Tryz.prog) 108 [Value.int .i64 a1.mono, Value.int .i64 a1.coeff] (v := Value.agg #[Value.int .i64 a1.mono, Value.int .i64 a1.coeff]) rfl (ones_cons rfl (ones_cons rfl ones_nil))
 refine FL.v (E.box rfl run31) ?_
 obtain ⟨H33, S34, i35, at36⟩ := S32.sealBox (i := 0) (l' := []) rfl rfl
 refine FL.v (E.assign (v := Value.bool false) rfl) ?_
 refine FL.nil (FW.seq (FW.seq (FW.region ?_)))
 refine FL.v (E.fieldAddr tf108_0 rfl) ?_
 refine FL.v (E.load rfl (run_load1 Tryz.isAgg3 ((at28.mono i35).now S34.sl) rfl)) ?_
 refine FL.v (E.fieldAddr tf108_0 rfl) ?_
 refine FL.v (E.load rfl (run_load1 Tryz.isAgg3 (at36.now S34.sl) rfl)) ?_
 refine FL.v (E.neq rfl rfl) ?_
 refine FL.nil ?_
 rcases ifT hp with ⟨c37, hp⟩ | ⟨c37, hp⟩
 ·
  refine FW.condT rfl c37 ?_
  refine FW.seq (FW.region ?_)
  refine FL.v (E.assign (v := Value.bool false) rfl) ?_
  refine FL.nil ?_
  refine FW.ret ?_
  obtain rfl := hp
  exact ⟨.inr rfl, res1 rfl rfl ⟨rfl, S34.back⟩⟩
 ·
  refine FW.condF rfl c37 ?_
  refine FW.skip (FW.seq (FW.seq (FW.region ?_)))
  refine FL.v (E.fieldAddr tf108_1 rfl) ?_
  refine FL.v (E.load rfl (run_load1 Tryz.isAgg3 ((at28.mono i35).now S34.sl) rfl)) ?_
  refine FL.v (E.fieldAddr tf108_1 rfl) ?_
  refine FL.v (E.load rfl (run_load1 Tryz.isAgg3 (at36.now S34.sl) rfl)) ?_
  refine FL.v (E.neq rfl rfl) ?_
  refine FL.nil ?_
  rcases ifT hp with ⟨c38, hp⟩ | ⟨c38, hp⟩
  ·
   refine FW.condT rfl c38 ?_
   refine FW.seq (FW.region ?_)
   refine FL.v (E.assign (v := Value.bool false) rfl) ?_
   refine FL.nil ?_
   refine FW.ret ?_
   obtain rfl := hp
   exact ⟨.inr rfl, res1 rfl rfl ⟨rfl, S34.back⟩⟩
  ·
   refine FW.condF rfl c38 ?_
   refine FW.skip (FW.seq (FW.region ?_))
   refine FL.v (E.assign (v := Value.bool true) rfl) ?_
   refine FL.nil ?_
   refine FW.ret ?_
   obtain rfl := hp
   exact ⟨.inr rfl, res1 rfl rfl ⟨rfl, S34.back⟩⟩

theorem w_laws_eqTermS {Ha : GH} {wa : World} (hs : Sl Ha wa) (v0 : Value) (a0 : List Term) (p0 : RSl Ha eTerm 2 v0 a0) (v1 : Value) (a1 : List Term) (p1 : RSl Ha eTerm 2 v1 a1) {r : Bool} (hp : (PF.laws_eqTermS a0 a1) = some r) :
  Calls Tryz.prog 35 #[v0, v1] wa (Sc Ha wa (Value.bool r)) := by
 unfold PF.laws_eqTermS at hp
 have S0 := St.init hs
 refine calls_go (N := 27) (args := [v0, v1]) Tryz.func35 rfl rfl rfl ?_
 refine FW.seq (FW.region ?_)
 refine FL.v (E.assign (v := Value.bool false) rfl) ?_
 refine FL.nil (FW.seq (FW.seq (FW.region ?_)))
 refine FL.v (E.move (v := v0) rfl) ?_
 refine FL.v (E.lenP te55 rfl p0) ?_
 refine FL.v (E.move (v := v1) rfl) ?_
 refine FL.v (E.lenP te55 rfl p1) ?_
 refine FL.v (E.neq rfl rfl) ?_
 refine FL.nil ?_
 rcases ifB hp with ⟨c21, hp⟩ | ⟨c21, hp⟩
 ·
  refine FW.condT rfl c21 ?_
  refine FW.seq (FW.region ?_)
  refine FL.v (E.assign (v := Value.bool false) rfl) ?_
  refine FL.nil ?_
  refine FW.ret ?_
  obtain rfl := Option.some.inj hp
  exact ⟨.inr rfl, res1 rfl rfl ⟨rfl, S0.back⟩⟩
 ·
  refine FW.condF rfl c21 ?_
  refine FW.skip (FW.seq (FW.seq (FW.region ?_)))
  refine FL.v (E.assign (v := Value.int .i64 0) rfl) ?_
  refine FL.nil ?_
  obtain ⟨q23, hq, hp⟩ := bndR hp
  refine FW.block ?_
  refine FW.mono (FW.forL (S := Unit) (X := Bool) (fun (i23 : Nat) (s23 : Unit) f w => ∃ H : GH, St Ha wa H w [] ∧ Inc Ha H ∧ f 5 = Value.int .i64 ((i23 : Nat) : Int) ∧ f 0 = v0 ∧ f 1 = v1) (fun q e f w => match q with | .go s23 => e = Exit.exit 0 ∧ (∃ H : GH, St Ha wa H w [] ∧ Inc Ha H) | .rt x => ((e = Exit.ret) ∧ (fun e f w => (e = Exit.normal ∨ e = Exit.ret) ∧ ∀ a, Fr (δ := []) 27 a f → ∃ v, (results Tryz.f35 a.tmps).run Tryz.prog w = .ok v w ∧ (Sc Ha wa (Value.bool x)) (.returned v) w) e f w)) hq ⟨_, S0, (Inc.rfl _), rfl, rfl, rfl⟩ ?_ ?_) ?_
  ·
   clear hp hq
   rintro i23 y22 s23 f55 w54 ⟨H51, S52, i53, k56, k57, k58⟩ hx23 o78 hp
   refine FW.seq (FW.seq (FW.region ?_))
   refine FL.v (E.move k56) ?_
   refine FL.v (E.move k57) ?_
   refine FL.v (E.lenP te55 rfl p0) ?_
   refine FL.v (E.lssT rfl rfl (lss_len hx23)) ?_
   refine FL.nil ?_
   refine FW.condT rfl rfl ?_
   refine FW.skip (FW.seq (FW.block (FW.seq ?_)))
   refine FW.draw (fun w' => Run w54.heap.size H51 w54 H51 w') (by kernel_rfl) (by kernel_rfl) (run_drew S52.sl) ?_
   refine FD.val rfl rfl rfl (fun w' hw' => (E.move k57)) ?_
   refine FD.val rfl rfl rfl (fun w' hw' => (E.move k56)) ?_
   obtain ⟨p60, cs61, pt62, l63, at64, rel65⟩ := p0.at (ix_nat hx23)
   obtain rfl := eTerm_open rel65
   refine FD.val rfl rfl rfl (fun w' hw' => (E.indexAddr te55 rfl rfl pt62)) ?_
   refine FD.val rfl rfl rfl (fun w' hw' => (E.load rfl (run_loadA Tryz.isAgg108 Tryz.sizeOf108 ((at64.mono i53).now (S52.call hw').sl) rfl))) ?_
   refine FD.val rfl rfl rfl (fun w' hw' => (E.move k58)) ?_
   refine FD.val rfl rfl rfl (fun w' hw' => (E.move k56)) ?_
   obtain ⟨x72, hx73, hp⟩ := bnd hp
   obtain ⟨p66, cs67, pt68, l69, at70, rel71⟩ := p1.at hx73
   obtain rfl := eTerm_open rel71
   refine FD.val rfl rfl rfl (fun w' hw' => (E.indexAddr te55 rfl rfl pt68)) ?_
   refine FD.val rfl rfl rfl (fun w' hw' => (E.load rfl (run_loadA Tryz.isAgg108 Tryz.sizeOf108 ((at70.mono i53).now (S52.call hw').sl) rfl))) ?_
   refine FD.call rfl rfl rfl (fun w' hw' => (E.call Tryz.call101 (A2 rfl rfl))) (fun w' hw' => Calls.cls hw' (w_laws_eqTerm (S52.call hw').sl y22 x72)) ?_
   refine FD.val rfl rfl rfl (fun w' hw' => (E.not rfl)) ?_
   refine FD.nil ?_
   intro w74 r76
   have S75 := S52.call r76
   rcases ifB hp with ⟨c77, hp⟩ | ⟨c77, hp⟩
   ·
    refine FW.condT rfl c77 ?_
    refine FW.seq (FW.region ?_)
    refine FL.v (E.assign (v := Value.bool false) rfl) ?_
    refine FL.nil ?_
    refine FW.ret ?_
    obtain rfl := Option.some.inj hp
    exact ⟨nofun, rfl, ⟨.inr rfl, res1 rfl rfl ⟨rfl, S75.back⟩⟩⟩
   ·
    refine FW.condF rfl c77 ?_
    refine FW.skip (FW.region ?_)
    refine FL.v (E.move k56) ?_
    refine FL.v (E.add rfl rfl) ?_
    refine FL.v (E.assign (v := Value.int .i64 (wr (((i23 : Nat) : Int) + 1))) rfl) ?_
    refine FL.nil ?_
    obtain rfl := Option.some.inj hp
    exact ⟨rfl, ⟨_, S75, i53, (nat_succ rfl (lt_of_get hx23) (p0.mono i53).le), k57, k58⟩⟩
  ·
   clear hp hq
   rintro s23 f88 w87 ⟨H84, S85, i86, k89, k90, k91⟩
   refine FW.seq (FW.seq (FW.region ?_))
   refine FL.v (E.move k89) ?_
   refine FL.v (E.move k90) ?_
   refine FL.v (E.lenP te55 rfl p0) ?_
   refine FL.v (E.lss rfl rfl) ?_
   refine FL.nil ?_
   refine FW.condF rfl dlt_len ?_
   refine FW.exit ?_
   exact ⟨nofun, rfl, ⟨_, S85, i86⟩⟩
  ·
   clear hq
   intro e f83 w82 hD
   rcases q23 with s23 | x23
   ·
    obtain ⟨rfl, hD⟩ := hD
    obtain ⟨H79, S80, i81⟩ := hD
    replace hp := el_go hp
    refine FW.seq (FW.region ?_)
    refine FL.v (E.assign (v := Value.bool true) rfl) ?_
    refine FL.nil ?_
    refine FW.ret ?_
    obtain rfl := Option.some.inj hp
    exact ⟨.inr rfl, res1 rfl rfl ⟨rfl, S80.back⟩⟩
   ·
    obtain ⟨he, hL⟩ := hD
    replace hp := el_rt hp
    obtain rfl := Option.some.inj hp
    subst he
    exact hL

set_option maxHeartbeats 4000000 in
theorem w_laws_FnExactIsInPcSpan {Ha : GH} {wa : World} (hs : Sl Ha wa) (a0 : Int) (a1 : Cnf) (v1_1 : Value) (p1_1 : RSl Ha (eL eI 1) 1 v1_1 a1.clauses) (a2 : Int) (v3 : Value) (a3 : List Term) (p3 : RSl Ha eTerm 2 v3 a3) {r : Bool} (hp : (PF.laws_FnExactIsInPcSpan a0 a1 a2 a3) = some r) :
  Calls Tryz.prog 7 #[Value.int .i64 a0, Value.agg #[Value.int .i64 a1.vars, v1_1], Value.int .i64 a2, v3] wa (Sc Ha wa (Value.bool r)) := by
 unfold PF.laws_FnExactIsInPcSpan at hp
 have S0 := St.init hs
 refine calls_go (N := 66) (args := [Value.int .i64 a0, Value.agg #[Value.int .i64 a1.vars, v1_1], Value.int .i64 a2, v3]) Tryz.func7 rfl rfl rfl ?_
 refine FW.seq (FW.region ?_)
 obtain ⟨w21, run22, S23, z24⟩ := S0.boxB (P := Tryz.prog) 24 [Value.int .i64 a1.vars, v1_1] (v := Value.agg #[Value.int .i64 a1.vars, v1_1]) rfl (ones_cons rfl (ones_cons p1_1.one ones_nil))
 refine FL.v (E.box rfl run22) ?_
 obtain ⟨H25, S26, i27, at28⟩ := S23.sealBoxB (i := 0) (l' := []) rfl rfl
 refine FL.v (E.assign (v := Value.bool false) rfl) ?_
 refine FL.nil (FW.seq (FW.region ?_))
 refine FL.v (E.assign (v := Value.int .i64 1048576) rfl) ?_
 refine FL.nil (FW.seq (FW.region ?_))
 refine FL.v (E.load rfl (run_loadA Tryz.isAgg24 Tryz.sizeOf24 ((at28.mono sgI).now S26.sl) rfl)) ?_
 refine FL.v (E.move (v := Value.int .i64 1048576) rfl) ?_
 obtain ⟨r29, hr30, hp⟩ := bnd hp
 refine FL.call rfl rfl rfl (E.call Tryz.call11 (A2 rfl rfl)) (w_laws_szCnf S26.sl a1 v1_1 (p1_1.mono i27) 1048576 hr30) ?_
 rintro e w31 ⟨rfl, r32⟩
 refine ⟨_, rfl, ?_⟩
 have S33 := S26.call r32
 have z34 := r32.bel.size
 refine FL.v (E.assign (v := Value.int .i64 r29) rfl) ?_
 refine FL.nil (FW.seq (FW.seq (FW.region ?_)))
 refine FL.v (E.move (v := Value.int .i64 r29) rfl) ?_
 refine FL.v (E.lss rfl rfl) ?_
 refine FL.nil ?_
 rcases ifB hp with ⟨c35, hp⟩ | ⟨c35, hp⟩
 ·
  refine FW.condT rfl c35 ?_
  refine FW.seq (FW.region ?_)
  refine FL.v (E.assign (v := Value.bool true) rfl) ?_
  refine FL.nil ?_
  refine FW.ret ?_
  obtain rfl := Option.some.inj hp
  exact ⟨.inr rfl, res1 rfl rfl ⟨rfl, S33.back⟩⟩
 ·
  refine FW.condF rfl c35 ?_
  refine FW.skip (FW.seq (FW.region ?_))
  refine FL.v (E.move (v := v3) rfl) ?_
  refine FL.v (E.move (v := Value.int .i64 r29) rfl) ?_
  refine FL.call rfl rfl rfl (E.call Tryz.call31 (A2 rfl rfl)) (w_laws_szTermS S33.sl v3 a3 (p3.mono i27) r29) ?_
  rintro e w36 ⟨rfl, r37⟩
  refine ⟨_, rfl, ?_⟩
  have S38 := S33.call r37
  have z39 := r37.bel.size
  refine FL.v (E.assign (v := Value.int .i64 (PF.laws_szTermS a3 r29)) rfl) ?_
  refine FL.nil (FW.seq (FW.seq (FW.region ?_)))
  refine FL.v (E.move (v := Value.int .i64 (PF.laws_szTermS a3 r29)) rfl) ?_
  refine FL.v (E.lss rfl rfl) ?_
  refine FL.nil ?_
  rcases ifB hp with ⟨c40, hp⟩ | ⟨c40, hp⟩
  ·
   refine FW.condT rfl c40 ?_
   refine FW.seq (FW.region ?_)
   refine FL.v (E.assign (v := Value.bool true) rfl) ?_
   refine FL.nil ?_
   refine FW.ret ?_
   obtain rfl := Option.some.inj hp
   exact ⟨.inr rfl, res1 rfl rfl ⟨rfl, S38.back⟩⟩
  ·
   refine FW.condF rfl c40 ?_
   refine FW.skip (FW.seq (FW.region ?_))
   refine FL.v (E.move (v := Value.int .i64 a0) rfl) ?_
   refine FL.v (E.load rfl (run_loadA Tryz.isAgg24 Tryz.sizeOf24 ((at28.mono sgI).now S38.sl) rfl)) ?_
   obtain ⟨r41, hr42, hp⟩ := bnd hp
   refine FL.call rfl rfl rfl (E.call Tryz.call15 (A1 rfl)) (w_laws_toCnf S38.sl a1 v1_1 (p1_1.mono i27) hr42) ?_
   rintro e w44 ⟨H43, v47, rfl, r46, ⟨c50, ns49⟩⟩
   refine ⟨_, rfl, ?_⟩
   have h48 := ns49.rsl
   have nv51 : New H25 [v47] := New.of_up S38.sl h48.dom
   have S45 := S38.call r46
   have z52 := r46.bel.size
   have h48 := h48.mono (sg_of S45.sl)
   have ns49 := ns49.mono (sg_of S45.sl)
   refine FL.v (E.move (v := Value.int .i64 a2) rfl) ?_
   refine FL.v (E.move (v := v3) rfl) ?_
   obtain ⟨r53, hr54, hp⟩ := bnd hp
   refine FL.call rfl rfl rfl (E.call Tryz.call33 (A1 rfl)) (w_laws_toTermS S45.sl v3 a3 (p3.mono (i27.tr r46.inc)) hr54) ?_
   rintro e w56 ⟨H55, v59, n60, cs61, rfl, r58, els62⟩
   refine ⟨_, rfl, ?_⟩
   obtain ⟨H63, r64, i65, h66, nv67⟩ := r58.sealRowU (i := 0) (l' := []) rfl els62 (by decide) rfl
   have S57 := S45.call r64.run
   have z68 := r64.run.bel.size
   have h66 := h66.mono (sg_of S57.sl)
   obtain ⟨r69, hr70, hp⟩ := bnd hp
   refine FL.call rfl rfl rfl (E.call Tryz.call38 (A4 rfl rfl rfl rfl)) (w_spec_IsInPcSpan S57.sl a0 r41 v47 (h48.mono (sgI.tr r64.run.inc)) a2 v59 r53 (h66.mono sgI) hr70) ?_
   rintro e w71 ⟨rfl, r72⟩
   refine ⟨_, rfl, ?_⟩
   have S73 := S57.call r72
   have z74 := r72.bel.size
   refine FL.v (E.move (v := Value.tuple #[Value.bool r69.1, Value.bool r69.2]) rfl) ?_
   refine FL.v (E.extract (i := 0) rfl rfl) ?_
   refine FL.v (E.extract (i := 1) rfl rfl) ?_
   refine FL.v (E.assign (v := Value.bool r69.1) rfl) ?_
   refine FL.v (E.assign (v := Value.bool r69.2) rfl) ?_
   refine FL.nil (FW.seq (FW.region ?_))
   refine FL.v (E.load rfl (run_loadA Tryz.isAgg24 Tryz.sizeOf24 ((at28.mono (sgI.tr (r46.inc.tr r64.run.inc))).now S73.sl) rfl)) ?_
   obtain ⟨r75, hr76, hp⟩ := bnd hp
   refine FL.call rfl rfl rfl (E.call Tryz.call15 (A1 rfl)) (w_laws_toCnf S73.sl a1 v1_1 (p1_1.mono ((i27.tr r46.inc).tr r64.run.inc)) hr76) ?_
   rintro e w78 ⟨H77, v81, rfl, r80, ⟨c84, ns83⟩⟩
   refine ⟨_, rfl, ?_⟩
   have h82 := ns83.rsl
   have nv85 : New H63 [v81] := New.of_up S73.sl h82.dom
   have S79 := S73.call r80
   have z86 := r80.bel.size
   have h82 := h82.mono (sg_of S79.sl)
   have ns83 := ns83.mono (sg_of S79.sl)
   obtain ⟨w87, run88, S89, z90⟩ := S79.allocB (P := Tryz.prog) 32 [Value.int .i64 0, Value.slice none 0 0] Tryz.zeroValue32 rfl (ones_cons rfl (ones_cons rfl ones_nil))
   refine FL.v (E.alloc run88) ?_
   obtain ⟨w91, run92, S93, z94⟩ := S89.store0B (P := Tryz.prog) (t := 32) (i := 0) (cs' := [Value.int .i64 r75.vars, v81]) (l' := [.box w78.heap.size 32 [Value.int .i64 r75.vars, v81]]) (v := Value.agg #[Value.int .i64 r75.vars, v81]) (c := [Value.int .i64 r75.vars, v81]) rfl Tryz.sizeOf32 rfl rfl (ones_cons rfl (ones_cons h82.one ones_nil)) (Nat.le_of_ble_eq_true rfl) rfl rfl
   refine FL.act rfl rfl (E.store rfl rfl run92) ?_
   obtain ⟨H95, S96, i97, at98⟩ := S93.sealBoxB (i := 0) (l' := []) rfl rfl
   refine FL.nil (FW.seq (FW.region ?_))
   refine FL.v (E.move (v := v3) rfl) ?_
   obtain ⟨r99, hr100, hp⟩ := bnd hp
   refine FL.call rfl rfl rfl (E.call Tryz.call33 (A1 rfl)) (w_laws_toTermS S96.sl v3 a3 (p3.mono ((((i27.tr r46.inc).tr r64.run.inc).tr r80.inc).tr i97)) hr100) ?_
   rintro e w102 ⟨H101, v105, n106, cs107, rfl, r104, els108⟩
   refine ⟨_, rfl, ?_⟩
   obtain ⟨H109, r110, i111, h112, nv113⟩ := r104.sealRowU (i := 0) (l' := []) rfl els108 (by decide) rfl
   have S103 := S96.call r110.run
   have z114 := r110.run.bel.size
   have h112 := h112.mono (sg_of S103.sl)
   refine FL.v (E.assign (v := v105) rfl) ?_
   refine FL.nil (FW.seq (FW.region ?_))
   refine FL.v (E.move (v := Value.int .i64 a0) rfl) ?_
   refine FL.v (E.load rfl (run_loadA Tryz.isAgg32 Tryz.sizeOf32 ((at98.mono (sgI.tr r110.run.inc)).now S103.sl) rfl)) ?_
   refine FL.v (E.move (v := Value.int .i64 a2) rfl) ?_
   refine FL.v (E.move (v := v105) rfl) ?_
   obtain ⟨r115, hr116, hp⟩ := bnd hp
   refine FL.call rfl rfl rfl (E.call Tryz.call39 (A4 rfl rfl rfl rfl)) (w_impl_IsInPcSpan S103.sl a0 r75 v81 (h82.mono (sgI.tr (i97.tr r110.run.inc))) a2 v105 r99 (h112.mono sgI) hr116) ?_
   rintro e w117 ⟨rfl, r118⟩
   refine ⟨_, rfl, ?_⟩
   have S119 := S103.call r118
   have z120 := r118.bel.size
   refine FL.v (E.move (v := Value.tuple #[Value.bool r115.1, Value.bool r115.2]) rfl) ?_
   refine FL.v (E.extract (i := 0) rfl rfl) ?_
   refine FL.v (E.extract (i := 1) rfl rfl) ?_
   refine FL.v (E.assign (v := Value.bool r115.1) rfl) ?_
   refine FL.v (E.assign (v := Value.bool r115.2) rfl) ?_
   refine FL.nil (FW.seq (FW.seq (FW.region ?_)))
   refine FL.v (E.move (v := Value.bool r115.1) rfl) ?_
   refine FL.v (E.move (v := Value.bool r69.1) rfl) ?_
   refine FL.v (E.neqB Tryz.runUnderlying4 rfl rfl) ?_
   refine FL.v (E.move (v := Value.bool (!(r115.1 == r69.1))) rfl) ?_
   refine FL.cut 4 (fun f w => ∃ H : GH, St Ha wa H w [] ∧ Inc H109 H ∧ f 3 = v3 ∧ f 5 = Value.pointer (some ⟨wa.heap.size, 0, none⟩) ∧ f 12 = Value.pointer (some ⟨w78.heap.size, 0, none⟩) ∧ f 13 = v105 ∧ f 55 = Value.bool (bif (!(r115.1 == r69.1)) then true else (!(r115.2 == r69.2)))) ?_ ?_
   ·
    rcases bcase (!(r115.1 == r69.1)) with c127 | c127
    ·
     refine FL.skip (wF_no rfl rfl rfl c127) rfl ?_
     refine FL.skip (wF_no rfl rfl rfl c127) rfl ?_
     refine FL.skip (wF_no rfl rfl rfl c127) rfl ?_
     refine FL.v (E.pickT rfl c127 rfl) ?_
     exact FL.nil ⟨rfl, _, S119, (Inc.rfl _), rfl, rfl, rfl, rfl, (congrArg Value.bool (bifT c127).symm)⟩
    ·
     refine FL.val (wF_yes rfl rfl rfl c127) rfl rfl (E.move (v := Value.bool r115.2) rfl) ?_
     refine FL.val (wF_yes rfl rfl rfl c127) rfl rfl (E.move (v := Value.bool r69.2) rfl) ?_
     refine FL.val (wF_yes rfl rfl rfl c127) rfl rfl (E.neqB Tryz.runUnderlying4 rfl rfl) ?_
     refine FL.v (E.pickF rfl c127 rfl) ?_
     exact FL.nil ⟨rfl, _, S119, (Inc.rfl _), rfl, rfl, rfl, rfl, (congrArg Value.bool (bifF c127).symm)⟩
   rintro f126 w125 ⟨H122, S123, i124, k128, k129, k130, k131, k132⟩
   refine FL.nil ?_
   rcases ifB hp with ⟨c133, hp⟩ | ⟨c133, hp⟩
   ·
    refine FW.condT k132 c133 ?_
    refine FW.seq (FW.region ?_)
    refine FL.v (E.assign (v := Value.bool false) rfl) ?_
    refine FL.nil ?_
    refine FW.ret ?_
    obtain rfl := Option.some.inj hp
    exact ⟨.inr rfl, res1 rfl rfl ⟨rfl, S123.back⟩⟩
   ·
    refine FW.condF k132 c133 ?_
    refine FW.skip (FW.seq (FW.seq ?_))
    obtain ⟨r121, hr137, hp⟩ := bnd hp
    obtain ⟨r148, hr149, hp⟩ := bnd hp
    refine FW.drawB (Sl H122) (fun f w => ∃ H : GH, St Ha wa H w [] ∧ Inc H122 H ∧ f 3 = v3 ∧ f 13 = v105 ∧ f 60 = Value.bool (!r148)) (by kernel_rfl) S123.sl ?_ ?_
    ·
     intro w134 r135
     have S136 := S123.call r135
     refine FB.t (i := 0) (bs 5 1) rfl (SP.nil S136.sl) rfl (fun w' hw' => (E.load k130 (run_loadA Tryz.isAgg32 Tryz.sizeOf32 ((at98.mono (sgI.tr (r110.run.inc.tr i124))).now hw') rfl))) ?_
     refine FB.t (i := 1) (bs 5 3) rfl (SP.nil S136.sl) rfl (fun w' hw' => (E.load k129 (run_loadA Tryz.isAgg24 Tryz.sizeOf24 ((at28.mono (sgI.tr (((((r46.inc.tr r64.run.inc).tr r80.inc).tr i97).tr r110.run.inc).tr i124))).now hw') rfl))) ?_
     refine FB.all1 (i := 2) (by kernel_rfl) ?_
     ·
      refine FC.call (l' := (bs 5 7)) rfl (by kernel_rfl) rfl rfl rfl (E.call Tryz.call15 (A1 rfl)) (w_laws_toCnf S136.sl a1 v1_1 (p1_1.mono ((((((i27.tr r46.inc).tr r64.run.inc).tr r80.inc).tr i97).tr r110.run.inc).tr i124)) hr137) ?_
      rintro e w139 ⟨H138, v142, rfl, r141, ⟨c145, ns144⟩⟩
      refine ⟨_, rfl, ?_⟩
      have h143 := ns144.rsl
      have nv146 : New H122 [v142] := New.of_up S136.sl h143.dom
      have S140 := S136.call r141
      have z147 := r141.bel.size
      have h143 := h143.mono (sg_of S140.sl)
      have ns144 := ns144.mono (sg_of S140.sl)
      refine ⟨(SP.nil (Sl.of_inc r141.inc S140.sl)), ?_⟩
      refine FB.all1 (i := 3) (by kernel_rfl) ?_
      ·
       refine FC.call (l' := (bs 5 15)) rfl (by kernel_rfl) rfl rfl rfl (E.call Tryz.call19 (A2 rfl rfl)) (w_laws_eqCnf S140.sl r75 v81 (h82.mono (sgI.tr (((i97.tr r110.run.inc).tr i124).tr r141.inc))) r121 v142 (h143.mono sgI) hr149) ?_
       rintro e w150 ⟨rfl, r151⟩
       refine ⟨_, rfl, ?_⟩
       have S152 := S140.call r151
       have z153 := r151.bel.size
       refine ⟨(SP.nil (Sl.of_inc r141.inc S152.sl)), ?_⟩
       refine FB.t (i := 4) (bs 5 31) rfl (SP.nil (Sl.of_inc r141.inc S152.sl)) rfl (fun w' hw' => (E.not rfl)) ?_
       exact FB.done (by kernel_rfl) ⟨_, S152, r141.inc, k128, k131, rfl⟩
    ·
     rintro f158 w157 ⟨H154, S155, i156, k159, k160, k161⟩
     rcases ifB hp with ⟨c162, hp⟩ | ⟨c162, hp⟩
     ·
      refine FW.condT k161 c162 ?_
      refine FW.seq (FW.region ?_)
      refine FL.v (E.assign (v := Value.bool false) rfl) ?_
      refine FL.nil ?_
      refine FW.ret ?_
      obtain rfl := Option.some.inj hp
      exact ⟨.inr rfl, res1 rfl rfl ⟨rfl, S155.back⟩⟩
     ·
      refine FW.condF k161 c162 ?_
      refine FW.skip (FW.seq (FW.seq (FW.region ?_)))
      refine FL.v (E.move k160) ?_
      refine FL.v (E.move k159) ?_
      obtain ⟨r163, hr164, hp⟩ := bnd hp
      refine FL.call rfl rfl rfl (E.call Tryz.call33 (A1 rfl)) (w_laws_toTermS S155.sl v3 a3 (p3.mono (((((((i27.tr r46.inc).tr r64.run.inc).tr r80.inc).tr i97).tr r110.run.inc).tr i124).tr i156)) hr164) ?_
      rintro e w166 ⟨H165, v169, n170, cs171, rfl, r168, els172⟩
      refine ⟨_, rfl, ?_⟩
      obtain ⟨H173, r174, i175, h176, nv177⟩ := r168.sealRowU (i := 0) (l' := []) rfl els172 (by decide) rfl
      have S167 := S155.call r174.run
      have z178 := r174.run.bel.size
      have h176 := h176.mono (sg_of S167.sl)
      obtain ⟨r179, hr180, hp⟩ := bnd hp
      refine FL.call rfl rfl rfl (E.call Tryz.call35 (A2 rfl rfl)) (w_laws_eqTermS S167.sl v105 r99 (h112.mono (sgI.tr ((i124.tr i156).tr r174.run.inc))) v169 r163 (h176.mono sgI) hr180) ?_
      rintro e w181 ⟨rfl, r182⟩
      refine ⟨_, rfl, ?_⟩
      have S183 := S167.call r182
      have z184 := r182.bel.size
      refine FL.v (E.not rfl) ?_
      refine FL.nil ?_
      rcases ifB hp with ⟨c185, hp⟩ | ⟨c185, hp⟩
      ·
       refine FW.condT rfl c185 ?_
       refine FW.seq (FW.region ?_)
       refine FL.v (E.assign (v := Value.bool false) rfl) ?_
       refine FL.nil ?_
       refine FW.ret ?_
       obtain rfl := Option.some.inj hp
       exact ⟨.inr rfl, res1 rfl rfl ⟨rfl, S183.back⟩⟩
      ·
       refine FW.condF rfl c185 ?_
       refine FW.skip (FW.seq (FW.region ?_))
       refine FL.v (E.assign (v := Value.bool true) rfl) ?_
       refine FL.nil ?_
       refine FW.ret ?_
       obtain rfl := Option.some.inj hp
       exact ⟨.inr rfl, res1 rfl rfl ⟨rfl, S183.back⟩⟩

end Go.Proofs
