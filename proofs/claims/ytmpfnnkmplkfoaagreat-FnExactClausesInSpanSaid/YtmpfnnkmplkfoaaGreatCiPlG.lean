/- ClausesInSpan: both sides, and the law. -/
import Derived.Test.YtmpfnnkmplkfoaaGreatCiPlF
set_option linter.unusedVariables false
namespace Go.PF
open Go.Pu
open Go.La (V Red redL isz)
theorem vis_len {n : Nat} (h : n ≤ 5) : (visN n).length ≤ 243 := by
  match n, h with
  | 0, _ => decide
  | 1, _ => decide
  | 2, _ => decide +kernel
  | 3, _ => decide +kernel
  | 4, _ => decide +kernel
  | 5, _ => decide +kernel
theorem pow_le {n : Nat} (h : n ≤ 5) : 3 ^ n ≤ 243 := by
  have : 3 ^ n ≤ 3 ^ 5 := Nat.pow_le_pow_right (by decide) h
  omega
theorem pow_loop {body : Int × Int → Option (Lp (Int × Int) Empty)} (hb : ∀ s, body s = (bif (decide (0 < s.1)) then some (Lp.nx ((wr (s.1 - 1)), (wr (s.2 * 3)))) else some (Lp.bk (s.1, s.2)))) :
    ∀ (n x : Nat), x * 3 ^ n ≤ 1000000 → n ≤ 1000 → iter body ((n : Int), (x : Int)) = some (.go (0, ((x * 3 ^ n : Nat) : Int))) := by
  intro n
  induction n with
  | zero =>
    intro x _ _
    rw [Nat.pow_zero, Nat.mul_one]
    refine iter_bk ?_
    rw [hb]; rfl
  | succ n ih =>
    intro x hx hn
    have e : x * 3 ^ (n + 1) = x * 3 * 3 ^ n := by rw [Nat.pow_succ, Nat.mul_assoc, Nat.mul_comm 3]
    have h1 : 1 ≤ 3 ^ n := Nat.one_le_pow _ _ (by decide)
    have hx3 : x * 3 ≤ 1000000 := by rw [e] at hx; exact Nat.le_trans (Nat.le_mul_of_pos_right _ h1) hx
    rw [e, ← ih (x * 3) (by rw [← e]; exact hx) (by omega)]
    refine iter_nx ?_
    rw [hb]
    simp only [show decide ((0 : Int) < ((n + 1 : Nat) : Int)) = true by rw [decide_eq_true_eq]; omega, cond_true]
    rw [wr_of _ (by omega) (by omega), wr_of _ (by omega) (by omega)]
    rw [show (((n + 1 : Nat) : Int) - 1) = (n : Int) by omega, show ((x : Int) * 3) = ((x * 3 : Nat) : Int) by omega]
theorem spec_l21Power_eq {n : Nat} (h : n ≤ 5) : spec_l21Power (n : Int) = some ((3 ^ n : Nat) : Int) := by
  unfold spec_l21Power
  have := pow_loop (body := (fun s21 => (bif (decide (0 < s21.1)) then some (Lp.nx ((wr (s21.1 - 1)), (wr (s21.2 * 3)))) else some (Lp.bk (s21.1, s21.2))))) (fun _ => rfl) n 1 (by have := pow_le h; omega) (by omega)
  rw [Nat.one_mul] at this
  change iter _ ((n : Int), (1 : Int)) = _ at this
  rw [this, bdR_go]
theorem dec_loop {v0 : Int} (hV : v0 ≤ 5) {body : List Int × Int × Int → Option (Lp (List Int × Int × Int) Empty)}
    (hb : ∀ s, body s = (bif (decide (s.2.2 ≤ v0)) then (bif (decide (0 < (s.2.1.tmod 3))) then bd (app s.1 [(wr (s.2.2 * (wr (3 - (wr (2 * (s.2.1.tmod 3)))))))]) (fun xs => some (Lp.nx (xs, (wr (s.2.1.tdiv 3)), (wr (s.2.2 + 1))))) else some (Lp.nx (s.1, (wr (s.2.1.tdiv 3)), (wr (s.2.2 + 1))))) else some (Lp.bk (s.1, s.2.1, s.2.2)))) :
    ∀ (n : Nat) (v : Int) (k : Nat) (acc : List Int), 1 ≤ v → v + n = v0 + 1 → k ≤ 1000 → acc.length + n ≤ 100 → ∃ r, iter body (acc, (k : Int), v) = some (.go (acc ++ decN n v k, r)) := by
  intro n
  induction n with
  | zero =>
    intro v k acc hv hn _ _
    refine ⟨((k : Int), v), ?_⟩
    rw [decN, List.append_nil]
    refine iter_bk ?_
    rw [hb, show decide (v ≤ v0) = false by rw [decide_eq_false_iff_not]; omega]; rfl
  | succ n ih =>
    intro v k acc hv hn hk ha
    have e0 : decide (v ≤ v0) = true := by rw [decide_eq_true_eq]; omega
    have e1 : ((k : Nat) : Int).tmod 3 = ((k % 3 : Nat) : Int) := rfl
    have e2 : wr (((k : Nat) : Int).tdiv 3) = ((k / 3 : Nat) : Int) := by
      have : ((k : Nat) : Int).tdiv 3 = ((k / 3 : Nat) : Int) := rfl
      rw [this]; exact wr_of _ (by omega) (by omega)
    have e3 : wr (v + 1) = v + 1 := wr_of _ (by omega) (by omega)
    have h3 : k % 3 < 3 := Nat.mod_lt _ (by decide)
    unfold decN
    by_cases hz : k % 3 = 0
    · obtain ⟨r, hr⟩ := ih (v + 1) (k / 3) acc (by omega) (by omega) (by omega) (by omega)
      refine ⟨r, ?_⟩
      rw [hz, show ((0 : Nat) == 0) = true from rfl, cond_true, List.nil_append, ← hr]
      refine iter_nx ?_
      rw [hb]
      simp only [e0, e1, e2, e3, hz, cond_true]
      rfl
    · obtain ⟨r, hr⟩ := ih (v + 1) (k / 3) (acc ++ [v * (3 - 2 * ((k % 3 : Nat) : Int))]) (by omega) (by omega) (by omega) (by simp; omega)
      refine ⟨r, ?_⟩
      rw [show (k % 3 == 0) = false by rw [beq_eq_false_iff_ne]; exact hz, cond_false, ← List.append_assoc, ← hr]
      refine iter_nx ?_
      rw [hb]
      have e4 : wr (v * wr (3 - wr (2 * ((k % 3 : Nat) : Int)))) = v * (3 - 2 * ((k % 3 : Nat) : Int)) := by
        rw [wr_of (2 * ((k % 3 : Nat) : Int)) (by omega) (by omega), wr_of (3 - 2 * ((k % 3 : Nat) : Int)) (by omega) (by omega)]
        have : k % 3 = 1 ∨ k % 3 = 2 := by omega
        rcases this with h | h <;> rw [h] <;> exact wr_of _ (by omega) (by omega)
      simp only [e0, e1, e2, e3, e4, cond_true, show decide ((0 : Int) < ((k % 3 : Nat) : Int)) = true by rw [decide_eq_true_eq]; omega]
      rw [app_ok (by unfold lim; simp; omega), bd_some]
noncomputable def inS {p v : Int} (h : PV p v) (d : Int) (R : List (List Int)) (c : List Int) : Bool := decide (len c ≤ d) && isz (redL (cx h) R (clD p (nN v) c))
noncomputable def civL {p v : Int} (h : PV p v) (d : Int) (R : List (List Int)) (n : Nat) : List (List Int) := (List.range (3 ^ n)).foldl (fun s i => bif inS h d R (decN n 1 i) then putC s (decN n 1 i) else s) []
theorem foldP {w : Int} {g : Nat → List Int} {q : List Int → Bool} : ∀ {l : List Nat} {s : List (List Int)} {m : Nat}, Cfg w m s → (∀ i ∈ l, IsC w (g i)) → Cfg w (m + l.length) (l.foldl (fun s i => bif q (g i) then putC s (g i) else s) s) ∧ ∀ x, x ∈ l.foldl (fun s i => bif q (g i) then putC s (g i) else s) s ↔ x ∈ s ∨ ∃ i ∈ l, g i = x ∧ q x = true := by
  intro l
  induction l with
  | nil => intro s m h _; exact ⟨h, fun x => ⟨.inl, fun h => h.elim id fun ⟨_, h, _⟩ => nomatch h⟩⟩
  | cons i l ih =>
    intro s m h hc
    have hs : Cfg w (m + 1) (bif q (g i) then putC s (g i) else s) := by
      cases q (g i) with
      | true => exact h.put (hc i (by simp))
      | false => exact ⟨h.srt, Nat.le_succ_of_le h.len, h.cl⟩
    obtain ⟨h1, h2⟩ := ih hs fun j hj => hc j (by simp [hj])
    refine ⟨⟨h1.srt, by have := h1.len; simp only [List.length_cons, List.foldl_cons]; omega, h1.cl⟩, fun x => ?_⟩
    rw [List.foldl_cons, h2]
    have key : x ∈ (bif q (g i) then putC s (g i) else s) ↔ x ∈ s ∨ (g i = x ∧ q x = true) := by
      cases hq : q (g i) with
      | true =>
        rw [cond_true, putC_mem]
        exact ⟨fun h => h.elim (fun h => .inr ⟨h.symm, by rw [h]; exact hq⟩) .inl, fun h => h.elim .inr fun h => .inl h.1.symm⟩
      | false =>
        rw [cond_false]
        exact ⟨.inl, fun h => h.elim id fun ⟨h3, h4⟩ => by rw [← h3, hq] at h4; cases h4⟩
    rw [key]
    constructor
    · rintro ((h | h) | ⟨j, hj, h⟩)
      · exact .inl h
      · exact .inr ⟨i, by simp, h⟩
      · exact .inr ⟨j, by simp [hj], h⟩
    · rintro (h | ⟨j, hj, h⟩)
      · exact .inl (.inl h)
      · rcases List.mem_cons.1 hj with rfl | hj
        · exact .inl (.inr h)
        · exact .inr ⟨j, hj, h⟩
theorem dec_isC {n : Nat} (h : n ≤ 5) {i : Nat} (hi : i ∈ List.range (3 ^ n)) : IsC (n : Int) (decN n 1 i) := by
  obtain ⟨h1, _, h3⟩ := tab_parts h
  exact h1 _ ((h3 _).2 (List.mem_map.2 ⟨i, hi, rfl⟩))
theorem civL_ok {p v : Int} (h : PV p v) (d : Int) (R : List (List Int)) {n : Nat} (hn : n ≤ 5) (hv : v = (n : Int)) : Cfg v 243 (civL h d R n) ∧ ∀ x, x ∈ civL h d R n ↔ x ∈ visN n ∧ inS h d R x = true := by
  subst hv
  obtain ⟨h1, h2⟩ := foldP (q := inS h d R) (g := decN n 1) (w := (n : Int)) (l := List.range (3 ^ n)) (s := []) (m := 0) Cfg.nil fun i hi => dec_isC hn hi
  obtain ⟨_, _, t3⟩ := tab_parts hn
  refine ⟨⟨h1.srt, by have := h1.len; have := pow_le hn; rw [List.length_range] at *; unfold civL; omega, h1.cl⟩, fun x => (h2 x).trans ?_⟩
  rw [t3]
  unfold allN
  rw [List.mem_map]
  exact ⟨fun h => h.elim nofun fun ⟨i, hi, e, hq⟩ => ⟨⟨i, hi, e⟩, hq⟩, fun ⟨⟨i, hi, e⟩, hq⟩ => .inr ⟨i, hi, e, hq⟩⟩
noncomputable def civV (p : Int) (F : Cnf) (d : Int) : List (List Int) × Bool :=
  if h : pvB p F.vars = true then (bif (cnfB F && inB d 0 6) && !decide (5 < F.vars) then (civL (pvB_iff.1 h) d (basS (pvB_iff.1 h) d F.clauses) F.vars.toNat, true) else ([], false)) else ([], false)
theorem spec_ClausesInSpan_eq {p : Int} {F : Cnf} (hF : okCnf F) (d : Int) : spec_ClausesInSpan p F d = some (civV p F d) := by
  unfold spec_ClausesInSpan civV
  rw [spec_l20Asked_eq hF, bd_some, spec_l20Degree_eq]
  cases ha : algB p F with
  | false =>
    simp only [Bool.not_false, cond_true]
    by_cases h : pvB p F.vars = true
    · rw [dif_pos h]
      have : cnfB F = false := by
        cases hc : cnfB F with
        | true => rw [algB_iff.2 ⟨pvB_iff.1 h, hc⟩] at ha; cases ha
        | false => rfl
      rw [this]; rfl
    · rw [dif_neg h]
  | true =>
    obtain ⟨h, hc⟩ := algB_iff.1 ha
    rw [dif_pos (pvB_iff.2 h), hc]
    cases hd : inB d 0 6 with
    | false => rfl
    | true =>
      cases h5 : decide (5 < F.vars) with
      | true => rfl
      | false =>
        have h5' := of_decide_eq_false h5
        obtain ⟨n, hn⟩ : ∃ n : Nat, F.vars = (n : Int) := ⟨F.vars.toNat, by have := h.v0; omega⟩
        have hn5 : n ≤ 5 := by omega
        have hnt : F.vars.toNat = n := by omega
        have hR := (basS_ok h d F.clauses).1
        simp only [Bool.not_true, cond_false, Bool.and_self, cond_true, Bool.not_false]
        rw [spec_l20Basis_eq h hc, bd_some, hnt]
        generalize basS (pvB_iff.1 (pvB_iff.2 h)) d F.clauses = R at hR ⊢
        refine bdR_mk (fun (s : List (List Int)) i => (s, i)) (xs := List.range (3 ^ n)) (F := fun s i => bif inS h d R (decN n 1 i) then putC s (decN n 1 i) else s) (fun i s => Cfg F.vars i s) rfl Cfg.nil (fun i x s hx hI => ?_) (fun s hI => ?_) (fun _ => ?_)
        · have hi := (List.getElem?_eq_some_iff.1 hx).1
          rw [List.length_range] at hi
          have hxi : x = i := by rw [List.getElem?_range hi] at hx; exact (Option.some.inj hx).symm
          subst hxi
          have hp3 := pow_le hn5
          have hcc : IsC F.vars (decN n 1 x) := by rw [hn]; exact dec_isC hn5 (List.mem_range.2 hi)
          obtain ⟨r, hr⟩ := dec_loop (v0 := F.vars) (by omega) (body := (fun s60227 => (bif (decide (s60227.2.2 ≤ F.vars)) then (bif (decide (0 < (s60227.2.1.tmod 3))) then bd (app s60227.1 [(wr (s60227.2.2 * (wr (3 - (wr (2 * (s60227.2.1.tmod 3)))))))]) (fun xs60285 => some (Lp.nx (xs60285, (wr (s60227.2.1.tdiv 3)), (wr (s60227.2.2 + 1))))) else some (Lp.nx (s60227.1, (wr (s60227.2.1.tdiv 3)), (wr (s60227.2.2 + 1))))) else some (Lp.bk (s60227.1, s60227.2.1, s60227.2.2))))) (fun _ => rfl) n 1 x [] (by omega) (by omega) (by omega) (by simp; omega)
          rw [List.nil_append] at hr
          have hpw := spec_l21Power_eq hn5
          rw [← hn] at hpw
          have hdn := (clD_Dn (p := p) (N := nN F.vars) h.pos.1 (decN n 1 x)).v h.pos.1
          have w1 : wr ((x : Int) + 1) = (x : Int) + 1 := wr_of _ (by omega) (by omega)
          simp only
          rw [hpw, bd_some, show decide ((x : Int) < ((3 ^ n : Nat) : Int)) = true by rw [decide_eq_true_eq]; omega, cond_true, hr, bdR_go]
          simp only
          have hI1 : Cfg F.vars (x + 1) (bif inS h d R (decN n 1 x) then putC s (decN n 1 x) else s) := by
            cases inS h d R (decN n 1 x) with
            | true => exact hI.put hcc
            | false => exact ⟨hI.srt, Nat.le_succ_of_le hI.len, hI.cl⟩
          refine ⟨?_, hI1⟩
          unfold inS
          cases hl : decide (len (decN n 1 x) ≤ d) with
          | false =>
            simp only [cond_false, bd_some, Bool.false_and, w1]
          | true =>
            simp only [cond_true, Bool.true_and]
            rw [spec_l18Clause_eq h hcc, bd_some, spec_l20Rest_eq h hR hdn, bd_some, isz_len, bd_some]
            cases isz (redL (cx h) R (clD p (nN F.vars) (decN n 1 x))) with
            | false => simp only [cond_false, w1]
            | true => simp only [cond_true]; rw [spec_l2Insert_eq hI (by omega) hcc.small, bd_some, w1]
        · have hpw := spec_l21Power_eq hn5
          rw [← hn] at hpw
          simp only
          rw [hpw, bd_some, List.length_range, show decide (((3 ^ n : Nat) : Int) < ((3 ^ n : Nat) : Int)) = false by rw [decide_eq_false_iff_not]; omega, cond_false]
        · rfl
theorem foldO_filter {q : List Int → Bool} {f : List Int → List (List Int) → Option (List (List Int))} {B : Nat} : ∀ {l s : List (List Int)}, s.length + l.length ≤ B → (∀ c ∈ l, ∀ s : List (List Int), s.length < B → f c s = some (bif q c then s ++ [c] else s)) → foldO f l s = some (s ++ l.filter q) := by
  intro l
  induction l with
  | nil => intro s _ _; simp [foldO]
  | cons c l ih =>
    intro s hl hf
    simp only [List.length_cons] at hl
    unfold foldO
    rw [hf c (by simp) s (by omega), bd_some, ih (by cases q c <;> simp <;> omega) fun d hd => hf d (by simp [hd])]
    cases h : q c <;> simp [h]
theorem impl_isZero_eq {a : List Int} (h : a.length ≤ 64) : impl_dense_isZero a = some (isz a) := by
  unfold impl_dense_isZero
  rw [impl_dense_degree_eq h, bd_some, isz_bst]
  unfold dgI
  cases bst a with
  | none => rfl
  | some z => rfl
theorem impl_ClausesInSpan_eq {p : Int} {F : Cnf} (hF : okCnf F) (d : Int) : impl_ClausesInSpan p F d = some (civV p F d) := by
  unfold impl_ClausesInSpan civV
  rw [impl_spanOf_eq hF, bd_some]
  by_cases hpv : pvB p F.vars = true
  · rw [dif_pos hpv, dif_pos hpv]
    have h := pvB_iff.1 hpv
    have hp := h.pos
    cases hc : cnfB F && inB d 0 6 with
    | false => rfl
    | true =>
      cases h5 : decide (5 < F.vars) with
      | true => simp only [cond_true, Bool.not_true, cond_false, Bool.and_false]
      | false =>
        have h5' := of_decide_eq_false h5
        obtain ⟨n, hn⟩ : ∃ n : Nat, F.vars = (n : Int) := ⟨F.vars.toNat, by have := h.v0; omega⟩
        have hn5 : n ≤ 5 := by omega
        have hnt : F.vars.toNat = n := by omega
        obtain ⟨hR, _⟩ := basS_ok (pvB_iff.1 hpv) d F.clauses
        have hl : (basS (pvB_iff.1 hpv) d F.clauses).length ≤ 64 := Nat.le_trans hR.len (nN_le h.v6).2
        generalize basS (pvB_iff.1 hpv) d F.clauses = R at *
        obtain ⟨t1, t2, t3⟩ := tab_parts hn5
        obtain ⟨g1, g2⟩ := civL_ok h d R hn5 hn
        have hvl := vis_len hn5
        have hstep : ∀ c ∈ visN n, ∀ s : List (List Int), s.length < 1000 → impl_ClausesInSpan_1 (some (alg p F)) (some (echelon.mk ⟨p, F.vars⟩ R (List.replicate R.length []) ((R.length : Nat) : Int))) d c s = some (bif inS h d R c then s ++ [c] else s) := by
          intro c hcm s hs
          have hcc : IsC F.vars c := by rw [hn]; exact t1 c hcm
          have hdn := (clD_Dn (p := p) (N := nN F.vars) hp.1 c).v hp.1
          unfold impl_ClausesInSpan_1 inS
          cases hd : decide (d < len c) with
          | true =>
            rw [show decide (len c ≤ d) = false by rw [decide_eq_false_iff_not]; have := of_decide_eq_true hd; omega]; rfl
          | false =>
            rw [show decide (len c ≤ d) = true by rw [decide_eq_true_eq]; have := of_decide_eq_false hd; omega]
            simp only [cond_false, bd_some, Bool.true_and]
            rw [show (alg p F).ring = (⟨p, F.vars⟩ : ring) from rfl, impl_ring_clause_eq (r := ⟨p, F.vars⟩) h hcc, bd_some, mk2_ok (by unfold lim; omega), bd_some]
            obtain ⟨md, e1⟩ := red_loop h hR (rep_Mk R.length) hdn (fun _ _ _ => rfl)
            refine (congrArg (fun z => bd (bdR z _ _) _) e1).trans ?_
            rw [bdR_go, bd_some]
            have hv : V p (nN F.vars) (redL (cx h) R (clD p (nN F.vars) c)) := (Go.La.redL_spec hR hdn).1
            simp only
            rw [impl_isZero_eq (v64 h hv), bd_some]
            cases isz (redL (cx h) R (clD p (nN F.vars) c)) with
            | false => rfl
            | true =>
              simp only [cond_true]
              rw [slices_Clone_int_int_eq (by have := hcc.len; unfold lim; omega), bd_some, app_ok (by unfold lim; simp; omega), bd_some]
        have hf := foldO_filter (B := 1000) (s := []) (by simp; omega) hstep
        rw [List.nil_append] at hf
        have nd : ((visN n).filter (inS h d R)).Nodup := t2.filter _
        have hsort : slices_SortFunc_LLint_Lint ((visN n).filter (inS h d R)) (fun x0 x1 => PF.impl_compareClauses x0 x1) = some (((visN n).filter (inS h d R)).mergeSort (leF fun x0 x1 => PF.impl_compareClauses x0 x1)) := by
          unfold slices_SortFunc_LLint_Lint sortF
          rw [if_pos]
          exact ⟨cmpC, by have := List.length_filter_le (inS h d R) (visN n); unfold lim; omega, fun x _ y _ => impl_compareClauses_eq x y, fun x _ => cmpC_irrefl x, fun x _ y _ z _ h1 h2 => cmpC_trans h1 h2, fun x _ y _ z _ h1 h2 => cmpC_ntrans h1 h2, fun x _ y _ h1 h2 => cmpC_total h1 h2⟩
        have hsr : SrtC (((visN n).filter (inS h d R)).mergeSort (leF fun x0 x1 => PF.impl_compareClauses x0 x1)) := by
          have nd2 := (List.mergeSort_perm ((visN n).filter (inS h d R)) (leF fun x0 x1 => PF.impl_compareClauses x0 x1)).nodup_iff.2 nd
          refine ((sorted_config _).and nd2).imp fun {a b} ⟨h1, h2⟩ => ?_
          by_cases h3 : cmpC a b < 0
          · exact h3
          · exact absurd (cmpC_total h3 h1) h2
        have heq : ((visN n).filter (inS h d R)).mergeSort (leF fun x0 x1 => PF.impl_compareClauses x0 x1) = civL h d R n := srt_ext hsr g1.srt fun x => by
          rw [(List.mergeSort_perm _ _).mem_iff, List.mem_filter, g2]
        simp only [cond_true, Bool.not_true, cond_false, Bool.not_false, Bool.and_self, show decide (F.vars < 0) = false by rw [decide_eq_false_iff_not]; omega, hnt]
        rw [show ([] :: visL n 1 [] : List (List Int)) = visN n from rfl, hf, bd_some, hsort, bd_some, heq]
  · rw [dif_neg hpv, dif_neg hpv]; rfl
theorem civV_small {p : Int} {F : Cnf} {d : Int} : tot wIntS (civV p F d).1 ≤ 3000 := by
  unfold civV
  by_cases hpv : pvB p F.vars = true
  · rw [dif_pos hpv]
    have h := pvB_iff.1 hpv
    cases hc : (cnfB F && inB d 0 6) && !decide (5 < F.vars) with
    | false => exact Nat.zero_le _
    | true =>
      have h5 := (Bool.and_eq_true _ _).mp hc
      rw [Bool.not_eq_true', decide_eq_false_iff_not] at h5
      have h0 := h.v0
      obtain ⟨g1, _⟩ := civL_ok (pvB_iff.1 hpv) d (basS (pvB_iff.1 hpv) d F.clauses) (n := F.vars.toNat) (by omega) (by omega)
      have key : ∀ l : List (List Int), (∀ c ∈ l, c.length ≤ 12) → tot wIntS l ≤ 12 * l.length := by
        intro l
        induction l with
        | nil => intro _; exact Nat.le_refl _
        | cons c l ih =>
          intro h
          have := h c (by simp); have := ih fun d hd => h d (by simp [hd])
          simp only [tot, wIntS, List.length_cons]; omega
      have := key _ fun c hx => (g1.cl c hx).len
      have := g1.len
      simp only [cond_true]; omega
  · rw [dif_neg hpv]; exact Nat.zero_le _
theorem plain_ClausesInSpan (a0 : Int) (a1 : Cnf) (a2 : Int) (o : okI a0) (o0 : okCnf a1) (o1 : okI a2) : laws_FnExactClausesInSpan a0 a1 a2 = some true := by
  unfold laws_FnExactClausesInSpan
  obtain ⟨r0, q0, z0⟩ := sz_Cnf o0 (s := 1048576) (by omega) (by omega)
  rw [q0, bd_some]
  by_cases n0 : r0 < 0
  · simp [n0]
  simp only [n0, decide_false, cond_false]
  have t0 := to_Cnf (a := a1) (by unfold lim; omega)
  have hs := spec_ClausesInSpan_eq (p := a0) o0 a2
  have hi := impl_ClausesInSpan_eq (p := a0) o0 a2
  have hm := civV_small (p := a0) (F := a1) (d := a2)
  generalize civV a0 a1 a2 = g at hs hi hm
  have w0 : tot wIntS a1.clauses ≤ 1048576 := by unfold wCnf wIntSS at z0; omega
  have m0 := mark_Cnf (a := a1) (k := 1) (by omega) (by unfold big; omega)
  have mg := mark_IntSS (a := g.1) (k := 1) (by omega) (by unfold big; omega)
  have hg := held_IntSS (a := g.1) (k := 1) (by omega) (by unfold big; omega)
  have d1 : decide ((laws_markCnf a1 1).2 < 0) = false := by rw [decide_eq_false_iff_not]; omega
  have d2 : decide ((laws_markIntSS g.1 1).2 < 0) = false := by rw [decide_eq_false_iff_not]; omega
  simp only [t0, hs, hi, hg, d1, d2, bd_some, eq_IntSS, eq_Cnf, BEq.rfl, Bool.not_true, cond_false, bif_tt, Bool.or_false]
end Go.PF
