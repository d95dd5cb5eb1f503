/- Configurations of clauses: the reference's step and the program's step come to the same. -/
import Derived.Test.YtmpfnnkmplkfoaaGreatCrPlCs
set_option linter.unusedVariables false
namespace Go.PF
open Go.Pu
theorem IsC.small {V : Int} {c : List Int} (h : IsC V c) : PF.sm c := fun x hx => by have := h.lit x hx; have := h.hi; omega
theorem res_isC {V : Int} {a b : List Int} {v : Int} (ha : IsC V a) (hb : IsC V b) (h : (res a b v).2 = true) : IsC V (res a b v).1 := by
  unfold res at h ⊢
  cases hc : !a.contains v || !b.contains (wr (-v)) with
  | true => rw [hc] at h; cases h
  | false =>
    rw [hc] at h
    simp only [cond_false] at h ⊢
    unfold joined at h ⊢
    have sa : Srt (without a v) := ha.srt.sublist List.filter_sublist
    have sb : Srt (without b v) := hb.srt.sublist List.filter_sublist
    have ma : Sm (without a v) := fun x hx => ha.sm x (List.mem_filter.1 hx).1
    have mb : Sm (without b v) := fun x hx => hb.sm x (List.mem_filter.1 hx).1
    have hj := joinL_spec sa ma sb mb
    split at hj
    · rw [hj] at h; cases h
    · obtain ⟨t, h1, h2, h3⟩ := hj
      rw [h1]
      refine ⟨ha.lo, ha.hi, fun l hl => ?_, h2⟩
      rcases (h3 l).1 hl with hl | hl
      · exact ha.lit l (List.mem_filter.1 hl).1
      · exact hb.lit l (List.mem_filter.1 hl).1
/-! a configuration -/
structure Cfg (V : Int) (n : Nat) (xs : List (List Int)) : Prop where
  srt : SrtC xs
  len : xs.length ≤ n
  cl : ∀ c ∈ xs, IsC V c
theorem Cfg.nil {V : Int} {n : Nat} : Cfg V n [] := ⟨.nil, Nat.zero_le _, nofun⟩
theorem Cfg.at {V : Int} {n : Nat} {xs : List (List Int)} (h : Cfg V n xs) {k : Int} (hk : inB k 0 ((xs.length : Int) - 1) = true) : ∃ c, ix xs k = some c ∧ xs[k.toNat]? = some c ∧ IsC V c := by
  have := inB_iff.1 hk
  obtain ⟨c, h1, h2⟩ := ix_of (xs := xs) (i := k) (by omega) (by omega)
  exact ⟨c, h1, h2, h.cl c (List.mem_of_getElem? h2)⟩
theorem Cfg.put {V : Int} {n : Nat} {xs : List (List Int)} (h : Cfg V n xs) {c : List Int} (hc : IsC V c) : Cfg V (n + 1) (putC xs c) := by
  refine ⟨putC_srt h.srt, ?_, fun d hd => ?_⟩
  · have := putC_len xs c; have := h.len; omega
  · rcases putC_mem.1 hd with rfl | hd
    · exact hc
    · exact h.cl d hd
theorem putC_new {xs : List (List Int)} {c : List Int} (h : xs.contains c = false) : putC xs c = insC xs c := by unfold putC; rw [h]; rfl
theorem spec_l2Place_eq {V : Int} {n : Nat} {xs : List (List Int)} (h : Cfg V n xs) (hn : n ≤ 100000) {c : List Int} (hc : sm c) : spec_l2Place xs c = some (plc xs c : Int) := by
  unfold spec_l2Place
  have hl := h.len
  rw [len_eq, bsearch (n := xs.length) (P := plc xs c) (plc_le xs c) (fun a b hab hb => ?_) (fun a ha => ?_)]
  · rfl
  · have w1 : wr ((a : Int) + b) = ((a + b : Nat) : Int) := by rw [wr_of _ (by omega) (by omega)]; omega
    have w2 : wr (((a + b : Nat) : Int).tdiv 2) = (((a + b) / 2 : Nat) : Int) := by
      rw [Int.tdiv_eq_ediv_of_nonneg (by omega)]
      rw [wr_of _ (by omega) (by omega)]; omega
    have w3 : wr ((((a + b) / 2 : Nat) : Int) + 1) = (((a + b) / 2 + 1 : Nat) : Int) := by rw [wr_of _ (by omega) (by omega)]; omega
    obtain ⟨x, hx⟩ : ∃ x, xs[(a + b) / 2]? = some x := ⟨_, List.getElem?_eq_getElem (by omega)⟩
    have hp := plc_lt h.srt (c := c) hx
    simp only [show decide ((a : Int) < (b : Int)) = true by rw [decide_eq_true_eq]; omega, cond_true, w1, w2, w3, ix_get, hx, bd_some]
    rw [spec_l2Before_eq (h.cl x (List.mem_of_getElem? hx)).small hc, bd_some]
    by_cases hlt : (a + b) / 2 < plc xs c
    · rw [if_pos hlt, show decide (cmpC x c < 0) = true by rw [decide_eq_true_eq]; exact hp.2 hlt]; rfl
    · rw [if_neg hlt, show decide (cmpC x c < 0) = false by rw [decide_eq_false_iff_not]; exact fun h => hlt (hp.1 h)]; rfl
  · simp only [show decide ((a : Int) < (a : Int)) = false by rw [decide_eq_false_iff_not]; omega, cond_false]
theorem plc_test {V : Int} {n : Nat} {xs : List (List Int)} (h : Cfg V n xs) {c : List Int} :
    (bd (bif (decide (((plc xs c : Nat) : Int) < len xs)) then bd (ix xs ((plc xs c : Nat) : Int)) (fun x => bd (spec_l1Same x c) (fun r => some r)) else some false) fun t => some t) = some (xs.contains c) := by
  have hm := plc_mem h.srt (c := c)
  by_cases hlt : plc xs c < xs.length
  · have hx : xs[plc xs c]? = some xs[plc xs c] := List.getElem?_eq_getElem hlt
    rw [show decide (((plc xs c : Nat) : Int) < len xs) = true by rw [decide_eq_true_eq, len_eq]; omega, cond_true, ix_get, hx, bd_some, spec_l1Same_eq]
    simp only [bd_some]
    congr 1
    rw [Bool.eq_iff_iff, beq_iff_eq, List.contains_iff_mem, hm, hx]
    exact ⟨fun h => by rw [h], fun h => Option.some.inj h⟩
  · rw [show decide (((plc xs c : Nat) : Int) < len xs) = false by rw [decide_eq_false_iff_not, len_eq]; omega, cond_false, bd_some]
    congr 1
    rw [eq_comm, Bool.eq_false_iff]
    intro hc
    rw [List.contains_iff_mem, hm, List.getElem?_eq_none (by omega)] at hc
    cases hc
theorem bd_test {β : Type} {x : Option Bool} {b : Bool} {k : Bool → Option β} (h : (bd x fun t => some t) = some b) : bd x k = k b := by
  cases x with
  | none => cases h
  | some y => cases h; rfl
theorem spec_l2At_eq {V : Int} {n : Nat} {xs : List (List Int)} (h : Cfg V n xs) (hn : n ≤ 100000) {c : List Int} (hc : sm c) : spec_l2At xs c = some (bif xs.contains c then (plc xs c : Int) else -1) := by
  unfold spec_l2At
  rw [spec_l2Place_eq h hn hc, bd_some, bd_test (plc_test h)]
  cases xs.contains c <;> rfl
theorem at_ge {xs : List (List Int)} {c : List Int} : decide ((0 : Int) ≤ bif xs.contains c then (plc xs c : Int) else -1) = xs.contains c := by
  cases xs.contains c with
  | true => simp only [cond_true]; rw [decide_eq_true_eq]; omega
  | false => rfl
theorem spec_l2Insert_eq {V : Int} {n : Nat} {xs : List (List Int)} (h : Cfg V n xs) (hn : n ≤ 100000) {c : List Int} (hc : sm c) : spec_l2Insert xs c = some (putC xs c) := by
  unfold spec_l2Insert putC
  rw [spec_l2Place_eq h hn hc, bd_some, bd_test (plc_test h)]
  have hp := plc_le xs c
  have hl := h.len
  have hlim : lim = 4294967296 := rfl
  cases xs.contains c with
  | true => rfl
  | false =>
    simp only [cond_false]
    have c1 : cut xs 0 ((plc xs c : Nat) : Int) = some (xs.take (plc xs c)) := by
      have := cut_ok (xs := xs) (a := 0) (b := plc xs c) (Nat.zero_le _) hp
      simpa using this
    have c2 : cut xs ((plc xs c : Nat) : Int) (len xs) = some (xs.drop (plc xs c)) := by
      have := cut_ok (xs := xs) (a := plc xs c) (b := xs.length) hp (Nat.le_refl _)
      rw [List.take_length] at this; exact this
    rw [c1, bd_some, app_ok (by simp; omega), bd_some, List.nil_append, app_ok (by simp; omega), bd_some, c2, bd_some, app_ok (by simp; omega), bd_some]
    unfold insC
    rw [List.append_assoc]; rfl
/-! membership, as the program asks for it -/
theorem slices_IndexFunc_LL_ge {c : List (List Int)} {f : List Int → Option Bool} {g : List Int → Bool} (h : ∀ y ∈ c, f y = some (g y)) : ∃ r, slices_IndexFunc_LLint_Lint c f = some r ∧ decide (0 ≤ r) = c.any g := by
  unfold slices_IndexFunc_LLint_Lint
  rw [forL_find (p := fun _ y => g y) (v := fun i _ => (i : Int)) (fun i y hy => by rw [h y (List.mem_of_getElem? hy), bd_some])]
  cases hf : findI (fun _ y => g y) c 0 with
  | none =>
    refine ⟨-1, rfl, ?_⟩
    have := findI_none.1 hf
    rw [anyI_any] at this; rw [this]; rfl
  | some z =>
    obtain ⟨_, _, _, h4⟩ := findI_some hf
    rw [anyI_any] at h4
    exact ⟨_, rfl, by rw [h4]; simp⟩
theorem any_contains (xs : List (List Int)) (c : List Int) : (xs.any fun y => c == y) = xs.contains c := by
  induction xs with
  | nil => rfl
  | cons x xs ih => rw [List.any_cons, List.contains_cons, ih]
theorem impl_hasList_eq (xs : List (List Int)) (c : List Int) : impl_hasList xs c = some (xs.contains c) := by
  unfold impl_hasList impl_indexOf
  obtain ⟨r, h1, h2⟩ := slices_IndexFunc_LL_ge (c := xs) (f := fun x0 => impl_indexOf_1 x0 c) (g := fun y => c == y) (fun y _ => by unfold impl_indexOf_1; rw [slices_Equal_int_int_eq]; rfl)
  rw [h1, bd_some, bd_some, h2, any_contains]
theorem impl_config_with_eq {V : Int} {n : Nat} {xs : List (List Int)} (h : Cfg V n xs) (hn : n ≤ 100000) (c : List Int) : impl_config_with xs c = some (bif xs.contains c then ([], false) else (putC xs c, true)) := by
  unfold impl_config_with
  rw [impl_hasList_eq, bd_some]
  have hl := h.len
  have hlim : lim = 4294967296 := rfl
  cases hc : xs.contains c with
  | true => rfl
  | false =>
    have hnc : c ∉ xs := fun h1 => by rw [← List.contains_iff_mem, hc] at h1; cases h1
    simp only [cond_false]
    unfold slices_Clone_impl_config_Lint
    rw [app_ok (by simp; omega), bd_some, List.nil_append, bd_some, app_ok (by simp; omega), bd_some, sort_config (by simp; omega), bd_some]
    congr 2
    rw [putC_new hc]
    refine srt_ext (srt_with h.srt hnc) (insC_srt h.srt hnc) fun x => ?_
    rw [(List.mergeSort_perm (xs ++ [c]) _).mem_iff, insC_mem, List.mem_append, List.mem_singleton]
    exact or_comm
/-! steps -/
def puts (F : Cnf) (now : List (List Int)) (s : SpaceStep) : List Int × Bool :=
  bif s.kind == 1 then
    bif inB s.a 0 ((F.clauses.length : Int) - 1) && (s.b == 0 && s.pivot == 0) then ((F.clauses[s.a.toNat]?).getD [], true) else ([], false)
  else bif s.kind == 2 then
    bif inB s.a 0 ((now.length : Int) - 1) && (inB s.b 0 ((now.length : Int) - 1) && inB s.pivot 1 F.vars) then res ((now[s.a.toNat]?).getD []) ((now[s.b.toNat]?).getD []) s.pivot else ([], false)
  else ([], false)
def gone (now : List (List Int)) (s : SpaceStep) : Bool := inB s.a 0 ((now.length : Int) - 1) && (s.b == 0 && s.pivot == 0)
def nxt (F : Cnf) (now : List (List Int)) (s : SpaceStep) : List (List Int) × Bool :=
  bif s.kind == 3 then (bif gone now s then (now.eraseIdx s.a.toNat, true) else ([], false))
  else bif (puts F now s).2 && !now.contains (puts F now s).1 then (putC now (puts F now s).1, true) else ([], false)
theorem puts_isC {F : Cnf} {now : List (List Int)} {n : Nat} (hF : cnfB F = true) (h : Cfg F.vars n now) {s : SpaceStep} (hp : (puts F now s).2 = true) : IsC F.vars (puts F now s).1 := by
  have hcl : ∀ c ∈ F.clauses, IsC F.vars c := fun c hc => by
    unfold cnfB at hF
    rw [Bool.and_eq_true, List.all_eq_true] at hF
    exact clauseB_iff.1 (hF.2 c hc)
  unfold puts at hp ⊢
  cases h1 : s.kind == 1 with
  | true =>
    rw [h1] at hp
    simp only [cond_true] at hp ⊢
    cases h2 : inB s.a 0 ((F.clauses.length : Int) - 1) && (s.b == 0 && s.pivot == 0) with
    | false => rw [h2] at hp; cases hp
    | true =>
      simp only [cond_true]
      rw [Bool.and_eq_true] at h2
      have := inB_iff.1 h2.1
      obtain ⟨c, _, h4⟩ := ix_of (xs := F.clauses) (i := s.a) (by omega) (by omega)
      rw [h4]
      exact hcl c (List.mem_of_getElem? h4)
  | false =>
    rw [h1] at hp
    simp only [cond_false] at hp ⊢
    cases h2 : s.kind == 2 with
    | false => rw [h2] at hp; cases hp
    | true =>
      rw [h2] at hp
      simp only [cond_true] at hp ⊢
      cases h3 : inB s.a 0 ((now.length : Int) - 1) && (inB s.b 0 ((now.length : Int) - 1) && inB s.pivot 1 F.vars) with
      | false => rw [h3] at hp; cases hp
      | true =>
        rw [h3] at hp
        simp only [cond_true] at hp ⊢
        rw [Bool.and_eq_true, Bool.and_eq_true] at h3
        obtain ⟨x, _, hx, cx⟩ := h.at h3.1
        obtain ⟨y, _, hy, cy⟩ := h.at h3.2.1
        rw [hx, hy] at hp ⊢
        exact res_isC cx cy hp
theorem nxt_cfg {F : Cnf} {now : List (List Int)} {n : Nat} (hF : cnfB F = true) (h : Cfg F.vars n now) {s : SpaceStep} : Cfg F.vars (n + 1) (nxt F now s).1 := by
  unfold nxt
  cases h1 : s.kind == 3 with
  | true =>
    simp only [cond_true]
    cases gone now s with
    | false => exact Cfg.nil
    | true => exact ⟨h.srt.sublist (List.eraseIdx_sublist _ _), Nat.le_trans (List.eraseIdx_sublist _ _).length_le (by have := h.len; omega), fun c hc => h.cl c ((List.eraseIdx_sublist _ _).subset hc)⟩
  | false =>
    simp only [cond_false]
    cases h2 : (puts F now s).2 && !now.contains (puts F now s).1 with
    | false => exact Cfg.nil
    | true =>
      rw [Bool.and_eq_true] at h2
      exact h.put (puts_isC hF h h2.1)
theorem wr_len1 {A : Type} {xs : List A} (h : xs.length ≤ 9223372036854775807) : wr (len xs - 1) = (xs.length : Int) - 1 := by rw [len_eq]; exact wr_of _ (by omega) (by omega)
theorem bif3 (a b c : Bool) : (bif (bif (bif !a then true else !b) then true else !c) then false else true) = (a && (b && c)) := by cases a <;> cases b <;> cases c <;> rfl
theorem spec_l15Step_eq {F : Cnf} {now : List (List Int)} {n : Nat} {s : SpaceStep} (hF : cnfB F = true) (h : Cfg F.vars n now) (hn : n ≤ 100000) (hs : okSpaceStep s) :
    ∃ r, spec_l15Step F now s = some r ∧ r.2.2 = (nxt F now s).2 ∧ ((nxt F now s).2 = true → r.1 = (nxt F now s).1 ∧ (s.kind ≠ 3 → r.2.1 = (puts F now s).1)) := by
  have hF60 : F.clauses.length ≤ 60 := by
    unfold cnfB at hF
    rw [Bool.and_eq_true, Bool.and_eq_true, decide_eq_true_eq, len_eq] at hF
    omega
  have hl := h.len
  unfold spec_l15Step
  rw [wr_len1 (xs := F.clauses) (by omega), wr_len1 (xs := now) (by omega)]
  simp only [spec_l1In_eq]
  cases h1 : s.kind == 1 with
  | true =>
    have hk : s.kind = 1 := by simpa using h1
    have h3 : (s.kind == 3) = false := by rw [hk]; rfl
    have hnx : nxt F now s = bif (puts F now s).2 && !now.contains (puts F now s).1 then (putC now (puts F now s).1, true) else ([], false) := by unfold nxt; rw [h3]; rfl
    rw [hnx]
    have hpu : puts F now s = bif inB s.a 0 ((F.clauses.length : Int) - 1) && (s.b == 0 && s.pivot == 0) then ((F.clauses[s.a.toNat]?).getD [], true) else ([], false) := by unfold puts; rw [h1]; rfl
    simp only [cond_true]
    cases g1 : inB s.a 0 ((F.clauses.length : Int) - 1) with
    | false =>
      rw [hpu, g1]
      refine ⟨_, rfl, rfl, nofun⟩
    | true =>
      cases g2 : (s.b == 0) && (s.pivot == 0) with
      | false =>
        rw [hpu, g1, g2]
        refine ⟨([], [], false), ?_, rfl, nofun⟩
        revert g2
        cases s.b == 0 <;> cases s.pivot == 0 <;> intro g2 <;> first | rfl | cases g2
      | true =>
        rw [Bool.and_eq_true] at g2
        rw [g2.1, g2.2]
        have := inB_iff.1 g1
        obtain ⟨c, c1, c2⟩ := ix_of (xs := F.clauses) (i := s.a) (by omega) (by omega)
        have hpu2 : puts F now s = (c, true) := by rw [hpu, g1, g2.1, g2.2, c2]; rfl
        have hcc : IsC F.vars c := by have := puts_isC hF h (s := s) (by rw [hpu2]); rw [hpu2] at this; exact this
        simp only [Bool.not_true, cond_false, c1, bd_some, spec_l2At_eq h hn hcc.small, at_ge, hpu2, Bool.true_and]
        cases hm : now.contains c with
        | true => exact ⟨_, rfl, rfl, nofun⟩
        | false =>
          simp only [cond_false, spec_l2Insert_eq h hn hcc.small, bd_some]
          exact ⟨_, rfl, rfl, fun _ => ⟨rfl, fun _ => rfl⟩⟩
  | false =>
    simp only [cond_false]
    cases g1 : inB s.a 0 ((now.length : Int) - 1) with
    | false =>
      refine ⟨_, rfl, ?_⟩
      have : (nxt F now s) = ([], false) := by
        unfold nxt gone puts
        rw [h1, g1]
        cases s.kind == 3 <;> cases s.kind == 2 <;> rfl
      rw [this]
      exact ⟨rfl, nofun⟩
    | true =>
      have b1 := inB_iff.1 g1
      simp only [Bool.not_true, cond_false]
      cases h3 : s.kind == 3 with
      | true =>
        have hk : s.kind = 3 := by simpa using h3
        simp only [cond_true]
        have e1 : s.a = ((s.a.toNat : Nat) : Int) := by omega
        have w1 : wr (s.a + 1) = ((s.a.toNat + 1 : Nat) : Int) := by rw [wr_of _ (by omega) (by omega)]; omega
        have c1 : cut now 0 s.a = some (now.take s.a.toNat) := by
          have := cut_ok (xs := now) (a := 0) (b := s.a.toNat) (Nat.zero_le _) (by omega)
          rw [← e1] at this; simpa using this
        have c2 : cut now (wr (s.a + 1)) (len now) = some (now.drop (s.a.toNat + 1)) := by
          have := cut_ok (xs := now) (a := s.a.toNat + 1) (b := now.length) (by omega) (Nat.le_refl _)
          rw [List.take_length] at this; rw [w1]; exact this
        have hlim : lim = 4294967296 := rfl
        rw [c1, bd_some, app_ok (by simp; omega), bd_some, List.nil_append, c2, bd_some, app_ok (by simp; omega), bd_some]
        refine ⟨_, rfl, ?_⟩
        unfold nxt gone
        rw [h3, g1, List.eraseIdx_eq_take_drop_succ]
        simp only [cond_true, Bool.true_and]
        cases hb : s.b == 0 <;> cases hp : s.pivot == 0 <;> refine ⟨rfl, fun ht => ?_⟩ <;> first | exact ⟨rfl, fun hk2 => absurd hk hk2⟩ | cases ht
      | false =>
        simp only [cond_false]
        have hnx : nxt F now s = bif (puts F now s).2 && !now.contains (puts F now s).1 then (putC now (puts F now s).1, true) else ([], false) := by unfold nxt; rw [h3]; rfl
        rw [hnx]
        cases h2 : s.kind == 2 with
        | false =>
          have : puts F now s = ([], false) := by unfold puts; rw [h1, h2]; rfl
          rw [this]
          exact ⟨_, rfl, rfl, nofun⟩
        | true =>
          have hpu : puts F now s = bif inB s.a 0 ((now.length : Int) - 1) && (inB s.b 0 ((now.length : Int) - 1) && inB s.pivot 1 F.vars) then res ((now[s.a.toNat]?).getD []) ((now[s.b.toNat]?).getD []) s.pivot else ([], false) := by unfold puts; rw [h1, h2]; rfl
          cases g2 : inB s.b 0 ((now.length : Int) - 1) with
          | false => rw [hpu, g1, g2]; exact ⟨_, rfl, rfl, nofun⟩
          | true =>
            cases g3 : inB s.pivot 1 F.vars with
            | false => rw [hpu, g1, g2, g3]; exact ⟨_, rfl, rfl, nofun⟩
            | true =>
              obtain ⟨x, x1, x2, cx⟩ := h.at g1
              obtain ⟨y, y1, y2, cy⟩ := h.at g2
              have lx := cx.len; have ly := cy.len
              have hlim : lim = 4294967296 := rfl
              have hpu2 : puts F now s = res x y s.pivot := by rw [hpu, g1, g2, g3, x2, y2]; rfl
              simp only [Bool.not_true, cond_false, x1, y1, bd_some, spec_l2Resolve_eq (a := x) (b := y) (v := s.pivot) (by omega), hpu2]
              cases hr : (res x y s.pivot).2 with
              | false => exact ⟨_, rfl, rfl, nofun⟩
              | true =>
                have hcc := res_isC cx cy hr
                simp only [Bool.not_true, cond_false, spec_l2At_eq h hn hcc.small, bd_some, at_ge, Bool.true_and]
                cases hm : now.contains (res x y s.pivot).1 with
                | true => exact ⟨_, rfl, rfl, nofun⟩
                | false =>
                  simp only [cond_false, spec_l2Insert_eq h hn hcc.small, bd_some]
                  exact ⟨_, rfl, rfl, fun _ => ⟨rfl, fun _ => rfl⟩⟩
end Go.PF
