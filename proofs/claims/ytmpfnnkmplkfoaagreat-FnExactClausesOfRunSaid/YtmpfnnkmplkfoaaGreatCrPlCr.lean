/- ClausesOfRun: the law. -/
import Derived.Test.YtmpfnnkmplkfoaaGreatCrPlRu
import Derived.Test.YtmpfnnkmplkfoaaGreatCrPl9
import Derived.Test.YtmpfnnkmplkfoaaGreatCrPlSc
set_option linter.unusedVariables false
namespace Go.PF
open Go.Pu
theorem allC_mem {F : Cnf} (hF : cnfB F = true) : ∀ {ss : List SpaceStep} {now all : List (List Int)}, (∀ y ∈ now, y ∈ all) → (cfgs F ss now).2 = true → ∀ x, x ∈ allC F ss now all ↔ x ∈ all ∨ ∃ C ∈ (cfgs F ss now).1, x ∈ C
  | [], now, all, _, _, x => ⟨.inl, fun h => h.elim id fun ⟨_, h, _⟩ => nomatch h⟩
  | s :: ss, now, all, hsub, ht, x => by
    simp only [cfgs] at ht ⊢
    cases h1 : (nxt F now s).2 with
    | false => rw [h1] at ht; cases ht
    | true =>
      rw [h1] at ht
      simp only [cond_true] at ht ⊢
      simp only [allC]
      have key : (∀ y ∈ (nxt F now s).1, y ∈ (bif s.kind == 3 then all else putC all (puts F now s).1)) ∧ ∀ y, y ∈ (bif s.kind == 3 then all else putC all (puts F now s).1) ↔ y ∈ all ∨ y ∈ (nxt F now s).1 := by
        unfold nxt at h1 ⊢
        cases hk : s.kind == 3 with
        | true =>
          rw [hk] at h1
          simp only [cond_true] at h1 ⊢
          cases hg : gone now s with
          | false => rw [hg] at h1; cases h1
          | true =>
            simp only [cond_true]
            have hm : ∀ y ∈ now.eraseIdx s.a.toNat, y ∈ all := fun y hy => hsub y ((List.eraseIdx_sublist now s.a.toNat).subset hy)
            exact ⟨hm, fun y => ⟨.inl, fun h => h.elim id (hm y)⟩⟩
        | false =>
          rw [hk] at h1
          simp only [cond_false] at h1 ⊢
          cases hp : (puts F now s).2 && !now.contains (puts F now s).1 with
          | false => rw [hp] at h1; cases h1
          | true =>
            simp only [cond_true]
            refine ⟨fun y hy => ?_, fun y => ?_⟩
            · rw [putC_mem] at hy ⊢
              exact hy.elim .inl fun h => .inr (hsub y h)
            · rw [putC_mem, putC_mem]
              exact ⟨fun h => h.elim (fun h => .inr (.inl h)) .inl, fun h => h.elim .inr fun h => h.elim .inl fun h => .inr (hsub y h)⟩
      rw [allC_mem hF key.1 ht x, key.2]
      constructor
      · rintro ((h | h) | ⟨C, h, hx⟩)
        · exact .inl h
        · exact .inr ⟨_, List.mem_cons_self, h⟩
        · exact .inr ⟨C, List.mem_cons_of_mem _ h, hx⟩
      · rintro (h | ⟨C, h, hx⟩)
        · exact .inl (.inl h)
        · rcases List.mem_cons.1 h with rfl | h
          · exact .inl (.inr hx)
          · exact .inr ⟨C, h, hx⟩
theorem cfgs_cfg {F : Cnf} (hF : cnfB F = true) : ∀ {ss : List SpaceStep} {now : List (List Int)} {n : Nat}, Cfg F.vars n now → ∀ C ∈ (cfgs F ss now).1, Cfg F.vars (n + ss.length) C
  | [], now, n, _, C, h => nomatch h
  | s :: ss, now, n, hn, C, h => by
    simp only [cfgs] at h
    cases h1 : (nxt F now s).2 with
    | false => rw [h1] at h; cases h
    | true =>
      rw [h1] at h
      have hc := nxt_cfg hF hn (s := s)
      rcases List.mem_cons.1 h with rfl | h
      · exact ⟨hc.srt, by have := hc.len; simp only [List.length_cons]; omega, hc.cl⟩
      · have := cfgs_cfg hF hc C h
        exact ⟨this.srt, by have := this.len; simp only [List.length_cons]; omega, this.cl⟩
theorem cfgs_le (F : Cnf) : ∀ (steps : List SpaceStep) (now : List (List Int)), (cfgs F steps now).1.length ≤ steps.length
  | [], _ => Nat.le_refl _
  | s :: ss, now => by
    simp only [cfgs]
    cases (nxt F now s).2 with
    | false => exact Nat.zero_le _
    | true => simp only [cond_true, List.length_cons]; have := cfgs_le F ss (nxt F now s).1; omega
theorem foldl_app {α : Type} : ∀ {l : List (List α)} {s : List α}, l.foldl (fun s x => s ++ x) s = s ++ l.flatten := by
  intro l
  induction l with
  | nil => intro s; simp
  | cons y l ih => intro s; rw [List.foldl_cons, ih]; simp
def corV (F : Cnf) (steps : List SpaceStep) : List (List Int) × Bool := bif cnfB F && runB F steps then (allC F steps [] [], true) else ([], false)
theorem corV_cfg {F : Cnf} {steps : List SpaceStep} (h1 : cnfB F = true) (h : runB F steps = true) : Cfg F.vars 300 (allC F steps [] []) := by
  obtain ⟨h2, h3⟩ := runB_len h
  have := allC_cfg h1 (ss := steps) (now := []) (all := []) (n := 0) (m := 0) Cfg.nil Cfg.nil h3
  exact ⟨this.srt, by have := this.len; omega, this.cl⟩
theorem tot_small : ∀ {l : List (List Int)}, (∀ c ∈ l, c.length ≤ 12) → tot wIntS l ≤ 12 * l.length := by
  intro l
  induction l with
  | nil => intro _; exact Nat.le_refl _
  | cons c l ih =>
    intro h
    have := h c (by simp); have := ih fun d hd => h d (by simp [hd])
    simp only [tot, wIntS, List.length_cons]; omega
theorem corV_small {F : Cnf} {steps : List SpaceStep} : tot wIntS (corV F steps).1 ≤ 3600 := by
  unfold corV
  cases h : cnfB F && runB F steps with
  | false => exact Nat.zero_le _
  | true =>
    have h1 := (Bool.and_eq_true _ _).mp h
    have hc := corV_cfg h1.1 h1.2
    have := tot_small fun c hx => (hc.cl c hx).len
    have := hc.len
    simp only [cond_true]; omega
theorem spec_ClausesOfRun_eq {F : Cnf} {steps : List SpaceStep} (hF : okCnf F) (hS : okL okSpaceStep steps) : spec_ClausesOfRun F steps = some (corV F steps) := by
  unfold spec_ClausesOfRun corV
  rw [spec_l2Good_eq hF, bd_some]
  cases h1 : cnfB F with
  | false => rfl
  | true =>
    obtain ⟨w, e1, e2, e3⟩ := spec_l15Run_eq h1 hS
    simp only [Bool.not_true, cond_false, Bool.true_and]
    rw [e1, bd_some, e2]
    cases h2 : runB F steps with
    | false => rfl
    | true =>
      have hc := corV_cfg h1 h2
      have hlim : lim = 4294967296 := rfl
      simp only [Bool.not_true, cond_false, cond_true, (e3 h2).2]
      rw [spec_l10Copy_eq (by have := hc.len; omega) (fun y hy => by have := (hc.cl y hy).len; omega)]; rfl
theorem impl_cor {F : Cnf} {steps : List SpaceStep} {xs : List (List (List Int))} (h : impl_configs F steps = some (xs, true)) (hxl : xs.length ≤ 301) (hcs : ∀ C ∈ xs, Cfg F.vars 300 C) :
    ∃ r, impl_ClausesOfRun F steps = some (r, true) ∧ SrtC r ∧ ∀ x, x ∈ r ↔ ∃ C ∈ xs, x ∈ C := by
  have hlim : lim = 4294967296 := rfl
  have hfl : ∀ {l : List (List (List Int))}, (∀ C ∈ l, C.length ≤ 300) → l.flatten.length ≤ 300 * l.length := by
    intro l
    induction l with
    | nil => intro _; simp
    | cons c l ih => intro h; have := h c (by simp); have := ih fun d hd => h d (by simp [hd]); simp only [List.flatten_cons, List.length_append, List.length_cons]; omega
  have hlen := hfl fun C hC => (hcs C hC).len
  have hck : chk (len xs) = some xs.length := by unfold chk; rw [len_eq, if_pos (by omega), Int.toNat_natCast]
  obtain ⟨s, r, e1, e2, e3, e4⟩ := sort_once (xs := xs.flatten) (by omega)
  refine ⟨r, ?_, e3, fun x => (e4 x).trans List.mem_flatten⟩
  unfold impl_ClausesOfRun
  rw [h, bd_some]
  simp only [Bool.not_true, cond_false]
  rw [hck, bd_some, forR_fold (X := Empty) (xs := xs) (F := fun s x => s ++ x) (fun j s => s.length ≤ 300 * j) (by simp) (fun j x s hx hs => by
    have hj := (List.getElem?_eq_some_iff.1 hx).1
    have hc := hcs x (List.mem_of_getElem? hx)
    have hl := hc.len
    rw [ix_get, hx, bd_some, impl_cloneLists_eq (by omega) (fun y hy => by have := (hc.cl y hy).len; omega), bd_some, app_ok (by omega), bd_some]
    exact ⟨rfl, by rw [List.length_append]; omega⟩), bdR_go, foldl_app, List.nil_append, e1, bd_some, e2, bd_some]
theorem impl_ClausesOfRun_eq {F : Cnf} {steps : List SpaceStep} (hF : okCnf F) : impl_ClausesOfRun F steps = some (corV F steps) := by
  have hcf := impl_configs_eq (F := F) (steps := steps) hF
  unfold corV
  cases h : cnfB F && runB F steps with
  | false =>
    rw [h] at hcf
    unfold impl_ClausesOfRun
    rw [hcf]; rfl
  | true =>
    rw [h] at hcf
    have h1 := (Bool.and_eq_true _ _).mp h
    obtain ⟨h2, h3⟩ := runB_len h1.2
    have hle := cfgs_le F steps []
    have hmem := allC_mem h1.1 (ss := steps) (now := []) (all := []) (fun _ h => h) h3
    obtain ⟨r, e1, e2, e3⟩ := impl_cor hcf (by rw [List.length_cons]; omega) fun C hC => by
      rcases List.mem_cons.1 hC with rfl | hC
      · exact ⟨.nil, Nat.zero_le _, nofun⟩
      · have := cfgs_cfg h1.1 (ss := steps) (now := []) (n := 0) Cfg.nil C hC
        exact ⟨this.srt, by have := this.len; omega, this.cl⟩
    rw [e1, srt_ext e2 (corV_cfg h1.1 h1.2).srt fun x => ?_]; · rfl
    rw [e3, hmem]
    constructor
    · rintro ⟨C, hC, hx⟩
      rcases List.mem_cons.1 hC with rfl | hC
      · cases hx
      · exact .inr ⟨C, hC, hx⟩
    · rintro (h | ⟨C, hC, hx⟩)
      · cases h
      · exact ⟨C, List.mem_cons_of_mem _ hC, hx⟩
theorem plain_ClausesOfRun (a0 : Cnf) (a1 : List SpaceStep) (o0 : okCnf a0) (o1 : okL okSpaceStep a1) : laws_FnExactClausesOfRun a0 a1 = some true := by
  unfold laws_FnExactClausesOfRun
  obtain ⟨r0, q0, z0⟩ := sz_Cnf o0 (s := 1048576) (by omega) (by omega)
  rw [q0, bd_some]
  by_cases n0 : r0 < 0
  · simp [n0]
  have z1 := sz_SpaceStepS o1 (s := r0) (by omega) (by omega)
  simp only [n0, decide_false, cond_false]
  by_cases n1 : laws_szSpaceStepS a1 r0 < 0
  · simp [n1]
  simp only [n1, decide_false, cond_false]
  have hlim : lim = 4294967296 := rfl
  have t0 := to_Cnf (a := a0) (by omega)
  have t1 := to_SpaceStepS (a := a1) (by omega)
  have hs := spec_ClausesOfRun_eq (F := a0) o0 o1
  have hi := impl_ClausesOfRun_eq (F := a0) (steps := a1) o0
  have hm := corV_small (F := a0) (steps := a1)
  generalize corV a0 a1 = g at hs hi hm
  have w0 : tot wIntS a0.clauses ≤ 1048576 := by unfold wCnf wIntSS at z0; omega
  have m0 := mark_Cnf (a := a0) (k := 1) (by omega) (by unfold big; omega)
  have m1 := mark_SpaceStepS (a := a1) (k := (laws_markCnf a0 1).2) (by omega) (by omega)
  have mg := mark_IntSS (a := g.1) (k := 1) (by omega) (by unfold big; omega)
  have hg := held_IntSS (a := g.1) (k := 1) (by omega) (by unfold big; omega)
  have d1 : decide ((laws_markSpaceStepS a1 (laws_markCnf a0 1).2).2 < 0) = false := by rw [decide_eq_false_iff_not]; omega
  have d2 : decide ((laws_markIntSS g.1 1).2 < 0) = false := by rw [decide_eq_false_iff_not]; omega
  simp only [t0, t1, hs, hi, hg, d1, d2, bd_some, eq_SpaceStepS, eq_IntSS, eq_Cnf, BEq.rfl, Bool.not_true, cond_false, bif_tt, Bool.or_false]
end Go.PF
