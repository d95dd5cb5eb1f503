/- EliminateVar: the program's answer is the reference's. Bits of small numbers: shifts, ands, xors on Go's ints as operations on natural numbers. Bits as truths of variables: models. The law of elimination: bits are a model behind it just if they are one before it, or become one with the other value of the variable. -/
import Derived.Test.YtdkkikkmnfjgiaaGreatEmPlB
import Derived.Test.YtdkkikkmnfjgiaaGreatEmPlC
import Derived.Test.YtdkkikkmnfjgiaaGreatPl1
set_option linter.unusedVariables false
namespace Go.PF
open Go.Pu
/-- what elimination leaves of the clauses A, against the clauses K -/
def elimP (A K : List (List Int)) (v : Int) (x : List Int) : Prop := (x ∈ A ∧ v ∉ x ∧ -v ∉ x) ∨ ∃ c ∈ A, ∃ d ∈ K, (res c d v).2 = true ∧ x = (res c d v).1
theorem elimP_succ {A K : List (List Int)} {v : Int} {i : Nat} {c x : List Int} (h : A[i]? = some c) :
    elimP (A.take (i + 1)) K v x ↔ elimP (A.take i) K v x ∨ (x = c ∧ v ∉ c ∧ -v ∉ c) ∨ ∃ d ∈ K, (res c d v).2 = true ∧ x = (res c d v).1 := by
  unfold elimP
  constructor
  · rintro (⟨h1, h2, h3⟩ | ⟨d, hd, e, he, h1, h2⟩)
    · rcases (mem_take_succ h).1 h1 with g | rfl
      · exact .inl (.inl ⟨g, h2, h3⟩)
      · exact .inr (.inl ⟨rfl, h2, h3⟩)
    · rcases (mem_take_succ h).1 hd with g | rfl
      · exact .inl (.inr ⟨d, g, e, he, h1, h2⟩)
      · exact .inr (.inr ⟨e, he, h1, h2⟩)
  · rintro ((⟨h1, h2, h3⟩ | ⟨d, hd, e, he, h1, h2⟩) | ⟨rfl, h2, h3⟩ | ⟨e, he, h1, h2⟩)
    · exact .inl ⟨(mem_take_succ h).2 (.inl h1), h2, h3⟩
    · exact .inr ⟨d, (mem_take_succ h).2 (.inl hd), e, he, h1, h2⟩
    · exact .inl ⟨(mem_take_succ h).2 (.inr rfl), h2, h3⟩
    · exact .inr ⟨c, (mem_take_succ h).2 (.inr rfl), e, he, h1, h2⟩
def giveL (V : Int) (L : List (List Int)) : Cnf × Bool := bif decide (60 < len L) then (Cnf.mk 0 [], false) else (Cnf.mk V L, true)
theorem res_no1 {c d : List Int} {v : Int} (h : v ∉ c) : (res c d v).2 = false := by unfold res; rw [contains_false h]; rfl
theorem res_no2 {c d : List Int} {v : Int} (h : wr (-v) ∉ d) : (res c d v).2 = false := by unfold res; rw [contains_false h, Bool.not_false, Bool.or_true]; rfl
theorem spec_elim {F : Cnf} (hF : cnfB F = true) {v : Int} (h1 : 1 ≤ v) (h2 : v ≤ F.vars) : ∃ L, spec_EliminateVar F v = some (giveL F.vars L) ∧ SrtC L ∧ ∀ x, x ∈ L ↔ elimP F.clauses F.clauses v x := by
  have hv := cnfB_rng hF; have hC := cnfB_isC hF; have hN := cnfB_len hF
  have hlim : lim = 4294967296 := rfl
  have hok : okCnf F := ⟨by unfold okI; omega, ⟨by omega, fun c h => (hC c h).ok⟩⟩
  have hw : wr (-v) = -v := wr_of _ (by omega) (by omega)
  suffices hs : ∃ r, spec_EliminateVar F v = some r ∧ ∃ L, r = giveL F.vars L ∧ SrtC L ∧ ∀ x, x ∈ L ↔ elimP F.clauses F.clauses v x by
    obtain ⟨r, e, L, rfl, h⟩ := hs; exact ⟨L, e, h⟩
  unfold spec_EliminateVar
  rw [spec_l2Good_eq hok, bd_some, hF, spec_l1In_eq, inB_iff.2 ⟨h1, h2⟩]
  simp only [Bool.not_true, cond_false]
  refine loop_ix Prod.mk (xs := F.clauses) (fun i l => Cfg F.vars (61 * i) l ∧ ∀ x, x ∈ l ↔ elimP (F.clauses.take i) F.clauses v x) rfl ⟨Cfg.nil, fun x => ⟨fun h => (by cases h), fun h => (by rcases h with ⟨h, _⟩ | ⟨c, h, _⟩ <;> simp at h)⟩⟩ ?_ ?_ ?_
  · rintro i c l hc ⟨g1, g2⟩
    have hi := (List.getElem?_eq_some_iff.1 hc).1
    have hcC := hC c (List.mem_of_getElem? hc)
    have hcl := hcC.len
    have hwi : wr ((i : Int) + 1) = (i : Int) + 1 := wr_of _ (by omega) (by omega)
    have hd : decide ((i : Int) < len F.clauses) = true := by rw [len_eq]; exact decide_eq_true (by omega)
    dsimp only
    rw [hd]
    simp only [cond_true]
    rw [ix_get, hc, bd_some, spec_l2Has_eq, bd_some, spec_l2Has_eq, bd_some, hw]
    -- the inner loop, from whatever list
    have inner : ∀ {body : List (List Int) × Int → Option (Lp (List (List Int) × Int) Empty)} {lx : Empty → Option (Lp (List (List Int) × Int) Empty)} (l1 : List (List Int)), Cfg F.vars (61 * i + 1) l1 → (∀ x, x ∈ l1 ↔ elimP (F.clauses.take i) F.clauses v x ∨ (x = c ∧ v ∉ c ∧ -v ∉ c)) →
        (∀ l j, body (l, j) = bd (bif (decide (j < (len F.clauses))) then some (c.contains v) else some false) (fun t458 => (bif t458 then bd (ix F.clauses j) (fun x485 => bd (PF.spec_l2Has x485 (-v)) (fun r489 => (bif r489 then bd (PF.spec_l2Resolve c x485 v) (fun r495 => (bif r495.2 then bd (PF.spec_l2Insert l r495.1) (fun r511 => some (Lp.nx (r511, (wr (j + 1))))) else some (Lp.nx (l, (wr (j + 1)))))) else some (Lp.nx (l, (wr (j + 1))))))) else some (Lp.bk (l, j))))) →
        ∃ s', bdR (iter body (l1, 0)) (fun s => some (Lp.nx (s.1, wr ((i : Int) + 1)))) lx = some (Lp.nx (s', (i : Int) + 1)) ∧ Cfg F.vars (61 * (i + 1)) s' ∧ ∀ x, x ∈ s' ↔ elimP (F.clauses.take (i + 1)) F.clauses v x := by
      intro body lx l1 k1 k2 hb
      cases hcv : c.contains v with
      | false =>
        have hnv : v ∉ c := fun h => by rw [List.contains_iff_mem.2 h] at hcv; cases hcv
        have hb0 : body (l1, 0) = some (Lp.bk (l1, 0)) := by
          rw [hb, hcv]
          cases decide ((0 : Int) < len F.clauses) <;> rfl
        rw [iter_bk hb0, bdR_go]
        refine ⟨l1, by dsimp only; rw [hwi], ⟨k1.srt, by have := k1.len; omega, k1.cl⟩, fun x => ?_⟩
        rw [k2, elimP_succ hc]
        constructor
        · rintro (h | h)
          · exact .inl h
          · exact .inr (.inl h)
        · rintro (h | h | ⟨d, _, h, _⟩)
          · exact .inl h
          · exact .inr h
          · rw [res_no1 hnv] at h; cases h
      | true =>
        have hloop := loop_ix (B := List (List Int)) (lx := fun e : Empty => e.elim) (k := fun s => some s.1) (R := fun s' => Cfg F.vars (61 * (i + 1)) s' ∧ ∀ x, x ∈ s' ↔ elimP (F.clauses.take (i + 1)) F.clauses v x) (body := body) (t0 := (l1, 0)) Prod.mk (xs := F.clauses)
          (fun j l => Cfg F.vars (61 * i + 1 + j) l ∧ ∀ x, x ∈ l ↔ (elimP (F.clauses.take i) F.clauses v x ∨ (x = c ∧ v ∉ c ∧ -v ∉ c)) ∨ ∃ d ∈ F.clauses.take j, (res c d v).2 = true ∧ x = (res c d v).1) rfl
          ⟨k1, fun x => by rw [k2]; simp⟩ (by
            rintro j d l hdj ⟨m1, m2⟩
            have hj := (List.getElem?_eq_some_iff.1 hdj).1
            have hdC := hC d (List.mem_of_getElem? hdj)
            have hwj : wr ((j : Int) + 1) = (j : Int) + 1 := wr_of _ (by omega) (by omega)
            have hjd : decide ((j : Int) < len F.clauses) = true := by rw [len_eq]; exact decide_eq_true (by omega)
            have hdl := hdC.len
            rw [hb, hjd, hcv]
            simp only [cond_true, bd_some]
            rw [ix_get, hdj, bd_some, spec_l2Has_eq, bd_some, hwj]
            have stay : (res c d v).2 = false → Cfg F.vars (61 * i + 1 + (j + 1)) l ∧ ∀ x, x ∈ l ↔ (elimP (F.clauses.take i) F.clauses v x ∨ (x = c ∧ v ∉ c ∧ -v ∉ c)) ∨ ∃ d ∈ F.clauses.take (j + 1), (res c d v).2 = true ∧ x = (res c d v).1 := fun hr => by
              refine ⟨⟨m1.srt, by have := m1.len; omega, m1.cl⟩, fun x => ?_⟩
              rw [m2]
              refine or_congr_right ⟨fun ⟨e, he, h⟩ => ⟨e, (mem_take_succ hdj).2 (.inl he), h⟩, fun ⟨e, he, h1, h2⟩ => ?_⟩
              rcases (mem_take_succ hdj).1 he with g | rfl
              · exact ⟨e, g, h1, h2⟩
              · rw [hr] at h1; cases h1
            cases hdv : d.contains (-v) with
            | false =>
              have hnv : wr (-v) ∉ d := fun h => by rw [hw] at h; rw [List.contains_iff_mem.2 h] at hdv; cases hdv
              exact ⟨l, rfl, stay (res_no2 hnv)⟩
            | true =>
              simp only [cond_true]
              rw [spec_l2Resolve_eq (by omega), bd_some]
              cases hr : (res c d v).2 with
              | false => exact ⟨l, rfl, stay hr⟩
              | true =>
                simp only [cond_true]
                have hrC := res_isC2 hcC hdC hr
                rw [spec_l2Insert_eq m1 (by omega) hrC.small, bd_some]
                refine ⟨_, rfl, m1.put hrC, fun x => ?_⟩
                rw [putC_mem, m2]
                constructor
                · rintro (rfl | h | ⟨e, he, h⟩)
                  · exact .inr ⟨d, (mem_take_succ hdj).2 (.inr rfl), hr, rfl⟩
                  · exact .inl h
                  · exact .inr ⟨e, (mem_take_succ hdj).2 (.inl he), h⟩
                · rintro (h | ⟨e, he, h1, h2⟩)
                  · exact .inr (.inl h)
                  · rcases (mem_take_succ hdj).1 he with g | rfl
                    · exact .inr (.inr ⟨e, g, h1, h2⟩)
                    · exact .inl h2) (by
            rintro l _
            rw [hb, len_eq, decide_eq_false (by omega)]; rfl) (by
            rintro l ⟨m1, m2⟩
            refine ⟨l, rfl, ⟨m1.srt, by have := m1.len; omega, m1.cl⟩, fun x => ?_⟩
            rw [m2, List.take_length, elimP_succ hc, or_assoc])
        obtain ⟨s', e, hs⟩ := hloop
        cases hit : iter body (l1, 0) with
        | none => rw [hit] at e; cases e
        | some q =>
          rw [hit] at e
          cases q with
          | rt x => exact x.elim
          | go s => cases e; exact ⟨s.1, by rw [bdR_go, hwi], hs⟩
    have add : Cfg F.vars (61 * i + 1) (putC l c) := g1.put hcC
    have plain : Cfg F.vars (61 * i + 1) l := ⟨g1.srt, by have := g1.len; omega, g1.cl⟩
    cases hcv : c.contains v with
    | true =>
      have hmv : v ∈ c := List.contains_iff_mem.1 hcv
      simp only [Bool.not_true, cond_false, bd_some]
      exact inner l plain (fun x => by rw [g2]; exact ⟨.inl, fun h => h.elim id fun h => absurd hmv h.2.1⟩) (fun l j => by
        dsimp only
        rw [hcv])
    | false =>
      have hnv : v ∉ c := fun h => by rw [List.contains_iff_mem.2 h] at hcv; cases hcv
      simp only [Bool.not_false, cond_true, bd_some]
      cases hcw : c.contains (-v) with
      | true =>
        have hmw : -v ∈ c := List.contains_iff_mem.1 hcw
        simp only [Bool.not_true, cond_false]
        exact inner l plain (fun x => by rw [g2]; exact ⟨.inl, fun h => h.elim id fun h => absurd hmw h.2.2⟩) (fun l j => by
          dsimp only
          rw [hcv])
      | false =>
        have hnw : -v ∉ c := fun h => by rw [List.contains_iff_mem.2 h] at hcw; cases hcw
        simp only [Bool.not_false, cond_true]
        rw [app_ok (by simp; omega), bd_some, List.nil_append, spec_l2Insert_eq g1 (by omega) hcC.small, bd_some]
        exact inner (putC l c) add (fun x => by
          rw [putC_mem, g2]
          exact ⟨fun h => h.elim (fun h => .inr ⟨h, hnv, hnw⟩) .inl, fun h => h.elim .inr fun h => .inl h.1⟩) (fun l j => by
          dsimp only
          rw [hcv])
  · rintro l _
    dsimp only
    rw [len_eq, decide_eq_false (by omega)]; rfl
  · rintro l ⟨g1, g2⟩
    refine ⟨_, ?_, l, rfl, g1.srt, fun x => by rw [g2, List.take_length]⟩
    unfold giveL
    cases decide (60 < len l) <;> rfl
theorem impl_elim {F : Cnf} (hF : cnfB F = true) {v : Int} (h1 : 1 ≤ v) (h2 : v ≤ F.vars) : ∃ L, impl_EliminateVar F v = some (giveL F.vars L) ∧ SrtC L ∧ ∀ x, x ∈ L ↔ elimP F.clauses F.clauses v x := by
  have hv := cnfB_rng hF; have hC := cnfB_isC hF; have hN := cnfB_len hF
  have hlim : lim = 4294967296 := rfl
  have hok : okCnf F := ⟨by unfold okI; omega, ⟨by omega, fun c h => (hC c h).ok⟩⟩
  have hw : wr (-v) = -v := wr_of _ (by omega) (by omega)
  suffices hs : ∃ r, impl_EliminateVar F v = some r ∧ ∃ L, r = giveL F.vars L ∧ SrtC L ∧ ∀ x, x ∈ L ↔ elimP F.clauses F.clauses v x by
    obtain ⟨r, e, L, rfl, h⟩ := hs; exact ⟨L, e, h⟩
  unfold impl_EliminateVar
  rw [impl_IsCnf_eq hok, bd_some, hF, impl_isVar_eq, inB_iff.2 ⟨h1, h2⟩]
  simp only [Bool.not_true, cond_false]
  refine loop_l (xs := F.clauses) (fun i s => s.2 = F.vars ∧ s.1.length ≤ 61 * i ∧ ∀ x, x ∈ s.1 ↔ elimP (F.clauses.take i) F.clauses v x) ⟨rfl, by simp, fun x => ⟨fun h => (by cases h), fun h => (by rcases h with ⟨h, _⟩ | ⟨c, h, _⟩ <;> simp at h)⟩⟩ ?_ ?_
  · rintro i c ⟨l, w⟩ hc ⟨rfl, g1, g2⟩
    have hi := (List.getElem?_eq_some_iff.1 hc).1
    have hcC := hC c (List.mem_of_getElem? hc)
    have hcl := hcC.len
    dsimp only at g1 g2 ⊢
    rw [slices_Contains_int_int_eq, bd_some, slices_Contains_int_int_eq, bd_some, hw]
    have inner : ∀ {body : Nat → List Int → List (List Int) × Int → Option (Lp (List (List Int) × Int) Empty)} {lx : Empty → Option (Lp (List (List Int) × Int) Empty)} (l1 : List (List Int)), l1.length ≤ 61 * i + 1 → (∀ x, x ∈ l1 ↔ elimP (F.clauses.take i) F.clauses v x ∨ (x = c ∧ v ∉ c ∧ -v ∉ c)) →
        (∀ j d s, body j d s = bd (PF.impl_resolve c d v) (fun r => (bif r.2 then bd (app s.1 [r.1]) (fun xs => some (Lp.nx (xs, s.2))) else some (Lp.nx (s.1, s.2))))) →
        ∃ s', bdR (forL F.clauses body (l1, F.vars)) (fun s => some (Lp.nx (s.1, s.2))) lx = some (Lp.nx s') ∧ s'.2 = F.vars ∧ s'.1.length ≤ 61 * (i + 1) ∧ ∀ x, x ∈ s'.1 ↔ elimP (F.clauses.take (i + 1)) F.clauses v x := by
      intro body lx l1 k1 k2 hb
      refine nx_of (loop_l (xs := F.clauses) (fun j s => s.2 = F.vars ∧ s.1.length ≤ 61 * i + 1 + j ∧ ∀ x, x ∈ s.1 ↔ (elimP (F.clauses.take i) F.clauses v x ∨ (x = c ∧ v ∉ c ∧ -v ∉ c)) ∨ ∃ d ∈ F.clauses.take j, (res c d v).2 = true ∧ x = (res c d v).1)
        ⟨rfl, k1, fun x => by dsimp only; rw [k2]; simp⟩ ?_ ?_)
      · rintro j d ⟨l, w⟩ hdj ⟨rfl, m1, m2⟩
        have hj := (List.getElem?_eq_some_iff.1 hdj).1
        have hdC := hC d (List.mem_of_getElem? hdj)
        dsimp only at m1 m2
        rw [hb, impl_resolve_eq hcC hdC, bd_some]
        cases hr : (res c d v).2 with
        | false =>
          refine ⟨_, rfl, rfl, by dsimp only; omega, fun x => ?_⟩
          dsimp only
          rw [m2]
          refine or_congr_right ⟨fun ⟨e, he, h⟩ => ⟨e, (mem_take_succ hdj).2 (.inl he), h⟩, fun ⟨e, he, h1, h2⟩ => ?_⟩
          rcases (mem_take_succ hdj).1 he with g | rfl
          · exact ⟨e, g, h1, h2⟩
          · rw [hr] at h1; cases h1
        | true =>
          simp only [cond_true]
          rw [app_ok (by simp; omega), bd_some]
          refine ⟨_, rfl, rfl, by dsimp only; rw [List.length_append, List.length_singleton]; omega, fun x => ?_⟩
          dsimp only
          rw [List.mem_append, List.mem_singleton, m2]
          constructor
          · rintro ((h | ⟨e, he, h⟩) | rfl)
            · exact .inl h
            · exact .inr ⟨e, (mem_take_succ hdj).2 (.inl he), h⟩
            · exact .inr ⟨d, (mem_take_succ hdj).2 (.inr rfl), hr, rfl⟩
          · rintro (h | ⟨e, he, h1, h2⟩)
            · exact .inl (.inl h)
            · rcases (mem_take_succ hdj).1 he with g | rfl
              · exact .inl (.inr ⟨e, g, h1, h2⟩)
              · exact .inr h2
      · rintro ⟨l, w⟩ ⟨rfl, m1, m2⟩
        refine ⟨_, rfl, _, rfl, rfl, by dsimp only at m1 ⊢; omega, fun x => ?_⟩
        rw [m2, List.take_length, elimP_succ hc, or_assoc]
    cases hcv : c.contains v with
    | true =>
      have hmv : v ∈ c := List.contains_iff_mem.1 hcv
      simp only [Bool.not_true, cond_false, bd_some]
      exact inner l (by omega) (fun x => by rw [g2]; exact ⟨.inl, fun h => h.elim id fun h => absurd hmv h.2.1⟩) (fun j d s => rfl)
    | false =>
      have hnv : v ∉ c := fun h => by rw [List.contains_iff_mem.2 h] at hcv; cases hcv
      simp only [Bool.not_false, cond_true, bd_some]
      cases hcw : c.contains (-v) with
      | true =>
        have hmw : -v ∈ c := List.contains_iff_mem.1 hcw
        simp only [Bool.not_true, cond_false]
        exact inner l (by omega) (fun x => by rw [g2]; exact ⟨.inl, fun h => h.elim id fun h => absurd hmw h.2.2⟩) (fun j d s => rfl)
      | false =>
        have hnw : -v ∉ c := fun h => by rw [List.contains_iff_mem.2 h] at hcw; cases hcw
        simp only [Bool.not_false, cond_true]
        rw [slices_Clone_int_int_eq (by omega), bd_some, app_ok (by simp; omega), bd_some]
        exact inner (l ++ [c]) (by rw [List.length_append, List.length_singleton]; omega) (fun x => by
          rw [List.mem_append, List.mem_singleton, g2]
          exact ⟨fun h => h.elim .inl fun h => .inr ⟨h, hnv, hnw⟩, fun h => h.elim .inl fun h => .inr h.1⟩) (fun j d s => rfl)
  · rintro ⟨l, w⟩ ⟨rfl, g1, g2⟩
    dsimp only at g1 g2 ⊢
    obtain ⟨s, r, e1, e2, e3, e4⟩ := sort_once (xs := l) (by omega)
    rw [e1, bd_some, e2, bd_some]
    refine ⟨_, ?_, r, rfl, e3, fun x => by rw [e4, g2, List.take_length]⟩
    unfold giveL
    cases decide (60 < len r) <;> rfl
end Go.PF
namespace Go.Pu
theorem wrk_nat {n : Nat} (h : n < 9223372036854775808) : wrk true 64 (n : Int) = (n : Int) := by
  unfold wrk
  have h1 : ((n : Int) % (2 ^ 64 : Int)) = (n : Int) := Int.emod_eq_of_lt (by omega) (by omega)
  rw [h1]
  simp only [Bool.true_and]
  rw [if_neg]
  simp
  omega
theorem ofInt_nat {w n : Nat} : BitVec.ofInt w (n : Int) = BitVec.ofNat w n := by
  apply BitVec.eq_of_toNat_eq
  simp
theorem andK_nat {a b : Nat} (ha : a < 9223372036854775808) (hb : b < 9223372036854775808) : andK true 64 (a : Int) (b : Int) = ((a &&& b : Nat) : Int) := by
  unfold andK
  rw [ofInt_nat, ofInt_nat, BitVec.toNat_and, BitVec.toNat_ofNat, BitVec.toNat_ofNat, Nat.mod_eq_of_lt (by omega), Nat.mod_eq_of_lt (by omega)]
  exact wrk_nat (Nat.lt_of_le_of_lt Nat.and_le_left ha)
theorem xorK_nat {a b k : Nat} (ha : a < 2 ^ k) (hb : b < 2 ^ k) (hk : k ≤ 62) : xorK true 64 (a : Int) (b : Int) = ((a ^^^ b : Nat) : Int) ∧ a ^^^ b < 2 ^ k := by
  have h := Nat.xor_lt_two_pow ha hb
  have hp : 2 ^ k ≤ 2 ^ 62 := Nat.pow_le_pow_right (by omega) hk
  refine ⟨?_, h⟩
  unfold xorK
  rw [ofInt_nat, ofInt_nat, BitVec.toNat_xor, BitVec.toNat_ofNat, BitVec.toNat_ofNat, Nat.mod_eq_of_lt (by omega), Nat.mod_eq_of_lt (by omega)]
  exact wrk_nat (by omega)
theorem orK_natK {a b k : Nat} (ha : a < 2 ^ k) (hb : b < 2 ^ k) (hk : k ≤ 62) : orK true 64 (a : Int) (b : Int) = ((a ||| b : Nat) : Int) ∧ a ||| b < 2 ^ k := by
  have h := Nat.or_lt_two_pow ha hb
  have hp : 2 ^ k ≤ 2 ^ 62 := Nat.pow_le_pow_right (by omega) hk
  refine ⟨?_, h⟩
  unfold orK
  rw [ofInt_nat, ofInt_nat, BitVec.toNat_or, BitVec.toNat_ofNat, BitVec.toNat_ofNat, Nat.mod_eq_of_lt (by omega), Nat.mod_eq_of_lt (by omega)]
  exact wrk_nat (by omega)
theorem shlK_nat {k : Nat} (hk : k ≤ 62) : shlK true 64 1 (k : Int) = ((2 ^ k : Nat) : Int) := by
  unfold shlK
  have h1 : min ((k : Int)).toNat 64 = k := by simp; omega
  rw [h1]
  have hp : 2 ^ k ≤ 2 ^ 62 := Nat.pow_le_pow_right (by omega) hk
  have := wrk_nat (n := 2 ^ k) (by omega)
  simpa using this
theorem shrK_nat {n k : Nat} (hk : k ≤ 63) : shrK 64 (n : Int) (k : Int) = ((n >>> k : Nat) : Int) := by
  unfold shrK
  have h1 : min ((k : Int)).toNat 64 = k := by simp; omega
  rw [h1, Nat.shiftRight_eq_div_pow]
  rw [Int.fdiv_eq_ediv_of_nonneg _ (Int.le_of_lt (Int.pow_pos (by omega)))]
  simp
/-- bit k of n -/
theorem bit_nat {n k : Nat} (hn : n < 9223372036854775808) (hk : k ≤ 63) : (andK true 64 (shrK 64 (n : Int) (k : Int)) 1 == 1) = n.testBit k := by
  rw [shrK_nat hk]
  have h1 : n >>> k < 9223372036854775808 := Nat.lt_of_le_of_lt (Nat.shiftRight_le n k) hn
  have := andK_nat h1 (show 1 < 9223372036854775808 by omega)
  rw [show (1 : Int) = ((1 : Nat) : Int) from rfl, this]
  unfold Nat.testBit
  rw [Nat.and_comm]
  have hb : 1 &&& n >>> k = 0 ∨ 1 &&& n >>> k = 1 := by
    have : 1 &&& n >>> k ≤ 1 := Nat.and_le_left
    omega
  rcases hb with h | h <;> rw [h] <;> rfl
end Go.Pu
namespace Go.PF
open Go.Pu
/-- the truth of variables that bits tell -/
def bt' (n : Nat) : Nat → Bool := fun u => n.testBit (u - 1)
def modB (K : List (List Int)) (n : Nat) : Bool := K.all fun c => tc (bt' n) c
theorem impl_holds_eq {V : Int} {c : List Int} (hc : IsC V c) {n : Nat} (hn : n < 9223372036854775808) : impl_holds c (n : Int) = some (tc (bt' n) c) := by
  unfold impl_holds
  rw [slices_ContainsFunc_int_int_eq (g := tl (bt' n)) fun l hl => ?_]
  · rfl
  · have h1 := hc.lit l hl; have h2 := hc.hi
    have ha : impl_abs l = (l.natAbs : Int) := by rw [impl_abs_eq (by unfold okI; omega), vr_abs (by omega) (by omega)]
    have hw : wr (impl_abs l - 1) = ((l.natAbs - 1 : Nat) : Int) := by rw [ha, wr_of _ (by omega) (by omega)]; omega
    show bd (nn (wr (impl_abs l - 1))) _ = _
    rw [hw]
    have hnn : nn ((l.natAbs - 1 : Nat) : Int) = some () := by unfold nn; rw [if_neg (by omega)]
    rw [hnn, bd_some, bit_nat hn (by omega)]
    rfl
theorem contains_LL {c : List (List Int)} {f : List Int → Option Bool} {g : List Int → Bool} (h : ∀ y ∈ c, f y = some (g y)) : slices_ContainsFunc_LLint_Lint c f = some (c.any g) := by
  obtain ⟨r, h1, h2⟩ := slices_IndexFunc_LL_ge h
  unfold slices_ContainsFunc_LLint_Lint
  rw [h1, bd_some, h2]
theorem impl_isModel_eq {V : Int} {K : List (List Int)} (hK : ∀ c ∈ K, IsC V c) {n : Nat} (hn : n < 9223372036854775808) : impl_isModel K (n : Int) = some (modB K n) := by
  unfold impl_isModel
  rw [contains_LL (g := fun c => !tc (bt' n) c) fun c hc => ?_]
  · rw [bd_some]
    unfold modB
    congr 1
    induction K with
    | nil => rfl
    | cons c K ih =>
      have := ih fun d hd => hK d (List.mem_cons_of_mem _ hd)
      simp only [List.any_cons, List.all_cons, Bool.not_or, Bool.not_not, this]
  · unfold impl_isModel_1
    rw [impl_holds_eq (hK c hc) hn, bd_some]
theorem impl_IsModel_eq {F : Cnf} (hF : cnfB F = true) {n : Nat} (hn : n < 2 ^ F.vars.toNat) : impl_IsModel F (n : Int) = some (modB F.clauses n, true) := by
  have hv := cnfB_rng hF; have hC := cnfB_isC hF; have hN := cnfB_len hF
  have hok : okCnf F := ⟨by unfold okI; omega, ⟨by omega, fun c h => (hC c h).ok⟩⟩
  have hp : 2 ^ F.vars.toNat ≤ 2 ^ 12 := Nat.pow_le_pow_right (by omega) (by omega)
  have hs : shlK true 64 1 F.vars = ((2 ^ F.vars.toNat : Nat) : Int) := by
    have := shlK_nat (k := F.vars.toNat) (by omega)
    rwa [Int.toNat_of_nonneg hv.1] at this
  have hnn : nn F.vars = some () := by unfold nn; rw [if_neg (by omega)]
  have hpos : 0 < 2 ^ F.vars.toNat := Nat.two_pow_pos _
  have hw : wr (((2 ^ F.vars.toNat : Nat) : Int) - 1) = ((2 ^ F.vars.toNat : Nat) : Int) - 1 := wr_of _ (by omega) (by omega)
  unfold impl_IsModel
  rw [impl_IsCnf_eq hok, bd_some, hF, hnn, hs, hw]
  simp only [Bool.not_true, cond_false, bd_some]
  rw [impl_within_eq, inB_iff.2 ⟨by omega, by omega⟩]
  simp only [Bool.not_true, cond_false]
  rw [impl_isModel_eq hC (by omega), bd_some]
theorem tc_congr {b b' : Nat → Bool} {V : Int} {c : List Int} (hc : IsC V c) (h : ∀ u, 1 ≤ u → b u = b' u) : tc b c = tc b' c := by
  unfold tc
  rw [Bool.eq_iff_iff, List.any_eq_true, List.any_eq_true]
  constructor
  · rintro ⟨l, hl, t⟩; refine ⟨l, hl, ?_⟩; unfold tl at t ⊢; rw [← h _ (by have := hc.lit l hl; omega)]; exact t
  · rintro ⟨l, hl, t⟩; refine ⟨l, hl, ?_⟩; unfold tl at t ⊢; rw [h _ (by have := hc.lit l hl; omega)]; exact t
theorem bt_flip {n k : Nat} (hk : 1 ≤ k) : ∀ u, 1 ≤ u → bt' (n ^^^ 2 ^ (k - 1)) u = flipV (bt' n) k u := by
  intro u hu
  unfold bt' flipV
  rw [Nat.testBit_xor, Nat.testBit_two_pow]
  by_cases h : u = k
  · subst h; rw [decide_eq_true rfl, beq_self_eq_true]
    show (n.testBit (u - 1) ^^ true) = !(n.testBit (u - 1))
    cases n.testBit (u - 1) <;> rfl
  · rw [decide_eq_false (by omega), beq_eq_false_iff_ne.2 h]
    show (n.testBit (u - 1) ^^ false) = n.testBit (u - 1)
    cases n.testBit (u - 1) <;> rfl
theorem modB_iff {K : List (List Int)} {n : Nat} : modB K n = true ↔ ∀ c ∈ K, tc (bt' n) c = true := by unfold modB; exact List.all_eq_true
end Go.PF
namespace Go.PF
open Go.Pu
theorem elimP_isC {F : Cnf} (hF : cnfB F = true) {v : Int} {x : List Int} (h : elimP F.clauses F.clauses v x) : IsC F.vars x := by
  have hC := cnfB_isC hF
  rcases h with ⟨h, _⟩ | ⟨c, hc, d, hd, hr, rfl⟩
  · exact hC x h
  · exact res_isC2 (hC c hc) (hC d hd) hr
theorem elim_law {F : Cnf} (hF : cnfB F = true) {v : Int} (h1 : 1 ≤ v) (h2 : v ≤ F.vars) {L : List (List Int)} (hL : ∀ x, x ∈ L ↔ elimP F.clauses F.clauses v x) (n : Nat) :
    modB L n = (modB F.clauses n || modB F.clauses (n ^^^ 2 ^ (v.natAbs - 1))) := by
  have hC := cnfB_isC hF
  have e1 : ∀ x, elimS F.clauses v x ↔ elimP F.clauses F.clauses v x := fun x => Iff.rfl
  have hfl : ∀ c ∈ F.clauses, tc (bt' (n ^^^ 2 ^ (v.natAbs - 1))) c = tc (flipV (bt' n) v.natAbs) c := fun c hc => tc_congr (hC c hc) (bt_flip (by omega))
  rw [Bool.eq_iff_iff, Bool.or_eq_true, modB_iff, modB_iff, modB_iff]
  constructor
  · intro h
    rcases elim_complete hC h1 h2 (b := bt' n) (fun x hx => h x ((hL x).2 hx)) with g | g
    · exact .inl g
    · exact .inr fun c hc => by rw [hfl c hc]; exact g c hc
  · rintro (h | h) x hx
    · exact elim_sound hC h1 h2 h x ((hL x).1 hx)
    · have g : ∀ c ∈ F.clauses, tc (flipV (bt' n) v.natAbs) c = true := fun c hc => by rw [← hfl c hc]; exact h c hc
      have := elim_sound hC h1 h2 g x ((hL x).1 hx)
      -- what is left has no literal of the variable
      obtain ⟨l, hl, t⟩ := tc_iff.1 this
      refine tc_iff.2 ⟨l, hl, ?_⟩
      have hno : l.natAbs ≠ v.natAbs := by
        rcases (hL x).1 hx with ⟨_, m1, m2⟩ | ⟨c, hc, d, hd, hr, rfl⟩
        · intro e
          rcases Int.natAbs_eq_natAbs_iff.1 e with e | e
          · exact m1 (e ▸ hl)
          · exact m2 (e ▸ hl)
        · exact (((res_iff (hC c hc) (hC d hd) h1 h2).2 hr l).1 hl).2
      rw [tl_flip hno] at t
      exact t
theorem laws_rInts_self (a : List Int) (h : a.length ≤ 1000000) : laws_rInts a a = some true := by
  unfold laws_rInts
  rw [beq_self_eq_true]
  simp only [Bool.not_true, cond_false]
  have := loop_l (B := Bool) (xs := a) (s0 := ()) (R := fun r => r = true) (lx := fun x : Bool => some x) (k := fun _ : Unit => some true) (body := fun i23 y22 s23 => bd (ix a ((i23 : Nat) : Int)) (fun x72 => (bif (!(y22 == x72)) then some (Lp.rt false) else some (Lp.nx ())))) (fun _ _ => True) trivial
    (fun i x s hx _ => ⟨(), by rw [ix_get, hx, bd_some, beq_self_eq_true]; rfl, trivial⟩) (fun s _ => ⟨true, rfl, rfl⟩)
  obtain ⟨r, e, rfl⟩ := this
  exact e
theorem laws_rTable_self (a : List (List Int)) (h : ∀ c ∈ a, c.length ≤ 1000000) : laws_rTable a a = some true := by
  unfold laws_rTable
  rw [beq_self_eq_true]
  simp only [Bool.not_true, cond_false]
  have := loop_l (B := Bool) (xs := a) (s0 := ()) (R := fun r => r = true) (lx := fun x : Bool => some x) (k := fun _ : Unit => some true) (body := fun i23 y22 s23 => bd (ix a ((i23 : Nat) : Int)) (fun x80 => bd (PF.laws_rInts y22 x80) (fun r84 => (bif (!r84) then some (Lp.rt false) else some (Lp.nx ()))))) (fun _ _ => True) trivial
    (fun i x s hx _ => ⟨(), by rw [ix_get, hx, bd_some, laws_rInts_self x (h x (List.mem_of_getElem? hx)), bd_some]; rfl, trivial⟩) (fun s _ => ⟨true, rfl, rfl⟩)
  obtain ⟨r, e, rfl⟩ := this
  exact e
theorem laws_rCnf_self (f : Cnf) (h : ∀ c ∈ f.clauses, c.length ≤ 1000000) : laws_rCnf f f = some true := by
  unfold laws_rCnf
  rw [beq_self_eq_true]
  simp only [cond_true]
  rw [laws_rTable_self _ h, bd_some, bd_some]
theorem draw_elim {cs : List Int} (h : okL okU8 cs) : ∃ f v, spec_DrawEliminateVar cs = some (f, v) ∧ SmC 100 12 f ∧ okI v := by
  unfold spec_DrawEliminateVar
  obtain ⟨f, c1, e1, h1, hf⟩ := dr_cnf (n := 1000) ((okC_begin h 0).le (by omega))
  rw [e1, bd_some]
  have tail : ∀ (t : Bool) (c2 : l1Cur), okC 900 c2 → ∃ g v, (bif t then bd (PF.spec_l1Cur_among c2 [(-1), 0, (wr (f.vars + 1))]) (fun r => some (f, r.1)) else bd (PF.spec_l1Cur_pick c2 (PF.spec_l1Least f.vars 12)) (fun r => some (f, (wr (1 + r.1))))) = some (g, v) ∧ SmC 100 12 g ∧ okI v := by
    intro t c2 h2
    cases t with
    | true =>
      obtain ⟨x, c3, e3, _, hx⟩ := dr_among (n := 800) (c := c2) h2.le (l := [(-1), 0, (wr (f.vars + 1))]) (by simp)
      refine ⟨f, x, by rw [cond_true, e3, bd_some], hf, ?_⟩
      simp only [List.mem_cons, List.not_mem_nil, or_false] at hx
      rcases hx with rfl | rfl | rfl
      · unfold okI; omega
      · unfold okI; omega
      · exact okI_wr _
    | false =>
      obtain ⟨x, c3, e3, _, hx⟩ := dr_pick (n := 800) (c := c2) h2.le (PF.spec_l1Least f.vars 12)
      exact ⟨f, _, by rw [cond_false, e3, bd_some], hf, okI_wr _⟩
  cases decide (f.vars < 1) with
  | true => simp only [cond_true, bd_some]; exact tail true c1 h1.le
  | false =>
    obtain ⟨b, c2, e2, h2, _⟩ := dr_one (n := 900) (c := c1) h1.le 16
    simp only [cond_false]
    rw [e2, bd_some, bd_some]
    exact tail b c2 h2
theorem elim_no {F : Cnf} (hF : okCnf F) {v : Int} (h : (cnfB F && inB v 1 F.vars) = false) : spec_EliminateVar F v = some (Cnf.mk 0 [], false) ∧ impl_EliminateVar F v = some (Cnf.mk 0 [], false) := by
  unfold spec_EliminateVar impl_EliminateVar
  rw [spec_l2Good_eq hF, bd_some, impl_IsCnf_eq hF, bd_some, impl_isVar_eq, spec_l1In_eq]
  cases h1 : cnfB F with
  | false => exact ⟨rfl, rfl⟩
  | true =>
    rw [h1, Bool.true_and] at h
    rw [h]
    exact ⟨rfl, rfl⟩
theorem plain_FnElimination (a0 : List Int) (o0 : okL okU8 a0) : laws_FnElimination a0 = some true := by
  unfold laws_FnElimination
  cases laws_rBig a0 with
  | true => rfl
  | false =>
  simp only [cond_false]
  obtain ⟨F, v, e, hS, hvI⟩ := draw_elim o0
  rw [e, bd_some]
  dsimp only
  have hok : okCnf F := hS.ok
  cases hF : cnfB F && inB v 1 F.vars with
  | false =>
    obtain ⟨e1, e2⟩ := elim_no hok hF
    rw [e2, bd_some, e1, bd_some]
    dsimp only
    rw [laws_rCnf_self _ (fun c hc => by cases hc), bd_some]
    rfl
  | true =>
  rw [Bool.and_eq_true] at hF
  obtain ⟨hF, hv⟩ := hF
  obtain ⟨h1, h2⟩ := inB_iff.1 hv
  have hV := cnfB_rng hF
  obtain ⟨L, es, sL, mL⟩ := spec_elim hF h1 h2
  obtain ⟨L', ei, sL', mL'⟩ := impl_elim hF h1 h2
  obtain rfl : L' = L := srt_ext sL' sL fun x => (mL' x).trans (mL x).symm
  rw [ei, bd_some, es, bd_some]
  have hLC : ∀ x ∈ L', IsC F.vars x := fun x hx => elimP_isC hF ((mL x).1 hx)
  unfold giveL
  cases hd : decide (60 < len L') with
  | true =>
    simp only [cond_true]
    rw [laws_rCnf_self _ (fun c hc => by cases hc), bd_some]
    rfl
  | false =>
  simp only [cond_false]
  have hlen : L'.length ≤ 60 := by have := of_decide_eq_false hd; rw [len_eq] at this; omega
  have hG : cnfB (Cnf.mk F.vars L') = true := by
    unfold cnfB
    simp only [Bool.and_eq_true]
    exact ⟨⟨varsB_iff.2 hV, by rw [len_eq]; exact decide_eq_true (by omega)⟩, List.all_eq_true.2 fun x hx => clauseB_iff.2 (hLC x hx)⟩
  rw [laws_rCnf_self _ (fun c hc => by have := (hLC c hc).len; omega), bd_some]
  simp only [Bool.not_true, cond_false, beq_self_eq_true, bd_some]
  have hnn : nn F.vars = some () := by unfold nn; rw [if_neg (by omega)]
  have hwv : wr (v - 1) = ((v.natAbs - 1 : Nat) : Int) := by rw [wr_of _ (by omega) (by omega)]; omega
  have hnn2 : nn ((v.natAbs - 1 : Nat) : Int) = some () := by unfold nn; rw [if_neg (by omega)]
  have hp : 2 ^ F.vars.toNat ≤ 2 ^ 12 := Nat.pow_le_pow_right (by omega) (by omega)
  have hs : shlK true 64 1 F.vars = ((2 ^ F.vars.toNat : Nat) : Int) := by
    have := shlK_nat (k := F.vars.toNat) (by omega)
    rwa [Int.toNat_of_nonneg hV.1] at this
  have hs2 : shlK true 64 1 ((v.natAbs - 1 : Nat) : Int) = ((2 ^ (v.natAbs - 1) : Nat) : Int) := shlK_nat (by omega)
  have hvp : 2 ^ (v.natAbs - 1) < 2 ^ F.vars.toNat := Nat.pow_lt_pow_right (by omega) (by omega)
  have done : ∀ {body : Int → Option (Lp Int Bool)}, (∀ n : Nat, n < 256 → n < 2 ^ F.vars.toNat → body (n : Int) = some (.nx ((n : Int) + 1))) → (∀ n : Nat, ¬ (n < 256 ∧ n < 2 ^ F.vars.toNat) → body (n : Int) = some (.bk (n : Int))) → ∃ s, iter body 0 = some (.go s) := by
    intro body hb1 hb2
    obtain ⟨q, hq, hp⟩ := iter_near (body := body) (fun s => 256 - s.toNat) (fun s => 0 ≤ s) (fun q => ∃ s, q = .go s) (fun s hs => by
      obtain ⟨n, rfl⟩ := Int.eq_ofNat_of_zero_le hs
      by_cases h : n < 256 ∧ n < 2 ^ F.vars.toNat
      · exact .inl ⟨_, hb1 n h.1 h.2, by clear hwv hnn2 hs2 hs hnn; omega, by clear hwv hnn2 hs2 hs hnn; omega⟩
      · exact .inr (.inl ⟨_, hb2 n h, _, rfl⟩)) 0 (by omega)
    obtain ⟨s, rfl⟩ := hp
    exact ⟨s, hq⟩
  obtain ⟨s, hit⟩ := done (body := fun s115 => bd (nn F.vars) (fun u240 => (bif (bif (decide (s115 < (shlK true 64 1 F.vars))) then (decide (s115 < 256)) else false) then bd (PF.impl_IsModel F s115) (fun r254 => bd (nn (wr (v - 1))) (fun u261 => bd (PF.impl_IsModel F (xorK true 64 s115 (shlK true 64 1 (wr (v - 1))))) (fun r262 => bd (PF.impl_IsModel (Cnf.mk F.vars L') s115) (fun r267 => (bif (bif (bif (bif (!r254.2) then true else (!r262.2)) then true else (!r267.2)) then true else (!(r267.1 == (bif r254.1 then true else r262.1)))) then some (Lp.rt false) else some (Lp.nx (wr (s115 + 1)))))))) else some (Lp.bk s115))))
    (fun (n : Nat) (hn : n < 256) (hn2 : n < 2 ^ F.vars.toNat) => by
      have hw : wr ((n : Int) + 1) = (n : Int) + 1 := wr_of _ (by clear hwv hnn2 hs2 hs hnn; omega) (by clear hwv hnn2 hs2 hs hnn; omega)
      obtain ⟨x1, x2⟩ := xorK_nat (k := F.vars.toNat) hn2 hvp (by clear hwv hnn2 hs2 hs hnn hw; omega)
      rw [hnn, bd_some, hs, decide_eq_true (Int.ofNat_lt.2 hn2), show decide ((n : Int) < 256) = true from decide_eq_true (Int.ofNat_lt.2 hn), hwv, hnn2, hs2, x1]
      simp only [cond_true, bd_some]
      rw [impl_IsModel_eq hF hn2, bd_some, impl_IsModel_eq hF x2, bd_some, impl_IsModel_eq hG hn2, bd_some, hw]
      dsimp only
      rw [elim_law hF h1 h2 mL n]
      cases modB F.clauses n <;> cases modB F.clauses (n ^^^ 2 ^ (v.natAbs - 1)) <;> rfl)
    (fun (n : Nat) (hn : ¬ (n < 256 ∧ n < 2 ^ F.vars.toNat)) => by
      rw [hnn, bd_some, hs]
      have : (bif (decide ((n : Int) < ((2 ^ F.vars.toNat : Nat) : Int))) then (decide ((n : Int) < 256)) else false) = false := by
        by_cases h : n < 2 ^ F.vars.toNat
        · rw [decide_eq_true (Int.ofNat_lt.2 h), show decide ((n : Int) < 256) = false from decide_eq_false (fun g => hn ⟨Int.ofNat_lt.1 g, h⟩)]; rfl
        · rw [decide_eq_false (fun g => h (Int.ofNat_lt.1 g))]; rfl
      rw [this]; rfl)
  rw [hit, bdR_go]
end Go.PF
