/- Helpers of the walks and plain laws. -/
import Derived.Test.YtnimmenfdndeoaaGreatNrPC
set_option linter.unusedVariables false
namespace Go.PF
open Go.Pu
theorem sort_LL {xs : List (List Int)} (hn : xs.Nodup) (hl : xs.length < lim) : ∃ r, slices_SortFunc_LLint_Lint xs (fun x0 x1 => PF.impl_compareClauses x0 x1) = some r ∧ SrtC r ∧ ∀ x, x ∈ r ↔ x ∈ xs := by
 refine ⟨xs.mergeSort (leF fun x0 x1 => PF.impl_compareClauses x0 x1), ?_, ?_, fun x => (List.mergeSort_perm _ _).mem_iff⟩
 · unfold slices_SortFunc_LLint_Lint sortF
   rw [if_pos]
   exact ⟨cmpC, hl, fun x _ y _ => impl_compareClauses_eq x y, fun x _ => cmpC_irrefl x, fun x _ y _ z _ h1 h2 => cmpC_trans h1 h2, fun x _ y _ z _ h1 h2 => cmpC_ntrans h1 h2, fun x _ y _ h1 h2 => cmpC_total h1 h2⟩
 · have nd2 : (xs.mergeSort (leF fun x0 x1 => PF.impl_compareClauses x0 x1)).Nodup := (List.mergeSort_perm xs _).nodup_iff.2 hn
   refine ((sorted_config xs).and nd2).imp fun {a b} ⟨h1, h2⟩ => ?_
   by_cases h3 : cmpC a b < 0
   · exact h3
   · exact absurd (cmpC_total h3 h1) h2
theorem closure_clauses_eq {F : Cnf} {w : Int} (hF : Nar F) {cl : List (List Int)} {C : closure} (h : Clos F w cl C) : ∃ r, impl_closure_clauses C = some r ∧ SrtC r ∧ ∀ x, x ∈ r ↔ x ∈ cl := by
 unfold impl_closure_clauses
 have hfew := few h.ci.nd h.ci.sm
 have hm : C.masks = cl.map fun c => ((mkN c : Nat) : Int) := h.ci.masks
 rw [hm]
 refine list_m (I := fun i s => s = cl.take i) rfl ?_ ?_
 · rintro i y s hy hs
   subst hs
   left
   rw [List.getElem?_map, Option.map_eq_some_iff] at hy
   obtain ⟨c, hc, rfl⟩ := hy
   have hcs := h.ci.sm c (List.mem_of_getElem? hc)
   rw [clause_mk hcs, bd_some]
   have : app (cl.take i) [c] = some (cl.take (i + 1)) := by
    unfold app
    rw [if_pos (by simp [lim]; omega), List.take_add_one, hc]; rfl
   rw [this, bd_some]
   exact ⟨_, rfl, rfl⟩
 · intro s hs
   rw [List.length_map, List.take_length] at hs
   subst hs
   refine bd_ex (sort_LL h.ci.nd (by simp only [lim]; omega)) fun r hr => ⟨r, rfl, hr⟩
theorem indexLL {c : List (List Int)} {f : List Int → Option Bool} {g : List Int → Bool} (h : ∀ y ∈ c, f y = some (g y)) :
 ∃ r, slices_IndexFunc_LLint_Lint c f = some r ∧ ((r = -1 ∧ ∀ y ∈ c, g y = false) ∨ ∃ (i : Nat) (x : List Int), r = (i : Int) ∧ c[i]? = some x ∧ g x = true ∧ ∀ y ∈ c.take i, g y = false) := by
 unfold slices_IndexFunc_LLint_Lint
 refine list_m (I := fun i _ => ∀ y ∈ c.take i, g y = false) (by simp) ?_ ?_
 · rintro i y ⟨⟩ hy hI
   rw [h y (List.mem_of_getElem? hy), bd_some]
   cases hg : g y
   · left
     rw [cond_false]
     refine ⟨(), rfl, ?_⟩
     intro z hz
     rw [List.take_add_one, hy] at hz
     rcases List.mem_append.1 hz with q | q
     · exact hI z q
     · have : z = y := by simpa using q
       rw [this]; exact hg
   · right
     rw [cond_true]
     exact ⟨_, rfl, _, rfl, .inr ⟨i, y, rfl, hy, hg, hI⟩⟩
 · intro s hs
   rw [List.take_length] at hs
   exact ⟨_, rfl, .inl ⟨rfl, hs⟩⟩
theorem deleteLL {c : List (List Int)} {f : List Int → Option Bool} {g : List Int → Bool} (h : ∀ y ∈ c, f y = some (g y)) (hl : c.length ≤ 100000) : slices_DeleteFunc_LLint_Lint c f = some (c.filter fun y => !g y) := by
 unfold slices_DeleteFunc_LLint_Lint
 obtain ⟨r, e, hr⟩ := indexLL h
 rw [e, bd_some]
 rcases hr with ⟨rfl, hr⟩ | ⟨z, x, rfl, hx, hg, hr⟩
 · rw [show ((-1 : Int) == -1) = true by rfl, cond_true, List.filter_eq_self.2]
   intro y hy; rw [hr y hy]; rfl
 · have hzl := lt_of_get hx
   have hne : (((z : Nat) : Int) == -1) = false := by simp
   rw [hne, cond_false, show wr (((z : Nat) : Int) + 1) = ((z + 1 : Nat) : Int) by rw [wr_of _ (by omega) (by omega)]; simp]
   obtain ⟨s', i', q1, q2, q3, q4⟩ := del_loop (n := c.length) (by omega) rfl h (c.length - (z + 1)) (z + 1) z c (by omega) (by omega) rfl (by
    rw [List.take_add_one, hx, List.filter_append, List.filter_eq_self.2 (fun y hy => by rw [hr y hy]; rfl)]
    simp [hg]) rfl
   rw [q1, bdR_go]
   simp only
   rw [show len s' = ((s'.length : Nat) : Int) from rfl, cut_ok (by omega) (Nat.le_refl _), bd_some]
   have hcl : clearL [] s' (i' : Int) = s'.take i' ++ List.replicate (s'.length - i') [] := by unfold clearL; simp
   rw [hcl, show (0 : Int) = ((0 : Nat) : Int) from rfl, cut_ok (Nat.zero_le _) (by simp; omega), bd_some, List.drop_zero, List.take_left' (by simp; omega), q4]
theorem round_eq {F : Cnf} {w : Int} {cl : List (List Int)} {C : closure} (h : Clos F w cl C) {c : List Int} (hc : IsS F.vars c) :
 ∃ q, impl_closure_round C c = some q ∧ ((q = -1 ∧ c ∉ cl) ∨ (c ∈ cl ∧ ∃ n : Nat, q = (n : Int) ∧ Rk F w n c ∧ n ≤ 5000)) := by
 unfold impl_closure_round
 rw [maskOf_eq hc, bd_some]
 have hm := h.ci.map c hc
 dsimp only [] at hm
 by_cases hin : c ∈ cl
 · obtain ⟨n, e, hn, hn5⟩ := h.ci.rk c hin
   dsimp only [] at e
   rw [e]
   exact ⟨_, rfl, .inr ⟨hin, n, rfl, hn, hn5⟩⟩
 · have : (mget C.rounds ((mkN c : Nat) : Int)).isSome = false := by rw [Bool.eq_false_iff]; exact fun q => hin (hm.1 q)
   rw [this]
   exact ⟨_, rfl, .inl ⟨rfl, hin⟩⟩
def tstB (a b c : List Int) : Bool := bif (bif (PF.impl_mask_one (PF.impl_bothOf (mkN a) (mkN b))) then (!((andK false 16 (mkN a) (PF.impl_bothOf (mkN a) (mkN b))) == 0)) else false) then ((anK false 16 (orK false 16 (mkN a) (mkN b)) (orK false 16 (PF.impl_bothOf (mkN a) (mkN b)) (shlK false 16 (PF.impl_bothOf (mkN a) (mkN b)) 6))) == (mkN c : Int)) else false
theorem and_pow {x k : Nat} (hx : x < 4096) (hk : k < 12) : andK false 16 (x : Int) ((2 ^ k : Nat) : Int) = if x.testBit k then ((2 ^ k : Nat) : Int) else 0 := by
 have h1 : 2 ^ k < 4096 := Nat.pow_lt_pow_right (a := 2) (n := 12) (by omega) hk
 rw [and16 (by omega) (by omega)]
 have : x &&& 2 ^ k = if x.testBit k then 2 ^ k else 0 := by
  apply Nat.eq_of_testBit_eq
  intro j
  rw [Nat.testBit_and, Nat.testBit_two_pow]
  by_cases e : k = j
  · subst e
    cases hb : x.testBit k
    · simp
    · simp
  · rw [decide_eq_false e, Bool.and_false]
    split
    · rw [Nat.testBit_two_pow, decide_eq_false e]
    · simp
 rw [this]
 split <;> rfl
theorem tst_of {F : Cnf} (hF : Nar F) {a b c : List Int} (ha : IsS F.vars a) (hb : IsS F.vars b) {v : Int} (h1 : 1 ≤ v) (h2 : v ≤ F.vars) (h3 : (res a b v).2 = true) (h4 : (res a b v).1 = c) : tstB a b c = true := by
 obtain ⟨e1, e2, e3⟩ := rsv_left ha hb h1 h2 h3
 have hV := hF.le
 have hva := ((res_both ha hb h1 h2).1 h3).1
 unfold tstB
 change (bif (bif hitM (mkN a) (mkN b) then _ else _) then rsvM (mkN a) (mkN b) == _ else false) = true
 rw [e1, e2, h4, cond_true, e3, and_pow (mkN_lt ha) (by rw [bi_pos h1]; omega), if_pos ((mkN_mem ha (by omega) (by omega) (by omega)).2 hva)]
 have : (((2 ^ bi v : Nat) : Int) == 0) = false := by
  rw [beq_eq_false_iff_ne]
  have : 0 < 2 ^ bi v := Nat.pow_pos (by omega)
  omega
 rw [this]; simp
theorem of_tst {F : Cnf} (hF : Nar F) {a b c : List Int} (ha : IsS F.vars a) (hb : IsS F.vars b) (hc : IsS F.vars c) (h : tstB a b c = true) :
 ∃ v, 1 ≤ v ∧ v ≤ F.vars ∧ (res a b v).2 = true ∧ (res a b v).1 = c ∧ impl_mask_clause (PF.impl_bothOf (mkN a) (mkN b)) = some [v] ∧ ∀ v', 1 ≤ v' → v' ≤ F.vars → (res a b v').2 = true → v' = v := by
 have hV := hF.le
 unfold tstB at h
 change (bif (bif hitM (mkN a) (mkN b) then _ else _) then rsvM (mkN a) (mkN b) == _ else false) = true at h
 have hh : hitM (mkN a) (mkN b) = true := by
  cases q : hitM (mkN a) (mkN b)
  · rw [q] at h; exact h
  · rfl
 rw [hh, cond_true] at h
 have hk : ∃ k, k < 6 ∧ bothN (mkN a) (mkN b) = 2 ^ k := by
  unfold hitM at hh
  rwa [bothOf_eq (mkN_lt ha) (mkN_lt hb), one_iff (both_lt _ _)] at hh
 obtain ⟨k, hk, e⟩ := hk
 have eb : bi ((k : Int) + 1) = k := by rw [bi_pos (by omega)]; omega
 rw [bothOf_eq (mkN_lt ha) (mkN_lt hb), e, and_pow (mkN_lt ha) (by omega)] at h
 have hva : ((k : Int) + 1) ∈ a := by
  rw [← mkN_mem ha (by omega) (by omega) (by omega), eb]
  cases q : (mkN a).testBit k
  · rw [q] at h; exact absurd h (by simp)
  · rfl
 have hle := (ha.c.lit _ hva).2.1
 have hok : (res a b ((k : Int) + 1)).2 = true := (res_both ha hb (by omega) hle).2 ⟨hva, by rw [eb]; exact e⟩
 refine ⟨(k : Int) + 1, by omega, hle, hok, ?_, ?_, ?_⟩
 · have e2 := (rsv_left ha hb (by omega) hle hok).2.1
   have e3 : (rsvM (mkN a) (mkN b) == ((mkN c : Nat) : Int)) = true := by
    cases q : (mkN a).testBit k
    · rw [q] at h; exact absurd h (by simp)
    · cases q2 : (rsvM (mkN a) (mkN b) == ((mkN c : Nat) : Int))
      · rw [q2] at h
        exact absurd h (by cases (!(if true = true then ((2 ^ k : Nat) : Int) else 0) == 0) <;> simp)
      · rfl
   rw [beq_iff_eq, e2] at e3
   exact mkN_inj ⟨res_isC2 ha.c hb.c hok, hV⟩ hc (by omega)
 · have hlit : ∀ l ∈ [(k : Int) + 1], -F.vars ≤ l ∧ l ≤ F.vars ∧ l ≠ 0 := by
    intro l hl
    have e : l = (k : Int) + 1 := by simpa using hl
    rw [e]
    exact ha.c.lit _ hva
   have hs : IsS F.vars [(k : Int) + 1] := ⟨⟨ha.c.lo, ha.c.hi, hlit, by simp⟩, hV⟩
   have hm : mkN [(k : Int) + 1] = 2 ^ k := by
    unfold mkN
    rw [List.foldl_cons, List.foldl_nil, eb]
    simp
   have := clause_mk hs
   rw [hm] at this
   rw [bothOf_eq (mkN_lt ha) (mkN_lt hb), e]
   exact this
 · intro v' h1 h2 h3
   have e2 := ((res_both ha hb h1 h2).1 h3).2
   rw [e] at e2
   have : k = bi v' := (Nat.pow_right_inj (a := 2) (by omega)).1 e2
   rw [bi_pos h1] at this
   omega
theorem flat_at {α β : Type} {l : List α} {f : α → List β} {i : Nat} {x : α} (h : l[i]? = some x) : l.flatMap f = (l.take i).flatMap f ++ f x ++ (l.drop (i + 1)).flatMap f := by
 conv => lhs; rw [← List.take_append_drop (i + 1) l, List.flatMap_append]
 rw [List.take_add_one, h]; simp
theorem find_none {α β : Type} {l : List α} {f : α → List β} {p : β → Bool} {i : Nat} {x : α} (h : l[i]? = some x) (h1 : ((l.take i).flatMap f).find? p = none) (h2 : (f x).find? p = none) : ((l.take (i + 1)).flatMap f).find? p = none := by
 rw [take_flat h, List.find?_append, h1, h2]; rfl
theorem find_some {α β : Type} {l : List α} {f : α → List β} {p : β → Bool} {i : Nat} {x : α} {y : β} (h : l[i]? = some x) (h1 : ((l.take i).flatMap f).find? p = none) (h2 : (f x).find? p = some y) : (l.flatMap f).find? p = some y := by
 rw [flat_at h, List.find?_append, List.find?_append, h1, h2]; rfl
theorem source_eq {F : Cnf} {w : Int} (hF : Nar F) {cl : List (List Int)} {C : closure} (h : Clos F w cl C) {c : List Int} (hc : c ∈ cl) {n : Nat} (hn : 1 ≤ n) (hr : Rk F w n c) :
 ∃ t, impl_closure_source C c = some t ∧ Src F w n c t := by
 unfold impl_closure_source
 have hcs := h.ci.sm c hc
 have hfew := few h.ci.nd h.ci.sm
 obtain ⟨q, e, hq⟩ := round_eq h hcs
 rw [e, bd_some]
 have hqn : q = (n : Int) := by
  rcases hq with ⟨_, q2⟩ | ⟨_, m, q2, q3, _⟩
  · exact absurd hc q2
  · rw [q2, hr.uniq q3]
 subst hqn
 refine bd_ex (closure_clauses_eq hF h) ?_
 rintro ks ⟨k1, k2⟩
 have kl : ks.length ≤ 4096 := by
  refine few (V := F.vars) ?_ fun x hx => h.ci.sm x ((k2 x).1 hx)
  rw [List.nodup_iff_pairwise_ne]
  exact k1.imp fun {a b} hab (e : a = b) => cmpC_irrefl a (by rw [← e] at hab; exact hab)
 have hdel : ∀ y ∈ ks, (PF.impl_closure_source_1 y C (n : Int)) = some (decide ((n : Int) ≤ (mget C.rounds ((mkN y : Nat) : Int)).getD 0)) := by
  intro y hy
  unfold impl_closure_source_1
  rw [maskOf_eq (h.ci.sm y ((k2 y).1 hy)), bd_some]
 rw [deleteLL hdel (by omega), bd_some, maskOf_eq hcs, bd_some]
 generalize hkn : ks.filter (fun y => !decide ((n : Int) ≤ (mget C.rounds ((mkN y : Nat) : Int)).getD 0)) = kn
 have hks : SrtC kn := by rw [← hkn]; exact k1.filter _
 have hkl : kn.length ≤ 4096 := by rw [← hkn]; exact Nat.le_trans (List.length_filter_le _ _) kl
 have hkm : ∀ x, x ∈ kn ↔ Kn F w n x := by
  intro x
  rw [← hkn, List.mem_filter, k2]
  constructor
  · rintro ⟨g1, g2⟩
    obtain ⟨m, p1, p2, _⟩ := h.ci.rk x g1
    dsimp only [] at p1
    rw [p1] at g2
    simp only [Option.getD_some, Bool.not_eq_true', decide_eq_false_iff_not] at g2
    exact p2.1.up (by omega)
  · intro g
    have hx : x ∈ cl := (h.all x).2 ⟨n, g⟩
    refine ⟨hx, ?_⟩
    obtain ⟨m, p1, p2, _⟩ := h.ci.rk x hx
    dsimp only [] at p1
    rw [p1]
    simp only [Option.getD_some, Bool.not_eq_true', decide_eq_false_iff_not]
    intro q
    exact p2.2 (g.up (by omega))
 rw [chk_len (by omega), bd_some]
 have hsm : ∀ x ∈ kn, IsS F.vars x := fun x hx => hF.kn ((hkm x).1 hx)
 have hcw : len c ≤ w := hr.1.len
 refine rng_m (I := fun i _ => ((kn.take i).flatMap fun a => kn.flatMap fun b => (vsN F.vars).map fun v => (a, b, v)).find? (prodB w c) = none) (by simp) ?_ ?_
 · rintro i ⟨⟩ hi hI
   obtain ⟨a, ha⟩ := get_of_lt hi
   have has := hsm a (List.mem_of_getElem? ha)
   simp only [ix_get, ha, bd_some]
   have inner : ∃ z, bdR (forR (S := Unit) (X := (Lp Unit ((List Int) × (List Int) × Int))) 0 kn.length (fun i33234 s33234 => bd (kn[i33234]?) (fun x66348 => bd (PF.impl_maskOf a) (fun r66352 => bd (PF.impl_maskOf x66348) (fun r66357 => (bif (bif (bif (PF.impl_mask_one (PF.impl_bothOf r66352 r66357)) then (!((andK false 16 r66352 (PF.impl_bothOf r66352 r66357)) == 0)) else false) then ((anK false 16 (orK false 16 r66352 r66357) (orK false 16 (PF.impl_bothOf r66352 r66357) (shlK false 16 (PF.impl_bothOf r66352 r66357) 6))) == ((mkN c : Nat) : Int)) else false) then bd (PF.impl_mask_clause (PF.impl_bothOf r66352 r66357)) (fun r78409 => bd (ix r78409 0) (fun x81415 => some (Lp.rt (Lp.rt (a, x66348, x81415))))) else some (Lp.nx ())))))) ()) (fun s33234 => some (Lp.nx ())) (fun x33234 => some x33234) = some z ∧
    ((z = Lp.nx () ∧ (kn.flatMap fun b => (vsN F.vars).map fun v => (a, b, v)).find? (prodB w c) = none) ∨ ∃ t, z = Lp.rt t ∧ (kn.flatMap fun b => (vsN F.vars).map fun v => (a, b, v)).find? (prodB w c) = some t) := by
    refine rng_m (I := fun j _ => ((kn.take j).flatMap fun b => (vsN F.vars).map fun v => (a, b, v)).find? (prodB w c) = none) (by simp) ?_ ?_
    · rintro j ⟨⟩ hj hJ
      obtain ⟨b, hb⟩ := get_of_lt hj
      have hbs := hsm b (List.mem_of_getElem? hb)
      rw [hb, bd_some, maskOf_eq has, bd_some, maskOf_eq hbs, bd_some]
      change (∃ s', (bif tstB a b c then _ else _) = some (Lp.nx s') ∧ _) ∨ (∃ y, (bif tstB a b c then _ else _) = some (Lp.rt y) ∧ _)
      cases ht : tstB a b c
      · left
        rw [cond_false]
        refine ⟨(), rfl, find_none hb hJ ?_⟩
        rw [List.find?_eq_none]
        intro t htm hp
        obtain ⟨v, hv, rfl⟩ := List.mem_map.1 htm
        have hv := vsN_mem.1 hv
        obtain ⟨p1, p2, p3⟩ := prodB_iff.1 hp
        rw [tst_of hF has hbs hv.1 hv.2 p1 p2] at ht
        cases ht
      · right
        rw [cond_true]
        obtain ⟨v, v1, v2, v3, v4, v5, v6⟩ := of_tst hF has hbs hcs ht
        rw [v5, bd_some, show ix [v] 0 = some v from rfl, bd_some]
        refine ⟨_, rfl, _, rfl, .inr ⟨_, rfl, find_some hb hJ ?_⟩⟩
        obtain ⟨t, ht⟩ : ∃ t, ((vsN F.vars).map fun v => (a, b, v)).find? (prodB w c) = some t := by
         rw [← Option.isSome_iff_exists, List.find?_isSome]
         exact ⟨(a, b, v), List.mem_map.2 ⟨v, vsN_mem.2 ⟨v1, v2⟩, rfl⟩, prodB_iff.2 ⟨v3, v4, hcw⟩⟩
        rw [ht]
        have hm := List.mem_of_find?_eq_some ht
        have hp := prodB_iff.1 (List.find?_some ht)
        obtain ⟨v', hv', rfl⟩ := List.mem_map.1 hm
        have hv' := vsN_mem.1 hv'
        rw [v6 v' hv'.1 hv'.2 hp.1]
    · intro s hs
      rw [List.take_length] at hs
      exact ⟨_, rfl, .inl ⟨rfl, hs⟩⟩
   obtain ⟨z, e, hz⟩ := inner
   rw [e]
   rcases hz with ⟨rfl, hz⟩ | ⟨t, rfl, hz⟩
   · left; exact ⟨(), rfl, find_none ha hI hz⟩
   · right; exact ⟨t, rfl, t, rfl, kn, hks, hkm, find_some ha hI hz⟩
 · intro s hs
   exfalso
   rw [List.take_length] at hs
   obtain ⟨q1, q2⟩ := hr
   rcases q1 with g | g | ⟨a, b, v, g1, g2, g3, g4, g5, g6, g7⟩
   · exact q2 (Kn.up (n := 1) hn (.inl g))
   · exact q2 g
   · rw [List.find?_eq_none] at hs
     exact hs (a, b, v) (tris_mem.2 ⟨(hkm a).2 g1, (hkm b).2 g2, g3, g4⟩) (prodB_iff.2 ⟨g5, g6, g7⟩)
end Go.PF
namespace Go.PF
open Go.Pu
theorem mk_eq {F : Cnf} {x y : List Int} (hx : IsS F.vars x) (hy : IsS F.vars y) : (((mkN x : Nat) : Int) = ((mkN y : Nat) : Int)) ↔ x = y :=
 ⟨fun h => mkN_inj hx hy (by omega), fun h => by rw [h]⟩
def SrcOk (F : Cnf) (w : Int) (e : sourced) (all : List (List Int)) : Prop :=
 (e.v = 0 ∧ Rk F w 0 e.clause) ∨ ∃ n, 1 ≤ n ∧ Rk F w n e.clause ∧ Src F w n e.clause (e.a, e.b, e.v) ∧ e.v ≠ 0 ∧ e.a ∈ all ∧ e.b ∈ all
theorem SrcOk.mono {F : Cnf} {w : Int} {e : sourced} {a b : List (List Int)} (h : SrcOk F w e a) (hm : ∀ x ∈ a, x ∈ b) : SrcOk F w e b := by
 rcases h with h | ⟨n, h1, h2, h3, h4, h5, h6⟩
 · exact .inl h
 · exact .inr ⟨n, h1, h2, h3, h4, hm _ h5, hm _ h6⟩
structure Que (F : Cnf) (w : Int) (cl : List (List Int)) (t : List Int) (q : List (List Int)) (m : List (Int × Bool)) (L : List sourced) : Prop where
 nd : (L.map (·.clause) ++ q).Nodup
 seen : ∀ c, IsS F.vars c → ((mget m (mkN c)).getD false = true ↔ c ∈ L.map (·.clause) ++ q)
 need : ∀ c ∈ L.map (·.clause) ++ q, Need F w t c
 top : t ∈ L.map (·.clause) ++ q
 ok : ∀ e ∈ L, SrcOk F w e (L.map (·.clause) ++ q)
theorem Need.cl {F : Cnf} {w : Int} {cl : List (List Int)} {C : closure} (h : Clos F w cl C) {t : List Int} (ht : t ∈ cl) {c : List Int} (hc : Need F w t c) : c ∈ cl := by
 induction hc with
 | self => exact ht
 | left _ _ _ hs _ => exact (h.all _).2 ⟨_, hs.mk.1⟩
 | right _ _ _ hs _ => exact (h.all _).2 ⟨_, hs.mk.2.1⟩
structure Qu2 (F : Cnf) (w : Int) (t : List Int) (D : List (List Int)) (q : List (List Int)) (m : List (Int × Bool)) : Prop where
 nd : (D ++ q).Nodup
 seen : ∀ c, IsS F.vars c → ((mget m (mkN c)).getD false = true ↔ c ∈ D ++ q)
 need : ∀ c ∈ D ++ q, Need F w t c
theorem Qu2.see {F : Cnf} {w : Int} {t : List Int} {D q : List (List Int)} {m : List (Int × Bool)} (hF : ∀ c, Need F w t c → IsS F.vars c) (h : Qu2 F w t D q m) {x : List Int} (hx : Need F w t x) :
 ∃ s' : List (List Int) × List (Int × Bool), ((bif (!((mget m ((mkN x : Nat) : Int)).getD false)) then bd (PF.impl_maskOf x) (fun r779 => bd (app q [x]) (fun xs794 => some (Lp.nx (xs794, (mput m r779 true))))) else some (Lp.nx (q, m))) : Option (Lp (List (List Int) × List (Int × Bool)) Empty)) = some (Lp.nx s')
  ∧ Qu2 F w t D s'.1 s'.2 ∧ x ∈ D ++ s'.1 ∧ ∀ y ∈ D ++ q, y ∈ D ++ s'.1 := by
 have hxs := hF x hx
 have hseen := h.seen x hxs
 by_cases hin : x ∈ D ++ q
 · rw [hseen.2 hin, Bool.not_true, cond_false]
   exact ⟨_, rfl, h, hin, fun y hy => hy⟩
 · have hf : (mget m ((mkN x : Nat) : Int)).getD false = false := by rw [Bool.eq_false_iff]; exact fun g => hin (hseen.1 g)
   have hfew := few h.nd (fun c hc => hF c (h.need c hc))
   rw [List.length_append] at hfew
   have happ : app q [x] = some (q ++ [x]) := by unfold app; rw [if_pos (by simp [lim]; omega)]
   rw [hf, Bool.not_false, cond_true, maskOf_eq hxs, bd_some, happ, bd_some]
   refine ⟨_, rfl, ⟨?_, ?_, ?_⟩, by simp, fun y hy => by rw [← List.append_assoc]; exact List.mem_append_left _ hy⟩
   · rw [← List.append_assoc, List.nodup_append]
     refine ⟨h.nd, by simp, fun a ha b hb e => ?_⟩
     have : b = x := by simpa using hb
     rw [e, this] at ha
     exact hin ha
   · intro c hc
     dsimp only []
     rw [mget_mput, ← List.append_assoc]
     by_cases e : c = x
     · subst e; simp
     · rw [if_neg (fun g => e ((mk_eq hc hxs).1 g)), h.seen c hc]
       simp [e]
   · intro c hc
     rw [← List.append_assoc] at hc
     rcases List.mem_append.1 hc with g | g
     · exact h.need c g
     · have : c = x := by simpa using g
       rw [this]; exact hx
structure NeedL (F : Cnf) (w : Int) (t : List Int) (L : List sourced) : Prop where
 nd : (L.map (·.clause)).Nodup
 mem : ∀ c, c ∈ L.map (·.clause) ↔ Need F w t c
 ok : ∀ e ∈ L, SrcOk F w e (L.map (·.clause))
theorem needs_eq {F : Cnf} {w : Int} (hF : Nar F) {cl : List (List Int)} {C : closure} (h : Clos F w cl C) {t : List Int} (ht : t ∈ cl) : ∃ L, impl_closure_needs C t = some L ∧ NeedL F w t L := by
 unfold impl_closure_needs
 have hS : ∀ c, Need F w t c → IsS F.vars c := fun c hc => h.ci.sm c (Need.cl h ht hc)
 rw [maskOf_eq (hS t .self), bd_some]
 refine iter_m (I := fun s => Que F w cl t s.1 s.2.1 s.2.2) (m := fun s => 5000 - s.2.2.length) ?_ ?_
 · refine ⟨by simp, ?_, ?_, by simp, nofun⟩
   · intro c hc
     dsimp only []
     rw [mget_mput]
     by_cases e : c = t
     · subst e; simp
     · rw [if_neg (fun g => e ((mk_eq hc (hS t .self)).1 g))]
       simp [mget, e]
   · intro c hc
     have : c = t := by simpa using hc
     rw [this]; exact .self
 · rintro ⟨q, m, L⟩ hQ
   dsimp only [] at hQ ⊢
   have hfew := few hQ.nd (fun c hc => hS c (hQ.need c hc))
   rw [List.length_append, List.length_map] at hfew
   match q, hQ, hfew with
   | [], hQ, hfew =>
    right; left
    rw [cF (by simp [len_eq])]
    refine ⟨_, rfl, _, rfl, ?_⟩
    have e : L.map (·.clause) ++ [] = L.map (·.clause) := List.append_nil _
    have hok := hQ.ok
    have hnd := hQ.nd
    have hneed := hQ.need
    have htop := hQ.top
    rw [e] at hnd hneed htop
    refine ⟨hnd, fun c => ⟨fun hc => hneed c hc, fun hc => ?_⟩, fun x hx => by have := hok x hx; rwa [e] at this⟩
    induction hc with
    | self => exact htop
    | @left c n a b v _ h1 h2 h3 ih =>
     obtain ⟨x, hx, rfl⟩ := List.mem_map.1 ih
     rcases hok x hx with ⟨_, g⟩ | ⟨n', p1, p2, p3, p4, p5, p6⟩
     · have := g.uniq h2; omega
     · have e2 := h2.uniq p2
       subst e2
       have e3 := h3.uniq p3
       simp only [Prod.mk.injEq] at e3
       rw [e3.1]; rwa [e] at p5
    | @right c n a b v _ h1 h2 h3 ih =>
     obtain ⟨x, hx, rfl⟩ := List.mem_map.1 ih
     rcases hok x hx with ⟨_, g⟩ | ⟨n', p1, p2, p3, p4, p5, p6⟩
     · have := g.uniq h2; omega
     · have e2 := h2.uniq p2
       subst e2
       have e3 := h3.uniq p3
       simp only [Prod.mk.injEq] at e3
       rw [e3.2.1]; rwa [e] at p6
   | x :: q, hQ, hfew =>
    left
    simp only [List.length_cons] at hfew
    rw [cT (by simp [len_eq]), show ix (x :: q) 0 = some x from rfl, bd_some]
    have hcut : cut (x :: q) 1 (len (x :: q)) = some q := by
     unfold cut
     rw [len_eq, if_pos (by simp only [List.length_cons]; omega)]
     simp
    have hxn : Need F w t x := hQ.need x (by simp)
    have hxc := Need.cl h ht hxn
    have hxs := hS x hxn
    rw [hcut, bd_some]
    obtain ⟨rq, e, hr⟩ := round_eq h hxs
    rw [e, bd_some]
    obtain ⟨n, rfl, hrk, _⟩ : ∃ n : Nat, rq = (n : Int) ∧ Rk F w n x ∧ n ≤ 5000 := by
     rcases hr with ⟨_, g⟩ | ⟨_, n, g⟩
     · exact absurd hxc g
     · exact ⟨n, g⟩
    have happ : ∀ z : sourced, app L [z] = some (L ++ [z]) := fun z => by unfold app; rw [if_pos (by simp [lim]; omega)]
    have hq2 : Qu2 F w t (L.map (·.clause) ++ [x]) q m := ⟨by have := hQ.nd; rwa [List.append_assoc], fun c hc => by rw [hQ.seen c hc, List.append_assoc]; rfl, fun c hc => hQ.need c (by rwa [List.append_assoc] at hc)⟩
    by_cases hn : 1 ≤ n
    · rw [cT (by omega)]
      obtain ⟨⟨a, b, v⟩, e, hs⟩ := source_eq hF h hxc hn hrk
      rw [e, bd_some]
      dsimp only []
      have hm := hs.mk
      dsimp only [] at hm
      have hck : chk (len [a, b]) = some 2 := chk_len (xs := [a, b]) (by simp)
      rw [hck, bd_some]
      have na : Need F w t a := .left hxn hn hrk hs
      have nb : Need F w t b := .right hxn hn hrk hs
      obtain ⟨s1, g1, g2, g3, g4⟩ := hq2.see hS na
      obtain ⟨s2, g5, g6, g7, g8⟩ := g2.see hS nb
      have hrun : forR (S := ((List (List Int)) × (List (Int × Bool)))) (X := Empty) 0 2 (fun i629 s629 => bd (ix [a, b] ((i629 : Nat) : Int)) (fun x769 => bd (PF.impl_maskOf x769) (fun r773 => (bif (!((mget s629.2 r773).getD false)) then bd (PF.impl_maskOf x769) (fun r779 => bd (app s629.1 [x769]) (fun xs794 => some (Lp.nx (xs794, (mput s629.2 r779 true))))) else some (Lp.nx (s629.1, s629.2)))))) (q, m) = some (.go s2) := by
       have ha := maskOf_eq (hS a na)
       have hb := maskOf_eq (hS b nb)
       unfold forR
       rw [show 2 - 0 = 1 + 1 from rfl, forFrom]
       rw [show ix [a, b] ((0 : Nat) : Int) = some a from rfl, bd_some]
       rw [show (bd (PF.impl_maskOf a) (fun r773 => (bif (!((mget m r773).getD false)) then bd (PF.impl_maskOf a) (fun r779 => bd (app q [a]) (fun xs794 => some (Lp.nx (xs794, (mput m r779 true))))) else some (Lp.nx (q, m)))) : Option (Lp (List (List Int) × List (Int × Bool)) Empty)) = some (Lp.nx s1) by rw [ha, bd_some]; rw [ha] at g1; exact g1]
       dsimp only []
       rw [forFrom, show ix [a, b] (((0 + 1 : Nat)) : Int) = some b from rfl, bd_some]
       rw [show (bd (PF.impl_maskOf b) (fun r773 => (bif (!((mget s1.2 r773).getD false)) then bd (PF.impl_maskOf b) (fun r779 => bd (app s1.1 [b]) (fun xs794 => some (Lp.nx (xs794, (mput s1.2 r779 true))))) else some (Lp.nx (s1.1, s1.2)))) : Option (Lp (List (List Int) × List (Int × Bool)) Empty)) = some (Lp.nx s2) by rw [hb, bd_some]; rw [hb] at g5; exact g5]
       rfl
      rw [hrun, bdR_go, happ, bd_some]
      refine ⟨_, rfl, ⟨?_, ?_, ?_, ?_, ?_⟩, ?_⟩
      · dsimp only []; rw [List.map_append]; exact g6.nd
      · intro c hc; dsimp only []; rw [List.map_append]; exact g6.seen c hc
      · intro c hc; dsimp only [] at hc; rw [List.map_append] at hc; exact g6.need c hc
      · dsimp only []
        rw [List.map_append]
        refine g8 _ (g4 _ ?_)
        have := hQ.top
        rwa [List.append_assoc]
      · intro e he
        dsimp only []
        rw [List.map_append]
        rcases List.mem_append.1 he with g | g
        · refine (hQ.ok e g).mono fun y hy => g8 _ (g4 _ ?_)
          rwa [List.append_assoc]
        · have : e = sourced.mk x a b v := by simpa using g
          subst this
          have := hm.2.2.1
          exact .inr ⟨n, hn, hrk, hs, (by dsimp only []; omega), g8 _ g3, g7⟩
      · dsimp only []
        simp only [List.length_append, List.length_cons, List.length_nil]
        omega
    · have hn0 : n = 0 := by omega
      subst hn0
      rw [cF (by omega), happ, bd_some]
      refine ⟨_, rfl, ⟨?_, ?_, ?_, ?_, ?_⟩, ?_⟩
      · dsimp only []; rw [List.map_append]; exact hq2.nd
      · intro c hc; dsimp only []; rw [List.map_append]; exact hq2.seen c hc
      · intro c hc; dsimp only [] at hc; rw [List.map_append] at hc; exact hq2.need c hc
      · dsimp only []
        rw [List.map_append]
        have := hQ.top
        rwa [List.append_assoc]
      · intro e he
        dsimp only []
        rw [List.map_append]
        rcases List.mem_append.1 he with g | g
        · refine (hQ.ok e g).mono fun y hy => ?_
          rwa [List.append_assoc]
        · have : e = sourced.mk x [] [] 0 := by simpa using g
          subst this
          exact .inl ⟨rfl, hrk⟩
      · dsimp only []
        simp only [List.length_append, List.length_cons, List.length_nil]
        omega
def cfS (C : closure) (x y : sourced) : Int :=
 if (mget C.rounds ((mkN x.clause : Nat) : Int)).getD 0 - (mget C.rounds ((mkN y.clause : Nat) : Int)).getD 0 ≠ 0 then (mget C.rounds ((mkN x.clause : Nat) : Int)).getD 0 - (mget C.rounds ((mkN y.clause : Nat) : Int)).getD 0 else cmpC x.clause y.clause
theorem sort_src {F : Cnf} {w : Int} (hF : Nar F) {cl : List (List Int)} {C : closure} (h : Clos F w cl C) {t : List Int} (ht : t ∈ cl) {L : List sourced} (hL : NeedL F w t L) :
 ∃ R, slices_SortFunc_impl_sourced_impl_sourced L (fun x0 x1 => PF.impl_closure_derive_1 x0 x1 C) = some R ∧ R.Perm L ∧ (R.map (·.clause)).Pairwise (LtR F w) := by
 have hcl : ∀ x ∈ L, x.clause ∈ cl := fun x hx => Need.cl h ht ((hL.mem _).1 (List.mem_map.2 ⟨x, hx, rfl⟩))
 have hfew := few hL.nd (fun c hc => h.ci.sm c (Need.cl h ht ((hL.mem c).1 hc)))
 rw [List.length_map] at hfew
 have hrd : ∀ x ∈ L, ∃ n : Nat, (mget C.rounds ((mkN x.clause : Nat) : Int)).getD 0 = (n : Int) ∧ Rk F w n x.clause ∧ n ≤ 5000 ∧ impl_closure_round C x.clause = some (n : Int) := by
  intro x hx
  obtain ⟨n, e, h1, h2⟩ := h.ci.rk _ (hcl x hx)
  dsimp only [] at e
  refine ⟨n, by rw [e]; rfl, h1, h2, ?_⟩
  unfold impl_closure_round
  rw [maskOf_eq (h.ci.sm _ (hcl x hx)), bd_some, e]; rfl
 have hf : ∀ x ∈ L, ∀ y ∈ L, PF.impl_closure_derive_1 x y C = some (cfS C x y) := by
  intro x hx y hy
  obtain ⟨n, e1, _, n5, e2⟩ := hrd x hx
  obtain ⟨m, e3, _, m5, e4⟩ := hrd y hy
  unfold impl_closure_derive_1 cfS
  rw [e2, bd_some, e4, bd_some, e1, e3, wr_s (by omega) (by omega)]
  by_cases g : (n : Int) - (m : Int) = 0
  · rw [if_neg (by simpa using g), beq_iff_eq.2 g, Bool.not_true, cond_false, impl_compareClauses_eq, bd_some]
  · rw [if_pos g, beq_eq_false_iff_ne.2 g, Bool.not_false, cond_true]
 have hneg : ∀ x ∈ L, ∀ y ∈ L, (cfS C x y < 0 ↔ LtR F w x.clause y.clause) := by
  intro x hx y hy
  obtain ⟨n, e1, r1, n5, e2⟩ := hrd x hx
  obtain ⟨m, e3, r2, m5, e4⟩ := hrd y hy
  unfold cfS LtR
  rw [e1, e3]
  constructor
  · intro g
    split at g
    · exact ⟨n, m, r1, r2, .inl (by omega)⟩
    · exact ⟨n, m, r1, r2, .inr ⟨by omega, g⟩⟩
  · rintro ⟨n', m', r1', r2', g⟩
    have := r1.uniq r1'
    have := r2.uniq r2'
    subst n' m'
    rcases g with g | ⟨g, g2⟩
    · rw [if_pos (by omega)]; omega
    · rw [if_neg (by omega)]; exact g2
 have htot : ∀ x ∈ L, ∀ y ∈ L, ¬ LtR F w x.clause y.clause → ¬ LtR F w y.clause x.clause → x = y := by
  intro x hx y hy h1 h2
  obtain ⟨n, _, r1, _⟩ := hrd x hx
  obtain ⟨m, _, r2, _⟩ := hrd y hy
  have hnm : n = m := by
   apply Classical.byContradiction
   intro hne
   rcases Nat.lt_or_gt_of_ne hne with g | g
   · exact h1 ⟨n, m, r1, r2, .inl g⟩
   · exact h2 ⟨m, n, r2, r1, .inl g⟩
  subst hnm
  have e : x.clause = y.clause := cmpC_total (fun g => h1 ⟨n, n, r1, r2, .inr ⟨rfl, g⟩⟩) (fun g => h2 ⟨n, n, r2, r1, .inr ⟨rfl, g⟩⟩)
  obtain ⟨i, hi⟩ := List.getElem?_of_mem hx
  obtain ⟨j, hj⟩ := List.getElem?_of_mem hy
  have : i = j := by
   refine (List.getElem?_inj (by simpa using lt_of_get hi) hL.nd).1 ?_
   rw [List.getElem?_map, List.getElem?_map, hi, hj]
   simp [e]
  subst this
  rw [hi] at hj
  exact Option.some.inj hj
 have htr : ∀ {a b c : List Int}, LtR F w a b → LtR F w b c → LtR F w a c := by
  rintro a b c ⟨n, m, r1, r2, g⟩ ⟨m', k, r3, r4, g2⟩
  have := r2.uniq r3
  subst this
  refine ⟨n, k, r1, r4, ?_⟩
  rcases g with g | ⟨g0, g⟩ <;> rcases g2 with g2 | ⟨g20, g2⟩
  · exact .inl (by omega)
  · exact .inl (by omega)
  · exact .inl (by omega)
  · exact .inr ⟨by omega, cmpC_trans g g2⟩
 have hsok : SortOk (fun x0 x1 => PF.impl_closure_derive_1 x0 x1 C) L (cfS C) := by
  refine ⟨by simp only [lim]; omega, hf, fun x hx g => ((hneg x hx x hx).1 g).irr, fun x hx y hy z hz g1 g2 => ?_, fun x hx y hy z hz g1 g2 g3 => ?_, fun x hx y hy g1 g2 => ?_⟩
  · exact (hneg x hx z hz).2 (htr ((hneg x hx y hy).1 g1) ((hneg y hy z hz).1 g2))
  · rw [hneg x hx y hy] at g1
    rw [hneg y hy z hz] at g2
    rw [hneg x hx z hz] at g3
    by_cases k1 : LtR F w y.clause x.clause
    · exact g2 (htr k1 g3)
    · have := htot x hx y hy g1 k1
      subst this
      exact g2 g3
  · rw [hneg x hx y hy] at g1
    rw [hneg y hy x hx] at g2
    exact htot x hx y hy g1 g2
 refine ⟨L.mergeSort (leF (fun x0 x1 => PF.impl_closure_derive_1 x0 x1 C)), ?_, List.mergeSort_perm _ _, ?_⟩
 · unfold slices_SortFunc_impl_sourced_impl_sourced sortF
   rw [if_pos ⟨_, hsok⟩]
 · have hle : ∀ x ∈ L, ∀ y ∈ L, leF (fun x0 x1 => PF.impl_closure_derive_1 x0 x1 C) x y = !decide (cfS C y x < 0) := by
    intro x hx y hy
    unfold leF
    simp only [hf y hy x hx]
   have hp : (L.mergeSort (leF (fun x0 x1 => PF.impl_closure_derive_1 x0 x1 C))).Perm L := List.mergeSort_perm _ _
   have hc : ∀ x y : sourced, cfS C x y < 0 ↔ (mget C.rounds ((mkN x.clause : Nat) : Int)).getD 0 < (mget C.rounds ((mkN y.clause : Nat) : Int)).getD 0 ∨ ((mget C.rounds ((mkN x.clause : Nat) : Int)).getD 0 = (mget C.rounds ((mkN y.clause : Nat) : Int)).getD 0 ∧ cmpC x.clause y.clause < 0) := by
    intro x y
    unfold cfS
    split
    · constructor
      · intro g; exact .inl (by omega)
      · rintro (g | ⟨g, _⟩)
        · omega
        · omega
    · constructor
      · intro g; exact .inr ⟨by omega, g⟩
      · rintro (g | ⟨_, g⟩)
        · omega
        · exact g
   have hsame : L.mergeSort (leF (fun x0 x1 => PF.impl_closure_derive_1 x0 x1 C)) = L.mergeSort fun x y => !decide (cfS C y x < 0) := by
    have := List.map_mergeSort (r := leF (fun x0 x1 => PF.impl_closure_derive_1 x0 x1 C)) (s := fun x y => !decide (cfS C y x < 0)) (f := id) (l := L) (fun a ha b hb => hle a ha b hb)
    simpa using this
   have hpw := List.pairwise_mergeSort (le := fun x y => !decide (cfS C y x < 0)) (by
    intro x y z g1 g2
    simp only [Bool.not_eq_true', decide_eq_false_iff_not] at g1 g2 ⊢
    rw [hc] at g1 g2 ⊢
    intro g3
    by_cases e1 : (mget C.rounds ((mkN y.clause : Nat) : Int)).getD 0 = (mget C.rounds ((mkN x.clause : Nat) : Int)).getD 0
    · by_cases e2 : (mget C.rounds ((mkN z.clause : Nat) : Int)).getD 0 = (mget C.rounds ((mkN y.clause : Nat) : Int)).getD 0
      · rcases g3 with g3 | ⟨_, g3⟩
        · omega
        · exact cmpC_ntrans (fun q => g2 (.inr ⟨e2, q⟩)) (fun q => g1 (.inr ⟨e1, q⟩)) g3
      · have : ¬ (mget C.rounds ((mkN z.clause : Nat) : Int)).getD 0 < (mget C.rounds ((mkN y.clause : Nat) : Int)).getD 0 := fun q => g2 (.inl q)
        rcases g3 with g3 | ⟨g3, _⟩ <;> omega
    · have h1 : ¬ (mget C.rounds ((mkN y.clause : Nat) : Int)).getD 0 < (mget C.rounds ((mkN x.clause : Nat) : Int)).getD 0 := fun q => g1 (.inl q)
      have h2 : ¬ (mget C.rounds ((mkN z.clause : Nat) : Int)).getD 0 < (mget C.rounds ((mkN y.clause : Nat) : Int)).getD 0 := fun q => g2 (.inl q)
      rcases g3 with g3 | ⟨g3, _⟩ <;> omega) (by
    intro x y
    simp only [Bool.or_eq_true, Bool.not_eq_true', decide_eq_false_iff_not]
    rw [hc, hc]
    by_cases q : (mget C.rounds ((mkN y.clause : Nat) : Int)).getD 0 < (mget C.rounds ((mkN x.clause : Nat) : Int)).getD 0 ∨ ((mget C.rounds ((mkN y.clause : Nat) : Int)).getD 0 = (mget C.rounds ((mkN x.clause : Nat) : Int)).getD 0 ∧ cmpC y.clause x.clause < 0)
    · right
      intro q2
      rcases q with q | ⟨q0, q⟩ <;> rcases q2 with q2 | ⟨q20, q2⟩
      · omega
      · omega
      · omega
      · exact cmpC_irrefl _ (cmpC_trans q q2)
    · exact .inl q) L
   rw [← hsame] at hpw
   rw [List.pairwise_map]
   have hnd : (L.mergeSort (leF (fun x0 x1 => PF.impl_closure_derive_1 x0 x1 C))).Nodup := hp.nodup_iff.2 (by
    have := hL.nd
    rw [List.nodup_iff_pairwise_ne, List.pairwise_map] at this
    rw [List.nodup_iff_pairwise_ne]
    exact this.imp fun {a b} g e => g (by rw [e]))
   have := List.Pairwise.and_mem.1 (hpw.and (List.nodup_iff_pairwise_ne.1 hnd))
   refine this.imp ?_
   rintro a b ⟨ha, hb, g1, g2⟩
   have ha := hp.mem_iff.1 ha
   have hb := hp.mem_iff.1 hb
   simp only [Bool.not_eq_true', decide_eq_false_iff_not] at g1
   rw [hneg b hb a ha] at g1
   by_cases k : LtR F w a.clause b.clause
   · exact k
   · exact absurd (htot a ha b hb k g1) g2
end Go.PF
namespace Go.PF
open Go.Pu
theorem indexRS {S : List ResStep} {f : ResStep → Option Bool} {g : ResStep → Bool} (h : ∀ y ∈ S, f y = some (g y)) (hex : ∃ y ∈ S, g y = true) :
 ∃ r, slices_IndexFunc_impl_ResStep_impl_ResStep S f = some r ∧ ∃ (i : Nat) (x : ResStep), r = (i : Int) ∧ S[i]? = some x ∧ g x = true := by
 unfold slices_IndexFunc_impl_ResStep_impl_ResStep
 refine list_m (I := fun i _ => ∀ y ∈ S.take i, g y = false) (by simp) ?_ ?_
 · rintro i y ⟨⟩ hy hI
   rw [h y (List.mem_of_getElem? hy), bd_some]
   cases hg : g y
   · left
     rw [cond_false]
     refine ⟨(), rfl, ?_⟩
     intro z hz
     rw [List.take_add_one, hy] at hz
     rcases List.mem_append.1 hz with q | q
     · exact hI z q
     · have : z = y := by simpa using q
       rw [this]; exact hg
   · right
     rw [cond_true]
     exact ⟨_, rfl, _, rfl, i, y, rfl, hy, hg⟩
 · intro s hs
   rw [List.take_length] at hs
   obtain ⟨y, hy, hg⟩ := hex
   rw [hs y hy] at hg; cases hg
theorem firstWith_eq {S : List ResStep} {a : List Int} (h : a ∈ S.map (·.clause)) : ∃ r, impl_firstWith S a = some r ∧ ∃ i : Nat, r = (i : Int) ∧ (S.map (·.clause))[i]? = some a := by
 unfold impl_firstWith
 refine bd_ex (indexRS (g := fun y => y.clause == a) (fun y _ => by unfold impl_firstWith_1; rw [slices_Equal_int_int_eq, bd_some]) ?_) ?_
 · obtain ⟨y, hy, e⟩ := List.mem_map.1 h
   exact ⟨y, hy, by rw [beq_iff_eq]; exact e⟩
 · rintro r ⟨i, x, rfl, hx, hg⟩
   refine ⟨_, rfl, i, rfl, ?_⟩
   rw [List.getElem?_map, hx]
   rw [beq_iff_eq] at hg
   rw [← hg]; rfl
theorem indexOf_eq {cs : List (List Int)} {a : List Int} (h : a ∈ cs) : ∃ r, impl_indexOf cs a = some r ∧ ∃ j : Nat, r = (j : Int) ∧ cs[j]? = some a ∧ ∀ k < j, cs[k]? ≠ some a := by
 unfold impl_indexOf
 refine bd_ex (indexLL (c := cs) (g := fun y => a == y) (fun y _ => by unfold impl_indexOf_1; rw [slices_Equal_int_int_eq, bd_some])) ?_
 rintro r (⟨_, hr⟩ | ⟨i, x, rfl, hx, hg, hr⟩)
 · have := hr a h
   simp at this
 · rw [beq_iff_eq] at hg
   refine ⟨_, rfl, i, rfl, by rw [hx, hg], fun k hk e => ?_⟩
   have := hr a (List.mem_of_getElem? (i := k) (by rw [List.getElem?_take, if_pos hk]; exact e))
   simp at this
structure Bui (F : Cnf) (w : Int) (R : List sourced) (i : Nat) (S : List ResStep) : Prop where
 cl : S.map (·.clause) = (R.take i).map (·.clause)
 ax : ∀ s ∈ S, Rk F w 0 s.clause → s.left = -1 ∧ s.pivot = 0 ∧ ∃ j : Nat, s.right = (j : Int) ∧ F.clauses[j]? = some s.clause ∧ ∀ k < j, F.clauses[k]? ≠ some s.clause
 rs : ∀ s ∈ S, ∀ n, 1 ≤ n → Rk F w n s.clause → ∃ a b v, ∃ i j : Nat, Src F w n s.clause (a, b, v) ∧ s.pivot = v ∧ s.left = (i : Int) ∧ s.right = (j : Int) ∧ (S.map (·.clause))[i]? = some a ∧ (S.map (·.clause))[j]? = some b
theorem Bui.add {F : Cnf} {w : Int} {R : List sourced} {i : Nat} {S : List ResStep} (h : Bui F w R i S) {x : sourced} {s : ResStep} (hx : R[i]? = some x) (hs : s.clause = x.clause)
 (hax : Rk F w 0 s.clause → s.left = -1 ∧ s.pivot = 0 ∧ ∃ j : Nat, s.right = (j : Int) ∧ F.clauses[j]? = some s.clause ∧ ∀ k < j, F.clauses[k]? ≠ some s.clause)
 (hrs : ∀ n, 1 ≤ n → Rk F w n s.clause → ∃ a b v, ∃ i j : Nat, Src F w n s.clause (a, b, v) ∧ s.pivot = v ∧ s.left = (i : Int) ∧ s.right = (j : Int) ∧ (S.map (·.clause))[i]? = some a ∧ (S.map (·.clause))[j]? = some b) :
 Bui F w R (i + 1) (S ++ [s]) := by
 have keep : ∀ {p : Nat} {x : List Int}, (S.map (·.clause))[p]? = some x → ((S ++ [s]).map (·.clause))[p]? = some x := by
  intro p x hp
  rw [List.map_append, List.getElem?_append_left (lt_of_get hp)]
  exact hp
 refine ⟨?_, ?_, ?_⟩
 · rw [List.map_append, h.cl, List.take_add_one, hx]
   simp [hs]
 · intro s' hs'
   rcases List.mem_append.1 hs' with g | g
   · exact h.ax s' g
   · have : s' = s := by simpa using g
     subst this; exact hax
 · intro s' hs' n hn1 hn2
   rcases List.mem_append.1 hs' with g | g
   · obtain ⟨a, b, v, p, q, u1, u2, u3, u4, u5, u6⟩ := h.rs s' g n hn1 hn2
     exact ⟨a, b, v, p, q, u1, u2, u3, u4, keep u5, keep u6⟩
   · have : s' = s := by simpa using g
     subst this
     obtain ⟨a, b, v, p, q, u1, u2, u3, u4, u5, u6⟩ := hrs n hn1 hn2
     exact ⟨a, b, v, p, q, u1, u2, u3, u4, keep u5, keep u6⟩
theorem rk0_mem {F : Cnf} {w : Int} {c : List Int} (h : Rk F w 0 c) : c ∈ F.clauses := by
 rcases h.1 with q | q | ⟨_, _, _, q, _⟩
 · exact q.1
 · exact q.elim
 · exact q.elim
theorem derive_eq {F : Cnf} {w : Int} (hF : Nar F) {cl : List (List Int)} {C : closure} (h : Clos F w cl C) {t : List Int} (ht : t ∈ cl) :
 ∃ q, impl_closure_derive C F t = some q ∧ ∃ L, NeedL F w t L ∧ (200 < L.length → q = ([], false)) ∧ (¬ 200 < L.length → ∃ S, StOk F w t S ∧ q = (S, true)) := by
 unfold impl_closure_derive
 refine bd_ex (needs_eq hF h ht) ?_
 intro L hL
 by_cases hl : 200 < L.length
 · rw [cT (by rw [len_eq]; omega)]
   exact ⟨_, rfl, L, hL, fun _ => rfl, fun g => absurd hl g⟩
 · rw [cF (by rw [len_eq]; omega)]
   refine bd_ex (sort_src hF h ht hL) ?_
   rintro R ⟨hp, hR⟩
   have hRl : R.length = L.length := hp.length_eq
   have hRm : ∀ c, c ∈ R.map (·.clause) ↔ Need F w t c := fun c => (hp.map _).mem_iff.trans (hL.mem c)
   have hRnd := ltR_nodup hR
   rw [chk_len (by omega), bd_some]
   refine rng_m (I := fun i S => Bui F w R i S) ⟨rfl, nofun, nofun⟩ ?_ ?_
   · intro i S hi hS
     left
     obtain ⟨x, hx⟩ := get_of_lt hi
     have hxm := List.mem_of_getElem? hx
     have hxL : x ∈ L := hp.mem_iff.1 hxm
     have hxn : Need F w t x.clause := (hRm _).1 (List.mem_map.2 ⟨x, hxm, rfl⟩)
     have hxs := h.ci.sm _ (Need.cl h ht hxn)
     have hxl := hxs.c.len
     have hSl : S.length = i := by
      have := congrArg List.length hS.cl
      simp only [List.length_map, List.length_take] at this
      omega
     have happ : ∀ z : ResStep, app S [z] = some (S ++ [z]) := fun z => by unfold app; rw [if_pos (by simp [lim]; omega)]
     simp only [ix_get, hx, bd_some, slices_Clone_int_int_eq (show x.clause.length ≤ lim by simp only [lim]; omega)]
     rcases hL.ok x hxL with ⟨hv, hr⟩ | ⟨n, n1, hr, hsrc, hv, ha, hb⟩
     · rw [beq_iff_eq.2 hv, cond_true]
       obtain ⟨r, e, j, rfl, j1, j2⟩ := indexOf_eq (rk0_mem hr)
       rw [e, bd_some, happ, bd_some]
       refine ⟨_, rfl, hS.add hx rfl (fun _ => ⟨rfl, rfl, j, rfl, j1, j2⟩) (fun m m1 m2 => ?_)⟩
       have := hr.uniq m2; omega
     · rw [beq_eq_false_iff_ne.2 hv, cond_false]
       have early : ∀ y, Need F w t y → Kn F w n y → y ∈ S.map (·.clause) := by
        intro y hy hyn
        obtain ⟨q, q1, q2⟩ := hyn.rk
        have hlt : LtR F w y x.clause := ⟨q, n, q2, hr, .inl q1⟩
        obtain ⟨k, hk⟩ := List.getElem?_of_mem ((hRm y).2 hy)
        have hxi : (R.map (·.clause))[i]? = some x.clause := by rw [List.getElem?_map, hx]; rfl
        rw [hS.cl]
        have hki : k < i := by
         apply Classical.byContradiction
         intro g
         by_cases e : k = i
         · subst e
           rw [hxi] at hk
           exact LtR.irr (Option.some.inj hk ▸ hlt)
         · exact (pw_get hR (show i < k by omega) hxi hk).asym hlt
        refine List.mem_of_getElem? (i := k) ?_
        rw [List.map_take, List.getElem?_take, if_pos hki]
        exact hk
       have hm := hsrc.mk
       dsimp only [] at hm
       obtain ⟨ra, ea, pa, rfl, pa1⟩ := firstWith_eq (early x.a (.left hxn n1 hr hsrc) hm.1)
       obtain ⟨rb, eb, pb, rfl, pb1⟩ := firstWith_eq (early x.b (.right hxn n1 hr hsrc) hm.2.1)
       rw [ea, bd_some, eb, bd_some, happ, bd_some]
       refine ⟨_, rfl, hS.add hx rfl (fun q => ?_) (fun m m1 m2 => ?_)⟩
       · have := hr.uniq q; omega
       · have := hr.uniq m2
         subst this
         exact ⟨x.a, x.b, x.v, pa, pb, hsrc, rfl, rfl, rfl, pa1, pb1⟩
   · intro S hS
     refine ⟨_, rfl, L, hL, fun g => absurd g hl, fun _ => ⟨S, ⟨?_, ?_, hS.ax, hS.rs⟩, rfl⟩⟩
     · rw [hS.cl, List.take_length]; exact hR
     · intro c; rw [hS.cl, List.take_length]; exact hRm c
theorem same_len {F : Cnf} {w : Int} {t : List Int} {S : List ResStep} {L : List sourced} (h : StOk F w t S) (hL : NeedL F w t L) : S.length = L.length := by
 have := (List.perm_ext_iff_of_nodup (ltR_nodup h.ord) hL.nd).2 fun c => (h.mem c).trans (hL.mem c).symm
 have := this.length_eq
 simpa using this
noncomputable def implW (F : Cnf) (w : Int) (t : List Int) : Option (List ResStep × Bool) :=
 bd (PF.impl_closureOf F w) (fun r56 => bd r56 (fun y64 => bd (PF.impl_closure_round y64 t) (fun r73 => (bif (decide (r73 < 0)) then some ([], false) else bd (PF.impl_closure_derive y64 F t) (fun r79 => some (r79.1, r79.2))))))
theorem tot_leK {A : Type} {wt : A → Nat} {n : Nat} : ∀ {l : List A}, (∀ x ∈ l, wt x ≤ n) → tot wt l ≤ n * l.length := by
 intro l
 induction l with
 | nil => intro _; simp [tot]
 | cons x l ih =>
  intro h
  have h1 := h x (by simp); have h2 := ih fun y hy => h y (by simp [hy])
  simp only [tot, List.length_cons, Nat.mul_add, Nat.mul_one]; omega
theorem refute_eq {F : Cnf} {w : Int} (hF : Nar F) {t : List Int} (ht : IsS F.vars t) :
 ∃ q, spec_l10Refute F w t = some q ∧ implW F w t = some q ∧ tot mResStep q.1 ≤ 10000 := by
 obtain ⟨W, eW, r, hW, hWall⟩ := spec_l10Closure_eq (w := w) hF
 obtain ⟨o, eo, C, cl, rfl, hC⟩ := impl_closureOf_eq (w := w) hF
 have hmem : t ∈ W.list ↔ t ∈ cl := by
  rw [hW.lm, hC.all]
  exact ⟨fun g => ⟨r, g⟩, fun ⟨n, g⟩ => hWall n t g⟩
 obtain ⟨p, ep, hp⟩ := spec_l10Find_eq (hW.few hF) t
 obtain ⟨q, eq, hq⟩ := round_eq hC ht
 unfold spec_l10Refute implW
 rw [eW, bd_some, ep, bd_some, eo, bd_some, bd_some, eq, bd_some]
 by_cases hin : t ∈ cl
 · obtain ⟨g, rfl, hg⟩ : ∃ i : Nat, p = (i : Int) ∧ W.list[i]? = some t := by
    rcases hp with ⟨_, g⟩ | g
    · exact absurd (hmem.2 hin) g
    · exact g
   obtain ⟨n, rfl, hn⟩ : ∃ n : Nat, q = (n : Int) ∧ Rk F w n t := by
    rcases hq with ⟨_, g⟩ | ⟨_, n, g, g2, _⟩
    · exact absurd hin g
    · exact ⟨n, g, g2⟩
   rw [cF (by omega), cF (by omega)]
   obtain ⟨d, ed, hd1, hd2⟩ := spec_l10Derive_eq hF hW hg
   obtain ⟨e, ee, L, hL, h1, h2⟩ := derive_eq hF hC hin
   have hlen := same_len hd1 hL
   rw [ed, bd_some, ee, bd_some]
   by_cases hl : 200 < L.length
   · have : d.2 = false := by rw [hd2, decide_eq_false_iff_not, len_eq]; omega
     rw [this, Bool.not_false, cond_true, h1 hl]
     exact ⟨_, rfl, rfl, by simp [tot]⟩
   · have : d.2 = true := by rw [hd2, decide_eq_true_iff, len_eq]; omega
     obtain ⟨S, hS, rfl⟩ := h2 hl
     have hk : ∀ c, Need F w t c → ∃ n, Rk F w n c := fun c hc => hc.rk ⟨_, hn.1⟩
     have e := hd1.uniq hk hS
     rw [this, Bool.not_true, cond_false, e]
     refine ⟨_, rfl, rfl, ?_⟩
     have := tot_leK (wt := mResStep) (n := 20) (l := S) fun y hy => by
      have hy2 : Need F w t y.clause := (hS.mem _).1 (List.mem_map.2 ⟨y, hy, rfl⟩)
      have := (hC.ci.sm _ (Need.cl hC hin hy2)).c.len
      unfold mResStep; omega
     have : S.length = L.length := by rw [← e]; exact hlen
     dsimp only []
     omega
 · have hp0 : p < 0 := by
    rcases hp with ⟨g, _⟩ | ⟨i, _, g⟩
    · exact g
    · exact absurd (hmem.1 (List.mem_of_getElem? g)) hin
   have hq0 : q < 0 := by
    rcases hq with ⟨g, _⟩ | ⟨g, _⟩
    · omega
    · exact absurd g hin
   rw [cT hp0, cT hq0]
   exact ⟨_, rfl, rfl, by simp [tot]⟩
def goodB (F : Cnf) : Bool := decide (F.vars ≤ 6) && cnfB F
theorem goodB_nar {F : Cnf} (h : goodB F = true) : Nar F := by
 unfold goodB at h
 rw [Bool.and_eq_true, decide_eq_true_iff] at h
 exact ⟨h.2, h.1⟩
theorem spec_l10Good_eq {F : Cnf} (hF : okCnf F) : spec_l10Good F = some (goodB F) := by
 unfold spec_l10Good goodB
 rw [spec_l2Good_eq hF, bd_some]
 cases h : decide (F.vars ≤ 6) <;> rfl
theorem impl_narrowOk_eq {F : Cnf} (hF : okCnf F) (w : Int) : impl_narrowOk F w = some (goodB F && inB w 0 6) := by
 unfold impl_narrowOk goodB
 rw [impl_IsCnf_eq hF, bd_some, impl_within_eq]
 cases cnfB F <;> cases decide (F.vars ≤ 6) <;> rfl
end Go.PF
namespace Go.PF
open Go.Pu
def Refut (F : Cnf) (w : Int) : Prop := ∃ n, Kn F w n []
theorem Nar.nil {F : Cnf} (h : Nar F) : IsS F.vars [] := by
 refine ⟨⟨?_, ?_, nofun, .nil⟩, h.le⟩
 · have := h.cnf
   unfold cnfB at this
   simp only [Bool.and_eq_true] at this
   exact (varsB_iff.1 this.1.1).1
 · have := h.le; omega
theorem spec_empty_eq {F : Cnf} {w : Int} (hF : Nar F) : ∃ W, spec_l10Closure F w = some W ∧ ∃ b, spec_l10Empty W.sorted = some b ∧ (b = true ↔ Refut F w) := by
 obtain ⟨W, eW, r, hW, hall⟩ := spec_l10Closure_eq (w := w) hF
 refine ⟨W, eW, ?_⟩
 unfold spec_l10Empty
 have hm : Refut F w ↔ [] ∈ W.sorted := by
  rw [hW.sm]
  exact ⟨fun ⟨n, g⟩ => hall n _ g, fun g => ⟨r, g⟩⟩
 rw [hm]
 have hs := hW.srt
 cases hc : W.sorted with
 | nil =>
  refine ⟨false, by rw [cF (by simp [len_eq])]; rfl, by simp⟩
 | cons c l =>
  rw [hc] at hs
  rw [cT (by simp [len_eq]), show ix (c :: l) 0 = some c from rfl, bd_some]
  refine ⟨_, rfl, ?_⟩
  rw [beq_iff_eq, len_eq]
  constructor
  · intro g
    have : c = [] := List.eq_nil_of_length_eq_zero (by omega)
    rw [this]; simp
  · intro g
    rcases List.mem_cons.1 g with g | g
    · rw [← g]; rfl
    · have := (List.pairwise_cons.1 hs).1 _ g
      rw [cmpC_neg] at this
      rcases this with q | ⟨q, _⟩
      · simp at q
      · rw [q]; rfl
theorem impl_narrow_eq {F : Cnf} {w : Int} (hF : Nar F) : ∃ b, impl_narrow F w = some b ∧ (b = true ↔ Refut F w) := by
 obtain ⟨o, eo, C, cl, rfl, hC⟩ := impl_closureOf_eq (w := w) hF
 obtain ⟨q, eq, hq⟩ := round_eq hC hF.nil
 unfold impl_narrow
 rw [eo, bd_some, bd_some, eq, bd_some]
 refine ⟨_, rfl, ?_⟩
 rw [decide_eq_true_iff]
 unfold Refut
 rw [← hC.all]
 rcases hq with ⟨rfl, g⟩ | ⟨g, n, rfl, _⟩
 · exact ⟨fun q => by omega, fun q => absurd q g⟩
 · exact ⟨fun _ => g, fun _ => by omega⟩
def Least (F : Cnf) (r : Int) : Prop := (r < 0 ∧ ∀ w : Nat, w ≤ 6 → ¬ Refut F w) ∨ ∃ w : Nat, r = (w : Int) ∧ w ≤ 6 ∧ Refut F w ∧ ∀ u < w, ¬ Refut F u
theorem Least.uniq {F : Cnf} {r s : Int} (h : Least F r) (h' : Least F s) (h0 : 0 ≤ r) : r = s := by
 rcases h with ⟨g, _⟩ | ⟨w, rfl, g1, g2, g3⟩
 · omega
 · rcases h' with ⟨_, g⟩ | ⟨u, rfl, k1, k2, k3⟩
   · exact absurd g2 (g w g1)
   · have : w = u := by
      apply Classical.byContradiction
      intro hne
      rcases Nat.lt_or_gt_of_ne hne with q | q
      · exact k3 w q g2
      · exact g3 u q k2
     rw [this]
theorem spec_least_eq {F : Cnf} (hF : Nar F) : ∃ r, spec_l10Least F = some r ∧ Least F r := by
 unfold spec_l10Least
 refine cnt_m (σ := Unit) (fun _ i => i) (n := 7) (a := 0) (s0 := ()) (I := fun i _ => ∀ u < i, ¬ Refut F ((u : Nat) : Int)) rfl (by omega) (fun u hu => by omega) ?_ ?_ ?_
 · rintro i ⟨⟩ _ hi hI
   rw [cT (by omega)]
   obtain ⟨W, eW, b, eb, hb⟩ := spec_empty_eq (w := (i : Int)) hF
   rw [eW, bd_some, eb, bd_some]
   cases b
   · left
     rw [cond_false, wr_s (by omega) (by omega)]
     refine ⟨(), rfl, fun u hu => ?_⟩
     by_cases e : u = i
     · subst e; exact fun g => by have := hb.2 g; cases this
     · exact hI u (by omega)
   · right
     rw [cond_true]
     exact ⟨_, rfl, _, rfl, .inr ⟨i, rfl, by omega, hb.1 rfl, hI⟩⟩
 · intro s hs
   rfl
 · intro s hs
   exact ⟨_, rfl, .inl ⟨by omega, fun w hw => hs w (by omega)⟩⟩
theorem impl_least_eq {F : Cnf} (hok : okCnf F) (h : goodB F = true) : ∃ q, impl_LeastWidth F = some q ∧ ((q.2 = false ∧ Least F (-1)) ∨ (q.2 = true ∧ 0 ≤ q.1 ∧ q.1 ≤ 6 ∧ Least F q.1)) := by
 have hF := goodB_nar h
 unfold impl_LeastWidth
 rw [impl_narrowOk_eq hok, bd_some, h, show (true && inB 0 0 6) = true from rfl, Bool.not_true, cond_false]
 refine cnt_m (σ := Unit) (fun _ i => i) (n := 7) (a := 0) (s0 := ()) (I := fun i _ => ∀ u < i, ¬ Refut F ((u : Nat) : Int)) rfl (by omega) (fun u hu => by omega) ?_ ?_ ?_
 · rintro i ⟨⟩ _ hi hI
   rw [cT (by omega)]
   obtain ⟨b, eb, hb⟩ := impl_narrow_eq (w := (i : Int)) hF
   rw [eb, bd_some]
   cases b
   · left
     rw [cond_false, wr_s (by omega) (by omega)]
     refine ⟨(), rfl, fun u hu => ?_⟩
     by_cases e : u = i
     · subst e; exact fun g => by have := hb.2 g; cases this
     · exact hI u (by omega)
   · right
     rw [cond_true]
     exact ⟨_, rfl, _, rfl, .inr ⟨rfl, by dsimp only []; omega, by dsimp only []; omega, .inr ⟨i, rfl, by omega, hb.1 rfl, hI⟩⟩⟩
 · intro s hs
   rfl
 · intro s hs
   exact ⟨_, rfl, .inl ⟨rfl, .inl ⟨by omega, fun w hw => hs w (by omega)⟩⟩⟩
theorem nrefute_eq {F : Cnf} (hF : okCnf F) : ∃ q, spec_NarrowRefutation F = some q ∧ impl_NarrowRefutation F = some q ∧ tot mResStep q.1 ≤ 10000 := by
 unfold spec_NarrowRefutation impl_NarrowRefutation
 rw [spec_l10Good_eq hF, bd_some]
 cases h : goodB F
 · rw [Bool.not_false, cond_true]
   unfold impl_LeastWidth
   rw [impl_narrowOk_eq hF, bd_some, h, Bool.false_and, Bool.not_false, cond_true, bd_some, Bool.not_false, cond_true]
   exact ⟨_, rfl, rfl, by simp [tot]⟩
 · rw [Bool.not_true, cond_false]
   have hN := goodB_nar h
   obtain ⟨r, er, hr⟩ := spec_least_eq hN
   obtain ⟨l, el, hl⟩ := impl_least_eq hF h
   rw [er, bd_some, el, bd_some]
   rcases hl with ⟨l1, l2⟩ | ⟨l1, l2, l3, l4⟩
   · have hr0 : r < 0 := by
      apply Classical.byContradiction
      intro g
      have := hr.uniq l2 (by omega)
      omega
     rw [cT hr0, l1, Bool.not_false, cond_true]
     exact ⟨_, rfl, rfl, by simp [tot]⟩
   · have e := l4.uniq hr l2
     rw [cF (by omega), l1, Bool.not_true, cond_false, ← e]
     obtain ⟨q, e1, e2, e3⟩ := refute_eq (w := l.1) hN hN.nil
     rw [e1, bd_some]
     refine ⟨_, rfl, ?_, e3⟩
     unfold impl_NarrowDerivation
     rw [impl_narrowOk_eq hF, bd_some, h, impl_IsClause_eq (c := []) ⟨by simp, nofun⟩, inB_iff.2 ⟨l2, l3⟩, clauseB_iff.2 hN.nil.c]
     simp only [Bool.and_true, Bool.not_true, cond_false, bd_some]
     change (bd (implW F l.1 []) fun r35 => some (r35.1, r35.2)) = _
     rw [e2]; rfl
theorem plain_FnExactNarrowRefutation (a0 : Cnf) (o0 : okCnf a0) : laws_FnExactNarrowRefutation a0 = some true := by
 unfold laws_FnExactNarrowRefutation
 obtain ⟨r0, q0, z0⟩ := sz_Cnf o0 (s := 1048576) (by omega) (by omega)
 rw [q0, bd_some]
 by_cases n0 : r0 < 0
 · simp [n0]
 simp only [n0, decide_false, cond_false]
 have t0 := to_Cnf (a := a0) (by unfold lim; omega)
 obtain ⟨g, hs, hi, hm⟩ := nrefute_eq o0
 have w0 : tot wIntS a0.clauses ≤ 1048576 := by unfold wCnf wIntSS at z0; omega
 have m0 := mark_Cnf (a := a0) (k := 1) (by omega) (by unfold big; omega)
 have mg := mark_ResStepS (a := g.1) (k := 1) (by omega) (by unfold big; omega)
 have hg := held_ResStepS (a := g.1) (k := 1) (by omega) (by unfold big; omega)
 have d1 : decide ((laws_markCnf a0 1).2 < 0) = false := by rw [decide_eq_false_iff_not]; omega
 have d2 : decide ((laws_markResStepS g.1 1).2 < 0) = false := by rw [decide_eq_false_iff_not]; omega
 simp only [t0, hs, hi, hg, d1, d2, bd_some, eq_ResStepS, eq_Cnf, BEq.rfl, Bool.not_true, cond_false]
end Go.PF
