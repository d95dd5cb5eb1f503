/- Propagation keeps the models that extend the assignment; an autarky can be set. Draws of assignments. The law of propagation. -/
import Derived.Test.YtdkkikkmnfjgiaaGreatPrPlC
import Derived.Test.YtdkkikkmnfjgiaaGreatPrPlA
set_option linter.unusedVariables false
namespace Go.PF
open Go.Pu
theorem loop_r {σ X B : Type} {m : Nat} {body : Nat → σ → Option (Lp σ X)} {k : σ → Option B} {lx : X → Option B} {R : B → Prop} (I : Nat → σ → Prop) {s0 : σ} (h0 : I 0 s0)
    (h : ∀ i s, i < m → I i s → (∃ s', body i s = some (.nx s') ∧ I (i + 1) s') ∨ ∃ x r, body i s = some (.rt x) ∧ lx x = some r ∧ R r) (hk : ∀ s, I m s → ∃ r, k s = some r ∧ R r) : ∃ r, bdR (forR 0 m body s0) k lx = some r ∧ R r := by
  have key : ∀ (n i : Nat) (s : σ), i + n = m → I i s → ∃ r, bdR (forFrom body n i s) k lx = some r ∧ R r := by
    intro n
    induction n with
    | zero => intro i s hi hI; rw [Nat.add_zero] at hi; subst hi; exact hk s hI
    | succ n ih =>
      intro i s hi hI
      unfold forFrom
      rcases h i s (by omega) hI with ⟨s', e, hI'⟩ | ⟨x, r, e, e2, hr⟩
      · rw [e]; exact ih (i + 1) s' (by omega) hI'
      · rw [e]; exact ⟨r, e2, hr⟩
  exact key m 0 s0 (by omega) h0
theorem least12 (v : Int) : spec_l1Least v 12 ≤ 12 := by
  unfold spec_l1Least
  cases hd : decide (v < 12) with
  | true => have := of_decide_eq_true hd; simp only [cond_true]; omega
  | false => simp only [cond_false]; omega
theorem dr_assignment {n : Nat} {c : l1Cur} (h : okC (n + 30) c) (v : Int) : Dr n (spec_l1Cur_assignment c v) fun a => a.length ≤ 12 ∧ okIs a := by
  have hlim : lim = 4294967296 := rfl
  have hle := least12 v
  unfold spec_l1Cur_assignment
  generalize spec_l1Least v 12 = B at *
  refine dr_loop (fun s => (13 - s.2.2.2.2).toNat) (fun s => okC (n + 2 * (13 - s.2.2.2.2).toNat) (l1Cur.mk s.2.1 s.2.2.1 s.2.2.2.1) ∧ 1 ≤ s.2.2.2.2 ∧ s.2.2.2.2 ≤ 13 ∧ s.1.length + 1 ≤ s.2.2.2.2.toNat ∧ okIs s.1) (fun s => okC n (l1Cur.mk s.2.1 s.2.2.1 s.2.2.2.1) ∧ s.1.length ≤ 12 ∧ okIs s.1)
    ⟨h.le (by dsimp only; omega), by dsimp only; omega, by dsimp only; omega, by simp, fun x hx => by cases hx⟩ ?_ (fun s hs => ⟨_, _, rfl, hs⟩)
  rintro ⟨out, cd, at_, sd, u⟩ ⟨g1, g2, g3, g4, g5⟩
  simp only at g1 g2 g3 g4 g5 ⊢
  cases hd : decide (u ≤ B) with
  | false => exact .inr ⟨_, rfl, g1.le, by dsimp only; omega, g5⟩
  | true =>
    have hu : u ≤ B := of_decide_eq_true hd
    have hw : wr (u + 1) = u + 1 := wr_of _ (by omega) (by omega)
    left
    simp only [cond_true]
    have e0 : n + 2 * (13 - u).toNat = (n + 2 * (13 - (u + 1)).toNat) + 2 := by omega
    rw [e0] at g1
    obtain ⟨b, c3, e2, k3, _⟩ := dr_pick g1 4
    rw [e2, bd_some]
    have fin : ∀ y, okI y → okIs (out ++ [y]) := fun y hy x hx => by
      rcases List.mem_append.1 hx with g | g
      · exact g5 x g
      · rw [List.mem_singleton] at g; subst g; exact hy
    dsimp only
    rw [hw]
    cases b == 0 with
    | true =>
      simp only [cond_true]
      rw [app_ok (by simp; omega), bd_some]
      exact ⟨_, rfl, ⟨k3, by dsimp only; omega, by dsimp only; omega, by dsimp only; rw [List.length_append, List.length_singleton]; omega, fin _ (by unfold okI; omega)⟩, by dsimp only; omega⟩
    | false =>
    simp only [cond_false]
    cases b == 1 with
    | true =>
      simp only [cond_true]
      rw [app_ok (by simp; omega), bd_some]
      exact ⟨_, rfl, ⟨k3, by dsimp only; omega, by dsimp only; omega, by dsimp only; rw [List.length_append, List.length_singleton]; omega, fin _ (okI_wr _)⟩, by dsimp only; omega⟩
    | false => exact ⟨_, rfl, ⟨k3, by dsimp only; omega, by dsimp only; omega, by dsimp only; omega, g5⟩, by dsimp only; omega⟩
theorem dr_anyAssignment {n : Nat} {c : l1Cur} (h : okC (n + 60) c) (v : Int) : Dr n (spec_l1Cur_anyAssignment c v) fun x => x.length ≤ 13 ∧ okIs x := by
  unfold spec_l1Cur_anyAssignment
  refine (dr_assignment (n := n + 20) h.le v).bind fun l c1 h1 hl => ?_
  refine (dr_pick (n := n + 18) h1 32).bind fun k c2 h2 _ => ?_
  have hlim : lim = 4294967296 := rfl
  show Dr n (bif (k == 0) then _ else _) _
  cases k == 0 with
  | true =>
    refine (dr_lit (n := n) (c := c2) h2.le v).bind fun x c3 h3 hx => ?_
    rw [app_ok (by simp; omega)]
    exact ⟨_, _, rfl, h3, by simp; omega, fun y hy => by
      rcases List.mem_append.1 hy with g | g
      · exact hl.2 y g
      · rw [List.mem_singleton] at g; subst g; exact hx⟩
  | false =>
  show Dr n (bif (k == 1) then _ else _) _
  cases k == 1 with
  | false => exact ⟨_, _, rfl, h2.le, by show l.length ≤ 13; omega, hl.2⟩
  | true =>
    simp only [cond_true]
    cases hd : decide (0 < len l) with
    | false => exact ⟨_, _, rfl, h2.le, by show l.length ≤ 13; omega, hl.2⟩
    | true =>
      simp only [cond_true]
      have hl0 : 0 < l.length := by have := of_decide_eq_true hd; rw [len_eq] at this; omega
      refine (dr_among (n := n) (c := c2) h2.le (by simp)).bind fun x c3 h3 hx => ?_
      obtain ⟨y, hy, _⟩ := ix0 hl0
      obtain ⟨ys, hys⟩ := put_is (l := l) (i := 0) x (by omega) (by omega)
      rw [hy, bd_some]
      show Dr n (bd (put l 0 x) _) _
      rw [hys]
      have hx' : okI x := by
        simp only [List.mem_cons, List.not_mem_nil, or_false] at hx
        rcases hx with rfl | rfl | rfl
        · unfold okI; omega
        · exact okI_wr _
        · unfold okI; omega
      have := put_mem hys hl.2 hx'
      exact ⟨_, _, rfl, h3, by show ys.length ≤ 13; omega, this.2⟩
theorem okL_of {a : List Int} (h : a.length ≤ 13 ∧ okIs a) : okL okI a := ⟨by omega, h.2⟩
theorem draw_value {cs : List Int} (h : okL okU8 cs) : ∃ f a, spec_DrawValueOfCnf cs = some (f, a) ∧ SmC 100 12 f ∧ okL okI a := by
  unfold spec_DrawValueOfCnf
  obtain ⟨f, c1, e1, h1, hf⟩ := dr_cnf (n := 1000) ((okC_begin h 0).le (by omega))
  obtain ⟨a, c2, e2, h2, ha⟩ := dr_anyAssignment (n := 100) (c := c1) h1.le f.vars
  rw [e1, bd_some]
  dsimp only
  rw [e2, bd_some]
  exact ⟨f, a, rfl, hf, okL_of ha⟩
theorem draw_prop {cs : List Int} (h : okL okU8 cs) : ∃ f a, spec_DrawPropagate cs = some (f, a) ∧ SmC 100 12 f ∧ okL okI a := by
  unfold spec_DrawPropagate
  obtain ⟨f, c1, e1, h1, hf⟩ := dr_cnf (n := 1000) ((okC_begin h 0).le (by omega))
  obtain ⟨a, c2, e2, h2, ha⟩ := dr_anyAssignment (n := 100) (c := c1) h1.le f.vars
  obtain ⟨b, c3, e3, h3, _⟩ := dr_one (n := 10) (c := c2) h2.le 2
  rw [e1, bd_some]
  dsimp only
  rw [e2, bd_some]
  dsimp only
  rw [e3, bd_some]
  dsimp only
  cases hd : (bif b then (decide (1 < (len a))) else false) with
  | false => exact ⟨f, a, rfl, hf, okL_of ha⟩
  | true =>
    have hl : 1 < a.length := by
      cases b with
      | false => cases hd
      | true => have := of_decide_eq_true hd; rw [len_eq] at this; omega
    simp only [cond_true]
    rw [show (0 : Int) = ((0 : Nat) : Int) from rfl, show (1 : Int) = ((1 : Nat) : Int) from rfl, cut_ok (by omega) (by omega), bd_some]
    refine ⟨f, _, rfl, hf, ?_⟩
    refine ⟨by simp; omega, fun x hx => ha.2 x (List.mem_of_mem_take (List.mem_of_mem_drop hx))⟩
theorem kok_of {F : Cnf} (hF : cnfB F = true) : KOk F.vars F.clauses := ⟨by have := cnfB_len hF; omega, cnfB_isC hF⟩
/-! bits of truth -/
theorem bits_of (b : Nat → Bool) : ∀ V : Nat, ∃ n, n < 2 ^ V ∧ ∀ u, 1 ≤ u → u ≤ V → bt' n u = b u := by
  intro V
  induction V with
  | zero => exact ⟨0, by simp, fun u h1 h2 => by omega⟩
  | succ V ih =>
    obtain ⟨n, hn, h⟩ := ih
    cases hb : b (V + 1) with
    | false =>
      refine ⟨n, by rw [Nat.pow_succ]; omega, fun u h1 h2 => ?_⟩
      by_cases e : u = V + 1
      · subst e
        rw [hb]
        unfold bt'
        rw [Nat.add_sub_cancel]
        exact Nat.testBit_lt_two_pow hn
      · exact h u h1 (by omega)
    | true =>
      refine ⟨n ||| 2 ^ V, Nat.or_lt_two_pow (by rw [Nat.pow_succ]; omega) (Nat.pow_lt_pow_right (by omega) (by omega)), fun u h1 h2 => ?_⟩
      unfold bt'
      rw [Nat.testBit_or, Nat.testBit_two_pow]
      by_cases e : u = V + 1
      · subst e
        rw [hb, Nat.add_sub_cancel, decide_eq_true rfl, Bool.or_true]
      · rw [decide_eq_false (by omega), Bool.or_false]
        exact h u h1 (by omega)
def satB (V : Nat) (K : List (List Int)) : Bool := (List.range (2 ^ V)).any (modB K)
theorem satB_iff {V : Int} {K : List (List Int)} (hV : 0 ≤ V) (hK : ∀ c ∈ K, IsC V c) : satB V.toNat K = true ↔ ∃ b : Nat → Bool, ∀ c ∈ K, tc b c = true := by
  unfold satB
  rw [List.any_eq_true]
  constructor
  · rintro ⟨n, _, h⟩; exact ⟨bt' n, modB_iff.1 h⟩
  · rintro ⟨b, h⟩
    obtain ⟨n, hn, hb⟩ := bits_of b V.toNat
    refine ⟨n, List.mem_range.2 hn, modB_iff.2 fun c hc => ?_⟩
    obtain ⟨l, hl, t⟩ := tc_iff.1 (h c hc)
    have := (hK c hc).lit l hl
    refine tc_iff.2 ⟨l, hl, ?_⟩
    unfold tl at t ⊢
    rw [hb _ (by omega) (by omega)]; exact t
theorem shl_vars {F : Cnf} (hF : cnfB F = true) : shlK true 64 1 F.vars = ((2 ^ F.vars.toNat : Nat) : Int) ∧ 2 ^ F.vars.toNat ≤ 4096 ∧ nn F.vars = some () ∧ chk (shlK true 64 1 F.vars) = some (2 ^ F.vars.toNat) := by
  have hv := cnfB_rng hF
  have hp : 2 ^ F.vars.toNat ≤ 2 ^ 12 := Nat.pow_le_pow_right (by omega) (by omega)
  have hs : shlK true 64 1 F.vars = ((2 ^ F.vars.toNat : Nat) : Int) := by
    have := shlK_nat (k := F.vars.toNat) (by omega)
    rwa [Int.toNat_of_nonneg hv.1] at this
  refine ⟨hs, hp, by unfold nn; rw [if_neg (by omega)], ?_⟩
  rw [hs]
  unfold chk
  rw [if_pos (by omega), Int.toNat_natCast]
theorem impl_IsSatisfiable_eq {F : Cnf} (hF : cnfB F = true) : impl_IsSatisfiable F = some (satB F.vars.toNat F.clauses, true) := by
  have hv := cnfB_rng hF; have hC := cnfB_isC hF; have hN := cnfB_len hF
  have hok : okCnf F := ⟨by unfold okI; omega, ⟨by omega, fun c h => (hC c h).ok⟩⟩
  obtain ⟨hs, hp, hnn, hck⟩ := shl_vars hF
  have key : ∃ r, impl_satisfiable F.vars F.clauses = some r ∧ r = satB F.vars.toNat F.clauses := by
    unfold impl_satisfiable
    rw [hnn, bd_some, hck, bd_some]
    have := loop_r (B := Bool) (m := 2 ^ F.vars.toNat) (s0 := false) (k := fun s => some s) (lx := fun x => some x) (R := fun r => r = satB F.vars.toNat F.clauses) (body := fun i156 s156 => bd (PF.impl_isModel F.clauses ((i156 : Nat) : Int)) (fun r256 => bd (bif r256 then bd (β := _) (some (true, false) : Option (Bool × Bool)) (fun s278 => some (s278.1, (!s278.2))) else some (s156, false)) (fun t273 => (bif t273.2 then some (Lp.rt t273.1) else some (Lp.nx t273.1)))))
      (fun i s => s = false ∧ ∀ j, j < i → modB F.clauses j = false) ⟨rfl, fun j hj => by omega⟩ (fun i s hi hs => by
        obtain ⟨rfl, hs⟩ := hs
        rw [impl_isModel_eq hC (by omega), bd_some]
        cases hm : modB F.clauses i with
        | true => exact .inr ⟨true, true, rfl, rfl, (List.any_eq_true.2 ⟨i, List.mem_range.2 hi, hm⟩).symm⟩
        | false => exact .inl ⟨false, rfl, rfl, fun j hj => by
            rcases Nat.lt_succ_iff_lt_or_eq.1 hj with h | rfl
            · exact hs j h
            · exact hm⟩) (fun s hs => ⟨s, rfl, by
        rw [hs.1]
        symm
        unfold satB
        rw [Bool.eq_false_iff]
        intro h
        obtain ⟨j, hj, hm⟩ := List.any_eq_true.1 h
        rw [hs.2 j (List.mem_range.1 hj)] at hm; cases hm⟩)
    obtain ⟨r, e, hr⟩ := this
    exact ⟨r, by rw [e, bd_some], hr⟩
  obtain ⟨r, e, rfl⟩ := key
  unfold impl_IsSatisfiable
  rw [impl_IsCnf_eq hok, bd_some, hF]
  simp only [Bool.not_true, cond_false]
  rw [e, bd_some]
theorem impl_AllModels_eq {F : Cnf} (hF : cnfB F = true) : ∃ L ok, impl_AllModels F = some (L, ok) ∧ L.length ≤ 1000 ∧ ∀ x ∈ L, ∃ n : Nat, x = (n : Int) ∧ n < 2 ^ F.vars.toNat ∧ modB F.clauses n = true := by
  have hv := cnfB_rng hF; have hC := cnfB_isC hF; have hN := cnfB_len hF
  have hlim : lim = 4294967296 := rfl
  have hok : okCnf F := ⟨by unfold okI; omega, ⟨by omega, fun c h => (hC c h).ok⟩⟩
  obtain ⟨hs, hp, hnn, hck⟩ := shl_vars hF
  unfold impl_AllModels
  rw [impl_IsCnf_eq hok, bd_some, hF, hnn, bd_some, hck, bd_some]
  simp only [Bool.not_true, cond_false]
  have fin : ∀ (x : Int) (l : List Int) (i : Nat), i < 2 ^ F.vars.toNat → modB F.clauses i = true → (∀ x ∈ l, ∃ n : Nat, x = (n : Int) ∧ n < 2 ^ F.vars.toNat ∧ modB F.clauses n = true) → ∀ x ∈ l ++ [(i : Int)], ∃ n : Nat, x = (n : Int) ∧ n < 2 ^ F.vars.toNat ∧ modB F.clauses n = true := by
    intro _ l i hi hm h x hx
    rcases List.mem_append.1 hx with g | g
    · exact h x g
    · rw [List.mem_singleton] at g; exact ⟨i, g, hi, hm⟩
  have := loop_r (B := List Int) (m := 2 ^ F.vars.toNat) (s0 := ([] : List Int)) (k := fun s => some s) (lx := fun x => some x) (R := fun r => r.length ≤ 301 ∧ ∀ x ∈ r, ∃ n : Nat, x = (n : Int) ∧ n < 2 ^ F.vars.toNat ∧ modB F.clauses n = true)
    (body := fun i265 s265 => bd (PF.impl_isModel F.clauses ((i265 : Nat) : Int)) (fun r457 => bd (bif r457 then bd (β := _) (bd (app s265 [((i265 : Nat) : Int)]) (fun xs545 => some (xs545, (decide ((len xs545) ≤ 300)))) : Option ((List Int) × Bool)) (fun s535 => some (s535.1, (!s535.2))) else some (s265, false)) (fun t510 => (bif t510.2 then some (Lp.rt t510.1) else some (Lp.nx t510.1)))))
    (fun i s => s.length ≤ 300 ∧ ∀ x ∈ s, ∃ n : Nat, x = (n : Int) ∧ n < 2 ^ F.vars.toNat ∧ modB F.clauses n = true) ⟨by simp, fun x hx => by cases hx⟩ (fun i s hi hs => by
      rw [impl_isModel_eq hC (by omega), bd_some]
      cases hm : modB F.clauses i with
      | false => exact .inl ⟨s, rfl, hs⟩
      | true =>
        have hsl := hs.1
        simp only [cond_true]
        rw [app_ok (by simp; omega), bd_some, bd_some, bd_some]
        dsimp only
        cases hd : decide (len (s ++ [(i : Int)]) ≤ 300) with
        | true => exact .inl ⟨_, rfl, by have := of_decide_eq_true hd; rw [len_eq] at this; omega, fin 0 s i hi hm hs.2⟩
        | false => exact .inr ⟨_, _, rfl, rfl, by rw [List.length_append, List.length_singleton]; omega, fin 0 s i hi hm hs.2⟩) (fun s hs => ⟨s, rfl, by have := hs.1; omega, hs.2⟩)
  obtain ⟨r, e, hr⟩ := this
  rw [e, bd_some]
  cases decide (300 < len r) with
  | true => exact ⟨[], false, rfl, by simp, fun x hx => by cases hx⟩
  | false => exact ⟨r, true, rfl, by have := hr.1; omega, hr.2⟩
/-! total assignments -/
def totL (V n : Nat) : List Int := (List.range V).map fun k => if n.testBit k then ((k : Int) + 1) else -((k : Int) + 1)
theorem mem_totL {V n : Nat} {l : Int} : l ∈ totL V n ↔ 1 ≤ l.natAbs ∧ l.natAbs ≤ V ∧ tl (bt' n) l = true := by
  unfold totL
  rw [List.mem_map]
  constructor
  · rintro ⟨k, hk, rfl⟩
    have hk' := List.mem_range.1 hk
    cases hb : n.testBit k with
    | true =>
      simp only [if_true]
      refine ⟨by omega, by omega, ?_⟩
      unfold tl bt'
      rw [show ((k : Int) + 1).natAbs - 1 = k by omega, hb, decide_eq_true (by omega)]; rfl
    | false =>
      simp only [Bool.false_eq_true, if_false]
      refine ⟨by omega, by omega, ?_⟩
      unfold tl bt'
      rw [show (-((k : Int) + 1)).natAbs - 1 = k by omega, hb, decide_eq_false (by omega)]; rfl
  · rintro ⟨h1, h2, h3⟩
    refine ⟨l.natAbs - 1, List.mem_range.2 (by omega), ?_⟩
    unfold tl bt' at h3
    cases hb : n.testBit (l.natAbs - 1) with
    | true => rw [hb] at h3; simp only [if_true]; have : 0 < l := by simpa using h3
              omega
    | false => rw [hb] at h3; simp only [Bool.false_eq_true, if_false]; have : ¬ 0 < l := by simpa using h3
               omega
theorem totL_isC {V : Int} (h0 : 0 ≤ V) (h1 : V ≤ 12) (n : Nat) : IsC V (totL V.toNat n) := by
  refine ⟨h0, h1, fun l hl => ?_, ?_⟩
  · have := mem_totL.1 hl; omega
  · unfold totL
    rw [List.pairwise_map]
    refine List.Pairwise.imp ?_ List.pairwise_lt_range
    intro a b hab
    split <;> split <;> omega
theorem totL_succ (V n : Nat) : totL (V + 1) n = totL V n ++ [if n.testBit V then ((V : Int) + 1) else -((V : Int) + 1)] := by
  unfold totL; rw [List.range_succ, List.map_append]; rfl
theorem impl_total_eq {V : Int} (h0 : 0 ≤ V) (h1 : V ≤ 12) {n : Nat} (hn : n < 9223372036854775808) : impl_total V (n : Int) = some (totL V.toNat n) := by
  have hlim : lim = 4294967296 := rfl
  unfold impl_total
  suffices hs : ∃ r, _ = some r ∧ r = totL V.toNat n by
    obtain ⟨r, e, rfl⟩ := hs; exact e
  refine loop_ex (fun s => (V + 1 - s.2).toNat) (fun s => 1 ≤ s.2 ∧ s.2 ≤ V + 1 ∧ s.1 = totL (s.2 - 1).toNat n) (fun s => s.1 = totL V.toNat n) ⟨by dsimp only; omega, by dsimp only; omega, rfl⟩ ?_ (fun s hs => ⟨_, rfl, hs⟩)
  rintro ⟨out, u⟩ ⟨g1, g2, g3⟩
  dsimp only at g1 g2 g3 ⊢
  cases hd : decide (u ≤ V) with
  | false =>
    have hu : u = V + 1 := by have := of_decide_eq_false hd; omega
    exact .inr ⟨_, rfl, by dsimp only; rw [g3, hu]; congr 1; omega⟩
  | true =>
    have hu : u ≤ V := of_decide_eq_true hd
    have hw : wr (u + 1) = u + 1 := wr_of _ (by omega) (by omega)
    have hw2 : wr (u - 1) = (((u - 1).toNat : Nat) : Int) := by rw [wr_of _ (by omega) (by omega)]; omega
    have hw3 : wr (-u) = -u := wr_of _ (by omega) (by omega)
    have hll : out.length ≤ 13 := by rw [g3]; unfold totL; rw [List.length_map, List.length_range]; omega
    have hnn : nn (((u - 1).toNat : Nat) : Int) = some () := by unfold nn; rw [if_neg (by omega)]
    left
    rw [hw, hw2, hw3, hnn]
    simp only [cond_true, bd_some]
    rw [bit_nat hn (by omega)]
    have e1 : totL u.toNat n = totL (u - 1).toNat n ++ [if n.testBit (u - 1).toNat then u else -u] := by
      have := totL_succ (u - 1).toNat n
      rw [show (u - 1).toNat + 1 = u.toNat by omega] at this
      rw [this, show (((u - 1).toNat : Nat) : Int) + 1 = u by omega]
    cases hb : n.testBit (u - 1).toNat with
    | true =>
      simp only [cond_true]
      rw [app_ok (by simp; omega), bd_some]
      refine ⟨_, rfl, ⟨by dsimp only; omega, by dsimp only; omega, ?_⟩, by dsimp only; omega⟩
      dsimp only
      rw [Int.add_sub_cancel, e1, g3, hb]; rfl
    | false =>
      simp only [cond_false]
      rw [app_ok (by simp; omega), bd_some]
      refine ⟨_, rfl, ⟨by dsimp only; omega, by dsimp only; omega, ?_⟩, by dsimp only; omega⟩
      dsimp only
      rw [Int.add_sub_cancel, e1, g3, hb]; rfl
theorem impl_TotalOf_eq {F : Cnf} (hF : cnfB F = true) {n : Nat} (hn : n < 2 ^ F.vars.toNat) : impl_TotalOf F.vars (n : Int) = some (totL F.vars.toNat n, true) := by
  have hv := cnfB_rng hF
  obtain ⟨hs, hp, hnn, hck⟩ := shl_vars hF
  have hpos : 0 < 2 ^ F.vars.toNat := Nat.two_pow_pos _
  have hw : wr (((2 ^ F.vars.toNat : Nat) : Int) - 1) = ((2 ^ F.vars.toNat : Nat) : Int) - 1 := wr_of _ (by omega) (by omega)
  unfold impl_TotalOf
  rw [impl_varsOk_eq, varsB_iff.2 hv, hnn, hs, hw]
  simp only [Bool.not_true, cond_false, bd_some]
  rw [impl_within_eq, inB_iff.2 ⟨by omega, by omega⟩]
  simp only [Bool.not_true, cond_false]
  rw [impl_total_eq hv.1 hv.2 (by omega), bd_some]
theorem impl_IsAssignment_eq {v : Int} {c : List Int} (hc : okL okI c) : impl_IsAssignment v c = some (clauseB v c) := by
  unfold impl_IsAssignment; rw [impl_IsClause_eq hc, bd_some]
theorem impl_DoesExtend_eq {V : Int} {a t : List Int} (ha : IsC V a) (ht : IsC V t) : impl_DoesExtend V a t = some (partB a t, true) := by
  unfold impl_DoesExtend
  rw [impl_IsAssignment_eq ha.ok, bd_some, clauseB_iff.2 ha]
  simp only [Bool.not_true, cond_false]
  rw [impl_IsAssignment_eq ht.ok, bd_some, clauseB_iff.2 ht]
  simp only [Bool.not_true, cond_false, bd_some]
  rw [impl_part_eq, bd_some]
theorem part_tot {V : Int} {a : List Int} (ha : IsC V a) (n : Nat) : partB a (totL V.toNat n) = true ↔ ∀ l ∈ a, tl (bt' n) l = true := by
  unfold partB
  rw [List.all_eq_true]
  constructor
  · intro h l hl; exact (mem_totL.1 (List.contains_iff_mem.1 (h l hl))).2.2
  · intro h l hl
    have := ha.lit l hl; have := ha.lo
    exact List.contains_iff_mem.2 (mem_totL.2 ⟨by omega, by omega, h l hl⟩)
/-! propagation -/
theorem wr_neg {V : Int} {c : List Int} (hc : IsC V c) {l : Int} (hl : l ∈ c) : wr (-l) = -l := by
  have := hc.lit l hl; have := hc.hi; exact wr_of _ (by omega) (by omega)
theorem uni_one {c a : List Int} (h : uni c a ≠ 0) : opn c a = [uni c a] := by
  unfold uni at h ⊢
  cases h1 : clv c a == 0 with
  | false => rw [h1] at h; exact absurd rfl h
  | true =>
    rw [h1] at h
    simp only [cond_true] at h ⊢
    cases h2 : (opn c a).length == 1 with
    | false => rw [h2] at h; exact absurd rfl h
    | true =>
      simp only [cond_true]
      have := eq_of_beq h2
      match ho : opn c a, this with
      | [x], _ => rfl
theorem prop_keeps {V : Int} {K : List (List Int)} (hK : KOk V K) {b : Nat → Bool} (hb : ∀ c ∈ K, tc b c = true) : ∀ {n : Nat} {a : List Int} {t : List (Int × Int)}, IsC V a → 12 < n + a.length → (∀ l ∈ a, tl b l = true) →
    (propF n K a t).2.2 = false ∧ ∀ l ∈ (propF n K a t).2.1, tl b l = true := by
  intro n
  induction n with
  | zero => intro a t ha hn; have := ha.len; omega
  | succ n ih =>
    intro a t ha hn hab
    -- a literal whose negation is set is false
    have neg : ∀ c ∈ K, ∀ l ∈ c, a.contains (wr (-l)) = true → tl b l = false := fun c hc l hl h => by
      rw [wr_neg (hK.isC c hc) hl] at h
      have h1 := hab _ (List.contains_iff_mem.1 h)
      rw [tl_neg (by have := (hK.isC c hc).lit l hl; omega)] at h1
      cases ht : tl b l
      · rfl
      · rw [ht] at h1; cases h1
    unfold propF
    cases hf : falB K a with
    | true =>
      exfalso
      unfold falB at hf
      obtain ⟨c, hc, h⟩ := List.any_eq_true.1 hf
      have h' := of_decide_eq_true h
      unfold clv at h'
      cases h1 : c.any (fun l => a.contains l) with
      | true => rw [h1] at h'; simp at h'
      | false =>
        rw [h1] at h'
        cases h2 : c.any (fun l => !a.contains (wr (-l))) with
        | true => rw [h2] at h'; simp at h'
        | false =>
          obtain ⟨l, hl, t⟩ := tc_iff.1 (hb c hc)
          have := List.any_eq_false.1 h2 l hl
          rw [neg c hc l hl (by simpa using this)] at t; cases t
    | false =>
      simp only [cond_false]
      cases hu : fuF K a with
      | none => exact ⟨rfl, hab⟩
      | some z =>
        simp only
        obtain ⟨h1, h2⟩ := fuF_some hu
        have hzK := List.mem_of_getElem? h1
        obtain ⟨g1, g2, g3⟩ := setA_new (hK.isC _ hzK) ha h2
        refine ih g1 (by omega) fun l hl => ?_
        unfold setA at hl
        rcases putL_mem.1 hl with rfl | hl
        · obtain ⟨l', hl', t⟩ := tc_iff.1 (hb _ hzK)
          have hno : a.contains (wr (-l')) = false := by
            cases hx : a.contains (wr (-l')) with
            | false => rfl
            | true => rw [neg _ hzK l' hl' hx] at t; cases t
          have : l' ∈ opn z.2 a := by unfold opn; exact List.mem_filter.2 ⟨hl', by rw [hno]; rfl⟩
          rw [uni_one h2, List.mem_singleton] at this
          rw [← this]; exact t
        · exact hab l (without_sub hl)
theorem clv_one {c a : List Int} (h : ¬ clv c a < 1) : ∃ l ∈ c, a.contains l = true := by
  unfold clv at h
  cases h1 : c.any (fun l => a.contains l) with
  | true => exact List.any_eq_true.1 h1
  | false =>
    rw [h1] at h
    cases h2 : c.any (fun l => !a.contains (wr (-l))) <;> rw [h2] at h <;> simp at h
def meetB (c a : List Int) : Bool := c.any fun y => a.contains y || a.contains (wr (-y))
def autB (K : List (List Int)) (a : List Int) : Bool := K.all fun c => !(meetB c a && decide (clv c a < 1))
end Go.PF
namespace Go.PF
open Go.Pu
def askP (F : Cnf) (a : List Int) : Bool := cnfB F && clauseB F.vars a
theorem impl_ask {F : Cnf} {a : List Int} (hF : okCnf F) (ha : okL okI a) {B : Type} {k : Bool → Option B} :
    (bd (PF.impl_IsCnf F) (fun r29 => bd (bif (!r29) then some true else bd (PF.impl_IsAssignment F.vars a) (fun r46 => some (!r46))) k)) = k (!askP F a) := by
  rw [impl_IsCnf_eq hF, bd_some, impl_IsAssignment_eq ha]
  unfold askP
  cases cnfB F <;> rfl
theorem spec_ask {F : Cnf} {a : List Int} (hF : okCnf F) (ha : okL okI a) : spec_l3Asked F a = some (askP F a) := by
  unfold spec_l3Asked
  rw [spec_l2Good_eq hF, bd_some]
  unfold spec_l3Good
  rw [spec_l2Clause_eq ha]
  unfold askP
  cases cnfB F <;> rfl
theorem ask_iff {F : Cnf} {a : List Int} : askP F a = true ↔ cnfB F = true ∧ IsC F.vars a := by unfold askP; rw [Bool.and_eq_true, clauseB_iff]
def propV (F : Cnf) (a : List Int) : List Int × Bool × Bool := bif askP F a then ((unitP F.clauses a).2.1, (unitP F.clauses a).2.2, true) else ([], false, false)
def stepV (F : Cnf) (a : List Int) : List (Int × Int) × Bool := bif askP F a then ((unitP F.clauses a).1, true) else ([], false)
theorem impl_Propagate_eq {F : Cnf} {a : List Int} (hF : okCnf F) (ha : okL okI a) : impl_Propagate F a = some (propV F a) := by
  unfold impl_Propagate propV
  rw [impl_ask hF ha]
  cases h : askP F a with
  | false => rfl
  | true =>
    obtain ⟨h1, h2⟩ := ask_iff.1 h
    simp only [Bool.not_true, cond_false, cond_true]
    rw [impl_propagate_eq (kok_of h1) h2, bd_some]
theorem spec_Propagate_eq {F : Cnf} {a : List Int} (hF : okCnf F) (ha : okL okI a) : spec_Propagate F a = some (propV F a) := by
  unfold spec_Propagate propV
  rw [spec_ask hF ha, bd_some]
  cases h : askP F a with
  | false => rfl
  | true =>
    obtain ⟨h1, h2⟩ := ask_iff.1 h
    simp only [Bool.not_true, cond_false, cond_true]
    rw [spec_l3Steps_eq (kok_of h1) h2, bd_some]
theorem impl_PropagationSteps_eq {F : Cnf} {a : List Int} (hF : okCnf F) (ha : okL okI a) : impl_PropagationSteps F a = some (stepV F a) := by
  unfold impl_PropagationSteps stepV
  rw [impl_ask hF ha]
  cases h : askP F a with
  | false => rfl
  | true =>
    obtain ⟨h1, h2⟩ := ask_iff.1 h
    simp only [Bool.not_true, cond_false, cond_true]
    rw [impl_propagate_eq (kok_of h1) h2, bd_some]
theorem spec_PropagationSteps_eq {F : Cnf} {a : List Int} (hF : okCnf F) (ha : okL okI a) : spec_PropagationSteps F a = some (stepV F a) := by
  unfold spec_PropagationSteps stepV
  rw [spec_ask hF ha, bd_some]
  cases h : askP F a with
  | false => rfl
  | true =>
    obtain ⟨h1, h2⟩ := ask_iff.1 h
    simp only [Bool.not_true, cond_false, cond_true]
    rw [spec_l3Steps_eq (kok_of h1) h2, bd_some]
theorem stepV_len {F : Cnf} {a : List Int} : (stepV F a).1.length ≤ 13 := by
  unfold stepV
  cases h : askP F a with
  | false => simp
  | true =>
    obtain ⟨h1, h2⟩ := ask_iff.1 h
    exact (unitP_ok (kok_of h1) h2).2
/-! autarkies -/
theorem impl_touches_eq (c a : List Int) : impl_touches c a = some (meetB c a) := by
  unfold impl_touches
  rw [slices_ContainsFunc_int_int_eq (g := fun y => a.contains y || a.contains (wr (-y))) fun y _ => ?_]
  · rfl
  · unfold impl_touches_1
    rw [slices_Contains_int_int_eq, bd_some, slices_Contains_int_int_eq]
    cases a.contains y <;> rfl
theorem spec_l2Meet_eq (c a : List Int) : spec_l2Meet c a = some (meetB c a) := by
  unfold spec_l2Meet meetB
  rw [forL_any (p := fun _ y => a.contains y || a.contains (wr (-y))) (v := true) fun i y _ => ?_]
  · rw [anyI_any]
    cases c.any fun y => a.contains y || a.contains (wr (-y)) <;> rfl
  · rw [spec_l2Has_eq, bd_some, spec_l2Has_eq]
    cases a.contains y <;> cases a.contains (wr (-y)) <;> rfl
def autV (F : Cnf) (a : List Int) : Bool × Bool := bif askP F a then (autB F.clauses a, true) else (false, false)
theorem impl_IsAutarky_eq {F : Cnf} {a : List Int} (hF : okCnf F) (ha : okL okI a) : impl_IsAutarky F a = some (autV F a) := by
  unfold impl_IsAutarky autV
  rw [impl_ask hF ha]
  cases h : askP F a with
  | false => rfl
  | true =>
    simp only [Bool.not_true, cond_false, cond_true]
    rw [contains_LL (g := fun c => meetB c a && decide (clv c a < 1)) fun c _ => ?_]
    · rw [bd_some]
      unfold autB
      congr 2
      generalize F.clauses = K
      induction K with
      | nil => rfl
      | cons c K ih => simp only [List.any_cons, List.all_cons, Bool.not_or, ih]
    · unfold impl_IsAutarky_1
      rw [impl_touches_eq, bd_some, impl_clauseValue_eq]
      cases meetB c a <;> rfl
theorem spec_IsAutarky_eq {F : Cnf} {a : List Int} (hF : okCnf F) (ha : okL okI a) : spec_IsAutarky F a = some (autV F a) := by
  unfold spec_IsAutarky autV
  rw [spec_ask hF ha, bd_some]
  cases h : askP F a with
  | false => rfl
  | true =>
    obtain ⟨h1, h2⟩ := ask_iff.1 h
    have hN := cnfB_len h1
    simp only [Bool.not_true, cond_false, cond_true]
    rw [iter_any (xs := F.clauses) (p := fun _ c => meetB c a && decide (clv c a < 1)) (v := (false, true)) (fun i c hc => ?_) ?_]
    · rw [anyI_any]
      unfold autB
      generalize F.clauses = K
      have e : (K.all fun c => !(meetB c a && decide (clv c a < 1))) = !(K.any fun c => meetB c a && decide (clv c a < 1)) := by
        induction K with
        | nil => rfl
        | cons c K ih => simp only [List.any_cons, List.all_cons, Bool.not_or, ih]
      rw [e]
      cases K.any fun c => meetB c a && decide (clv c a < 1) <;> rfl
    · rw [len_eq, decide_eq_false (by omega)]; rfl
    · have hi := (List.getElem?_eq_some_iff.1 hc).1
      have hw : wr ((i : Int) + 1) = (i : Int) + 1 := wr_of _ (by omega) (by omega)
      rw [len_eq, decide_eq_true (by omega), cond_true, ix_get, hc, bd_some, spec_l2Meet_eq, bd_some, hw]
      cases meetB c a with
      | false => rfl
      | true =>
        simp only [cond_true, bd_some, Bool.true_and]
        rw [spec_l3Value_eq, bd_some, bd_some]
theorem impl_RestrictCnf_eq {F : Cnf} {a : List Int} (h : askP F a = true) : impl_RestrictCnf F a = some (Cnf.mk F.vars (under F.clauses a), true) := by
  obtain ⟨h1, h2⟩ := ask_iff.1 h
  have hN := cnfB_len h1; have hC := cnfB_isC h1; have hv := cnfB_rng h1
  have hok : okCnf F := ⟨by unfold okI; omega, ⟨by omega, fun c h => (hC c h).ok⟩⟩
  unfold impl_RestrictCnf
  rw [impl_ask hok h2.ok, h]
  simp only [Bool.not_true, cond_false]
  rw [impl_restrict_eq (by unfold lim; omega) (fun c hc => by have := (hC c hc).len; unfold lim; omega), bd_some]
theorem under_ok {F : Cnf} {a : List Int} (h1 : cnfB F = true) : cnfB (Cnf.mk F.vars (under F.clauses a)) = true := by
  have hN := cnfB_len h1; have hC := cnfB_isC h1; have hv := cnfB_rng h1
  unfold cnfB
  simp only [Bool.and_eq_true]
  refine ⟨⟨varsB_iff.2 hv, ?_⟩, List.all_eq_true.2 fun x hx => ?_⟩
  · rw [len_eq]
    refine decide_eq_true ?_
    unfold under
    rw [List.length_map]
    have := List.length_filter_le (fun c => decide (clv c a < 1)) F.clauses
    omega
  · unfold under at hx
    obtain ⟨c, hc, rfl⟩ := List.mem_map.1 hx
    exact clauseB_iff.2 (opn_isC (hC c (List.mem_filter.1 hc).1))
theorem aut_law {F : Cnf} {a : List Int} (h : askP F a = true) (ha : autB F.clauses a = true) : satB F.vars.toNat F.clauses = satB F.vars.toNat (under F.clauses a) := by
  obtain ⟨h1, h2⟩ := ask_iff.1 h
  have hC := cnfB_isC h1; have hv := cnfB_rng h1
  have hU := cnfB_isC (under_ok (a := a) h1)
  -- a clause that the assignment does not make true is not touched by it
  have free : ∀ c ∈ F.clauses, clv c a < 1 → meetB c a = false := fun c hc hlt => by
    have := List.all_eq_true.1 ha c hc
    rw [decide_eq_true hlt, Bool.and_true, Bool.not_eq_true'] at this
    exact this
  have same : ∀ c ∈ F.clauses, clv c a < 1 → opn c a = c := fun c hc hlt => by
    have hm := free c hc hlt
    unfold opn
    rw [List.filter_eq_self]
    intro l hl
    have := List.any_eq_false.1 hm l hl
    simp only [Bool.or_eq_true, not_or, Bool.not_eq_true] at this
    rw [this.2]; rfl
  rw [Bool.eq_iff_iff, satB_iff hv.1 hC, satB_iff hv.1 hU]
  constructor
  · rintro ⟨b, hb⟩
    refine ⟨b, fun c hc => ?_⟩
    have hc' : c ∈ under F.clauses a := hc
    unfold under at hc'
    obtain ⟨d, hd, rfl⟩ := List.mem_map.1 hc'
    obtain ⟨m1, m2⟩ := List.mem_filter.1 hd
    rw [same d m1 (of_decide_eq_true m2)]
    exact hb d m1
  · rintro ⟨b, hb⟩
    refine ⟨fun u => if a.contains (u : Int) then true else if a.contains (-(u : Int)) then false else b u, fun c hc => ?_⟩
    by_cases hlt : clv c a < 1
    · have hm := free c hc hlt
      have hu : c ∈ under F.clauses a := by
        unfold under
        exact List.mem_map.2 ⟨c, List.mem_filter.2 ⟨hc, decide_eq_true hlt⟩, same c hc hlt⟩
      obtain ⟨l, hl, t⟩ := tc_iff.1 (hb c hu)
      refine tc_iff.2 ⟨l, hl, ?_⟩
      have hno := List.any_eq_false.1 hm l hl
      rw [wr_neg (hC c hc) hl] at hno
      simp only [Bool.or_eq_true, not_or, Bool.not_eq_true] at hno
      unfold tl at t ⊢
      dsimp only
      rcases Int.natAbs_eq l with e | e
      · rw [show ((l.natAbs : Nat) : Int) = l from e.symm, hno.1, hno.2]; exact t
      · rw [show ((l.natAbs : Nat) : Int) = -l by omega, hno.2, Int.neg_neg, hno.1]; exact t
    · obtain ⟨l, hl, hal⟩ := clv_one hlt
      refine tc_iff.2 ⟨l, hl, ?_⟩
      have hr := (hC c hc).lit l hl
      have hal' := List.contains_iff_mem.1 hal
      unfold tl
      dsimp only
      by_cases hp : 0 < l
      · rw [show ((l.natAbs : Nat) : Int) = l by omega, hal, decide_eq_true hp]; rfl
      · have hn : a.contains (-l) = false := by
          rw [Bool.eq_false_iff]; intro g
          have := srt_one h2 hal' (List.contains_iff_mem.1 g) (by omega)
          omega
        rw [show ((l.natAbs : Nat) : Int) = -l by omega, hn, Int.neg_neg, hal, decide_eq_false hp]; rfl
theorem laws_vInts_self (a : List Int) : laws_vInts a a = some true := by
  unfold laws_vInts
  rw [beq_self_eq_true]
  simp only [Bool.not_true, cond_false]
  have := loop_l (B := Bool) (xs := a) (s0 := ()) (R := fun r => r = true) (lx := fun x : Bool => some x) (k := fun _ : Unit => some true) (body := fun i23 y22 s23 => bd (ix a ((i23 : Nat) : Int)) (fun x72 => (bif (!(y22 == x72)) then some (Lp.rt false) else some (Lp.nx ())))) (fun _ _ => True) trivial
    (fun i x s hx _ => ⟨(), by rw [ix_get, hx, bd_some, beq_self_eq_true]; rfl, trivial⟩) (fun s _ => ⟨true, rfl, rfl⟩)
  obtain ⟨r, e, rfl⟩ := this
  exact e
/-- a loop over places that is left by its end alone -/
theorem loop_go {X : Type} {n : Nat} (hn : n ≤ 1000000) {body : Int → Option (Lp Int X)} (h : ∀ i : Nat, i < n → body (i : Int) = some (.nx (wr ((i : Int) + 1)))) (he : body (n : Int) = some (.bk (n : Int))) : iter body 0 = some (.go (n : Int)) := by
  have key : ∀ m i : Nat, i + m = n → iter body (i : Int) = some (.go (n : Int)) := by
    intro m
    induction m with
    | zero => intro i hi; rw [Nat.add_zero] at hi; subst hi; exact iter_bk he
    | succ m ih =>
      intro i hi
      have hw : wr ((i : Int) + 1) = ((i + 1 : Nat) : Int) := by rw [wr_of _ (by omega) (by omega)]; omega
      rw [iter_nx (h i (by omega)), hw]
      exact ih (i + 1) (by omega)
  exact key n 0 (by omega)
theorem plain_FnPropagation (a0 : List Int) (o0 : okL okU8 a0) : laws_FnPropagation a0 = some true := by
  unfold laws_FnPropagation
  cases laws_vBig a0 with
  | true => rfl
  | false =>
  simp only [cond_false]
  obtain ⟨F, a, e, hS, hA⟩ := draw_prop o0
  obtain ⟨G, c, e2, hS2, hA2⟩ := draw_value o0
  have hF : okCnf F := hS.ok
  have hG : okCnf G := hS2.ok
  rw [e, bd_some]
  dsimp only
  rw [impl_Propagate_eq hF hA, bd_some, spec_Propagate_eq hF hA, bd_some, laws_vInts_self, bd_some]
  simp only [beq_self_eq_true, Bool.not_true, cond_false, bd_some]
  -- the models
  have models : (propV F a).2.2 = true → ∃ L ok, impl_AllModels F = some (L, ok) ∧ L.length ≤ 1000 ∧ ∀ x ∈ L, ∃ t, impl_TotalOf F.vars x = some (t, true) ∧ impl_DoesExtend F.vars a t = some (partB a t, true) ∧ impl_DoesExtend F.vars (propV F a).1 t = some (partB (propV F a).1 t, true) ∧
      (bif partB a t then (bif (propV F a).2.1 then true else (!partB (propV F a).1 t)) else false) = false := by
    intro hp
    have hask : askP F a = true := by
      unfold propV at hp
      cases h : askP F a with
      | true => rfl
      | false => rw [h] at hp; cases hp
    obtain ⟨h1, h2⟩ := ask_iff.1 hask
    obtain ⟨L, ok, eL, hL, hm⟩ := impl_AllModels_eq h1
    refine ⟨L, ok, eL, hL, fun x hx => ?_⟩
    obtain ⟨n, rfl, hn, hmod⟩ := hm x hx
    have hv := cnfB_rng h1
    have ht := totL_isC hv.1 hv.2 n
    have pv : propV F a = ((unitP F.clauses a).2.1, (unitP F.clauses a).2.2, true) := by unfold propV; rw [hask]; rfl
    have hr := (unitP_ok (kok_of h1) h2).1.a
    rw [pv]
    refine ⟨_, impl_TotalOf_eq h1 hn, impl_DoesExtend_eq h2 ht, impl_DoesExtend_eq hr ht, ?_⟩
    dsimp only
    cases hpa : partB a (totL F.vars.toNat n) with
    | false => rfl
    | true =>
      obtain ⟨k1, k2⟩ := prop_keeps (kok_of h1) (b := bt' n) (modB_iff.1 hmod) (n := 13) (t := []) h2 (by omega) ((part_tot h2 n).1 hpa)
      have k1' : (unitP F.clauses a).2.2 = false := k1
      rw [k1', (part_tot hr n).2 k2]; rfl
  have mid : (bif (propV F a).2.2 then bd (PF.impl_AllModels F) (fun r42403 => bdR (iter (S := Int) (X := (Rs Unit Bool)) (fun s42413 => (bif (bif (decide (s42413 < (len r42403.1))) then r42403.2 else false) then bd (ix r42403.1 s42413) (fun x99684 => bd (PF.impl_TotalOf F.vars x99684) (fun r105678 => bd (PF.impl_DoesExtend F.vars a r105678.1) (fun r126708 => bd (PF.impl_DoesExtend F.vars (propV F a).1 r105678.1) (fun r126718 => (bif (bif (bif (bif (!r105678.2) then true else (!r126708.2)) then true else (!r126718.2)) then true else (bif r126708.1 then (bif (propV F a).2.1 then true else (!r126718.1)) else false)) then some (Lp.rt (Rs.rt false)) else some (Lp.nx (wr (s42413 + 1)))))))) else some (Lp.bk s42413))) 0) (fun s42413 => some (Rs.go ())) (fun x42413 => some x42413)) else some (Rs.go ())) = some (Rs.go () : Rs Unit Bool) := by
    cases hp : (propV F a).2.2 with
    | false => rfl
    | true =>
      obtain ⟨L, ok, eL, hL, hm⟩ := models hp
      rw [cond_true, eL, bd_some]
      cases ok with
      | false =>
        rw [iter_bk (s' := 0) (by cases decide ((0 : Int) < len L) <;> rfl), bdR_go]
      | true =>
        rw [loop_go (n := L.length) (by omega) (fun i hi => ?_) (by
          have : decide ((L.length : Int) < len L) = false := by rw [len_eq]; exact decide_eq_false (by omega)
          rw [this]; rfl), bdR_go]
        have hd : decide ((i : Int) < len L) = true := by rw [len_eq]; exact decide_eq_true (by omega)
        obtain ⟨x, hx, hg⟩ := ix_of (xs := L) (i := (i : Int)) (by omega) (by omega)
        obtain ⟨t, t1, t2, t3, t4⟩ := hm x (List.mem_of_getElem? hg)
        rw [hd]
        simp only [cond_true]
        rw [hx, bd_some, t1, bd_some, t2, bd_some, t3, bd_some]
        simp only [Bool.not_true, cond_false]
        rw [t4]; rfl
  rw [mid, bdR_go, impl_PropagationSteps_eq hF hA, bd_some, spec_PropagationSteps_eq hF hA, bd_some]
  simp only [beq_self_eq_true, Bool.not_true, cond_false]
  rw [loop_go (n := (stepV F a).1.length) (by have := stepV_len (F := F) (a := a); omega) (fun i hi => by
    have hd : decide ((i : Int) < len (stepV F a).1) = true := by rw [len_eq]; exact decide_eq_true (by omega)
    obtain ⟨x, hx, hg⟩ := ix_of (xs := (stepV F a).1) (i := (i : Int)) (by omega) (by omega)
    rw [hd, cond_true, hx, bd_some, bd_some, beq_self_eq_true, beq_self_eq_true]; rfl) (by
    have : decide (((stepV F a).1.length : Int) < len (stepV F a).1) = false := by rw [len_eq]; exact decide_eq_false (by omega)
    rw [this]; rfl), bdR_go]
  unfold spec_DrawIsAutarky
  rw [e2, bd_some, bd_some]
  dsimp only
  rw [impl_IsAutarky_eq hG hA2, bd_some, spec_IsAutarky_eq hG hA2, bd_some]
  simp only [beq_self_eq_true, Bool.not_true, cond_false]
  cases hask : askP G c with
  | false => unfold autV; rw [hask]; rfl
  | true =>
  cases hau : autB G.clauses c with
  | false => unfold autV; rw [hask, hau]; rfl
  | true =>
    have : autV G c = (true, true) := by unfold autV; rw [hask, hau]; rfl
    rw [this]
    simp only [cond_true]
    rw [impl_RestrictCnf_eq hask, bd_some]
    dsimp only
    rw [impl_IsSatisfiable_eq (ask_iff.1 hask).1, bd_some, impl_IsSatisfiable_eq (under_ok (ask_iff.1 hask).1), bd_some]
    dsimp only
    rw [aut_law hask hau, beq_self_eq_true]
    rfl
end Go.PF
