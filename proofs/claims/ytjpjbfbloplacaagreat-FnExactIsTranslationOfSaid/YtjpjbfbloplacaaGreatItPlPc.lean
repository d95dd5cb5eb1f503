/- Steps of the polynomial calculus: the reference and the program find the same steps right. -/
import Derived.Test.YtjpjbfbloplacaaGreatItPlTi
set_option linter.unusedVariables false
namespace Go.PF
open Go.Pu
def termB (p v : Int) (t : Term) : Bool := inB t.mono 0 (wr ((nN v : Nat) - 1)) && inB t.coeff 1 (wr (p - 1))
def polyB (p v : Int) (A : List Term) : Bool := A.all (termB p v) && adj (fun a b => decide (a.mono < b.mono)) A
theorem sp_of {p : Int} : ∀ (n i : Nat) (A : List Term), (∀ t ∈ A, (i : Int) ≤ t.mono ∧ t.mono < i + n ∧ 1 ≤ t.coeff ∧ t.coeff < p) → A.Pairwise (fun a b => a.mono < b.mono) → 0 < p →
    ∃ a : List Int, a.length = n ∧ (∀ x ∈ a, 0 ≤ x ∧ x < p) ∧ spF i a = A
  | 0, i, [], _, _, _ => ⟨[], rfl, nofun, rfl⟩
  | 0, i, t :: A, h, _, _ => by have := h t (by simp); omega
  | n + 1, i, [], h, hp, h0 => by
    obtain ⟨a, h1, h2, h3⟩ := sp_of n (i + 1) [] nofun .nil h0
    refine ⟨0 :: a, by simp [h1], fun x hx => ?_, by simp [spF, h3]⟩
    rcases List.mem_cons.1 hx with rfl | hx
    · omega
    · exact h2 x hx
  | n + 1, i, t :: A, h, hp, h0 => by
    obtain ⟨p1, p2⟩ := List.pairwise_cons.1 hp
    have ht := h t (by simp)
    by_cases hm : t.mono = i
    · obtain ⟨a, h1, h2, h3⟩ := sp_of n (i + 1) A (fun u hu => by have := h u (by simp [hu]); have := p1 u hu; omega) p2 h0
      refine ⟨t.coeff :: a, by simp [h1], fun x hx => ?_, ?_⟩
      · rcases List.mem_cons.1 hx with rfl | hx
        · omega
        · exact h2 x hx
      · have : (t.coeff == 0) = false := by rw [beq_eq_false_iff_ne]; omega
        simp only [spF, this, cond_false, h3, ← hm]
    · obtain ⟨a, h1, h2, h3⟩ := sp_of n (i + 1) (t :: A) (fun u hu => by
        have := h u hu
        rcases List.mem_cons.1 hu with rfl | hu
        · omega
        · have := p1 u hu; omega) hp h0
      refine ⟨0 :: a, by simp [h1], fun x hx => ?_, by simp [spF, h3]⟩
      rcases List.mem_cons.1 hx with rfl | hx
      · omega
      · exact h2 x hx
theorem polyB_sp {p v : Int} (h : PV p v) {A : List Term} (hA : polyB p v A = true) : ∃ a, Dn p (nN v) a ∧ sp a = A := by
  have hN := nN_le h.v6
  have hp := h.pos
  unfold polyB at hA
  rw [Bool.and_eq_true, List.all_eq_true] at hA
  obtain ⟨a, h1, h2, h3⟩ := sp_of (p := p) (nN v) 0 A (fun t ht => by
    have := hA.1 t ht
    unfold termB at this
    rw [Bool.and_eq_true, inB_iff, inB_iff, wr_of _ (by omega) (by omega), wr_of _ (by omega) (by omega)] at this
    omega) (adj_pairwise (fun a b c h1 h2 => by omega) (fun a b _ _ h => of_decide_eq_true h) hA.2) (by omega)
  exact ⟨a, ⟨h1, h2⟩, h3⟩
theorem bif_congr3 {β : Type} {c d : Bool} {x y u w : β} (h : c = d) (h1 : x = y) (h2 : u = w) : (bif c then x else u) = bif d then y else w := by rw [h, h1, h2]
theorem bif_congr4 {β : Type} {c : Bool} {x y u w : β} (h1 : c = true → x = y) (h2 : u = w) : (bif c then x else u) = bif c then y else w := by
  cases c with
  | true => exact h1 rfl
  | false => exact h2
theorem shl_sub {v : Int} (h0 : 0 ≤ v) (h6 : v ≤ 6) : wr (shlK true 64 1 v - 1) = wr ((nN v : Nat) - 1) := by rw [shl_pow h0 h6]
theorem poly_loop {p v : Int} {A : List Term} (hl : A.length ≤ 9223372036854775807) {body : Nat → Term → Unit → Option (Lp Unit Bool)}
    (hb : ∀ (i : Nat) y u, A[i]? = some y → body i y u = bd (bif !termB p v y then some true else bd (bif decide (0 < ((i : Nat) : Int)) then bd (ix A (wr (((i : Nat) : Int) - 1))) (fun x => some (decide (y.mono ≤ x.mono))) else some false) fun t => some t) fun t => bif t then some (.rt false) else some (.nx ())) :
    bdR (forL A body ()) (fun _ => some true) (fun x => some x) = some (polyB p v A) := by
  have hstep : ∀ (i : Nat) y, A[i]? = some y → body i y () = bif (!termB p v y || (decide (0 < i) && match A[i - 1]? with | some x => decide (y.mono ≤ x.mono) | none => false)) then some (.rt false) else some (.nx ()) := fun i y hy => by
    have hi := (List.getElem?_eq_some_iff.1 hy).1
    rw [hb i y () hy]
    cases termB p v y with
    | false => rfl
    | true =>
      cases i with
      | zero => rfl
      | succ i =>
        rw [show decide (0 < ((i + 1 : Nat) : Int)) = true by rw [decide_eq_true_eq]; omega, wr_of _ (by omega) (by omega), show (((i + 1 : Nat) : Int) - 1) = ((i : Nat) : Int) by omega, ix_get]
        obtain ⟨x, hx⟩ : ∃ x, A[i]? = some x := ⟨_, List.getElem?_eq_getElem (by omega)⟩
        rw [hx, Nat.add_sub_cancel, hx]
        simp
  rw [forL_any (p := fun i y => !termB p v y || (decide (0 < i) && match A[i - 1]? with | some x => decide (y.mono ≤ x.mono) | none => false)) (v := false) hstep,
    anyI_adj (q := fun y => !termB p v y) (r := fun a b => decide (a.mono < b.mono)) (fun y hy => by simp) (fun i x y hx hy => by
      simp only [Nat.add_sub_cancel, hx, Nat.zero_lt_succ, decide_true, Bool.true_and]
      congr 1
      rw [Bool.eq_iff_iff, decide_eq_true_eq, Bool.not_eq_true', decide_eq_false_iff_not]; omega)]
  unfold polyB
  simp only [Bool.not_not]
  cases A.all (termB p v) && adj (fun a b => decide (a.mono < b.mono)) A <;> rfl
theorem spec_l18Good_eq {p v : Int} (h : PV p v) {A : List Term} (hl : A.length ≤ 9223372036854775807) : spec_l18Good p v A = some (polyB p v A) := by
  unfold spec_l18Good
  rw [spec_l18Prime_eq, pvB_iff.2 h, Bool.not_true, cond_false]
  refine poly_loop hl fun i y u _ => ?_
  rw [nn_ok h.v0, bd_some, shl_sub h.v0 h.v6, spec_l1In_eq, spec_l1In_eq]
  unfold termB
  cases inB y.mono 0 (wr ((nN v : Nat) - 1)) <;> cases inB y.coeff 1 (wr (p - 1)) <;> rfl
theorem impl_ring_is_eq {p v : Int} (h : PV p v) {A : List Term} (hl : A.length ≤ 9223372036854775807) : impl_ring_is ⟨p, v⟩ A = some (polyB p v A) := by
  unfold impl_ring_is impl_bitsOk
  refine poly_loop hl fun i y u _ => ?_
  rw [nn_ok h.v0, bd_some, bd_some, shl_sub h.v0 h.v6, impl_within_eq, impl_within_eq]
  unfold termB
  cases inB y.mono 0 (wr ((nN v : Nat) - 1)) <;> cases inB y.coeff 1 (wr (p - 1)) <;> rfl
theorem dense_loop {p : Int} (hp : 1 < p ∧ p ≤ 5) {body : Nat → Term → List Int → Option (Lp (List Int) Empty)}
    (hb : ∀ i y s, body i y s = bd (ix s y.mono) fun x => bd (nz p) fun _ => bd (ix s y.mono) fun _ => bd (put s y.mono ((wr (x + y.coeff)).tmod p)) fun xs => some (Lp.nx xs)) :
    ∀ (a pre : List Int) (i : Nat), (∀ x ∈ a, 0 ≤ x ∧ x < p) → forLFrom body (spF pre.length a) i (pre ++ List.replicate a.length 0) = some (.go (pre ++ a)) := by
  intro a
  induction a with
  | nil => intro pre i _; simp [spF, forLFrom]
  | cons x a ih =>
    intro pre i ha
    have hx := ha x (by simp)
    by_cases h0 : x = 0
    · subst h0
      have := ih (pre ++ [0]) i (fun z hz => ha z (by simp [hz]))
      simp only [spF, BEq.rfl, cond_true]
      rw [List.length_append, List.length_singleton] at this
      rw [List.length_cons, List.replicate_succ]
      simpa using this
    · have hne : (x == 0) = false := by rw [beq_eq_false_iff_ne]; exact h0
      have hget : (pre ++ List.replicate (a.length + 1) 0)[pre.length]? = some (0 : Int) := by
        rw [List.getElem?_append_right (Nat.le_refl _), Nat.sub_self, List.replicate_succ]; rfl
      have e : body i ⟨((pre.length : Nat) : Int), x⟩ (pre ++ List.replicate (a.length + 1) 0) = some (.nx (pre ++ [x] ++ List.replicate a.length 0)) := by
        rw [hb, ix_get, hget, bd_some, nz_ok (by omega), bd_some, bd_some, put_ok (by simp), bd_some]
        show some (Lp.nx (List.set _ _ ((wr (0 + x)).tmod p))) = _
        rw [Int.zero_add, wr_of x (by omega) (by omega), tmod_small hx, List.set_append_right _ _ (Nat.le_refl _), Nat.sub_self, List.replicate_succ, List.set_cons_zero]
        simp
      simp only [spF, hne, cond_false, List.length_cons, forLFrom, e]
      have := ih (pre ++ [x]) (i + 1) (fun z hz => ha z (by simp [hz]))
      rw [List.length_append, List.length_singleton] at this
      rw [this]
      simp
theorem impl_ring_dense_eq {p v : Int} (h : PV p v) {a : List Int} (ha : Dn p (nN v) a) : impl_ring_dense ⟨p, v⟩ (sp a) = some a := by
  unfold impl_ring_dense
  rw [impl_zero_eq (r := ⟨p, v⟩) h, bd_some]
  have := dense_loop (p := p) h.pos (fun _ _ _ => rfl) a [] 0 ha.bd
  rw [List.nil_append, List.nil_append, ha.len, List.length_nil] at this
  unfold forL sp zs
  rw [this]; rfl
theorem sp_inj {p v : Int} (h : PV p v) {a b : List Int} (ha : Dn p (nN v) a) (hb : Dn p (nN v) b) (e : sp a = sp b) : a = b := by
  have h1 := spec_l18Dense_eq h.v0 h.v6 ha.len
  have h2 := spec_l18Dense_eq h.v0 h.v6 hb.len
  rw [e, h2] at h1
  exact (Option.some.inj h1).symm
open Classical in
noncomputable def dnT (p v : Int) (A : List Term) : List Int := if h : ∃ a, Dn p (nN v) a ∧ sp a = A then h.choose else []
theorem dnT_ok {p v : Int} (h : PV p v) {A : List Term} (hA : polyB p v A = true) : Dn p (nN v) (dnT p v A) ∧ sp (dnT p v A) = A := by
  have hx := polyB_sp h hA
  unfold dnT
  rw [dif_pos hx]
  exact hx.choose_spec
theorem term_ext {a b : Term} (h1 : a.mono = b.mono) (h2 : a.coeff = b.coeff) : a = b := by
  cases a; cases b; simp only at h1 h2; subst h1; subst h2; rfl
open Classical in
theorem spec_l20Same_eq (a b : List Term) : spec_l20Same a b = some (decide (a = b)) := by
  unfold spec_l20Same
  by_cases hl : a.length = b.length
  · rw [show (len a == len b) = true by rw [beq_iff_eq, len_eq, len_eq, hl], Bool.not_true, cond_false,
      forL_any (p := fun i y => match b[i]? with | some x => !((y.mono == x.mono) && (y.coeff == x.coeff)) | none => false) (v := false) (fun i y hy => by
        have hi := (List.getElem?_eq_some_iff.1 hy).1
        obtain ⟨x, hx⟩ : ∃ x, b[i]? = some x := ⟨_, List.getElem?_eq_getElem (by omega)⟩
        rw [ix_get, hx, bd_some])]
    by_cases he : a = b
    · subst he
      rw [show anyI (fun i y => match a[i]? with | some x => !((y.mono == x.mono) && (y.coeff == x.coeff)) | none => false) a 0 = false from anyI_false.2 fun i y hy => by rw [Nat.zero_add, hy]; simp]
      simp
    · rw [show anyI (fun i y => match b[i]? with | some x => !((y.mono == x.mono) && (y.coeff == x.coeff)) | none => false) a 0 = true by
        rw [← Bool.not_eq_false]
        intro hf
        refine he (List.ext_getElem? fun i => ?_)
        by_cases hi : i < a.length
        · have := anyI_false.1 hf i a[i] (List.getElem?_eq_getElem hi)
          rw [Nat.zero_add, List.getElem?_eq_getElem (show i < b.length by omega)] at this
          simp only [Bool.not_eq_false', Bool.and_eq_true, beq_iff_eq] at this
          rw [List.getElem?_eq_getElem hi, List.getElem?_eq_getElem (show i < b.length by omega), term_ext this.1 this.2]
        · rw [List.getElem?_eq_none (by omega), List.getElem?_eq_none (by omega)]]
      simp [he]
  · rw [show (len a == len b) = false by rw [beq_eq_false_iff_ne, len_eq, len_eq]; omega, Bool.not_false, cond_true]
    have : a ≠ b := fun e => hl (by rw [e])
    simp [this]
/-! steps -/
def okPs (S : List PcStep) : Prop := S.length ≤ 9223372036854775807 ∧ ∀ s ∈ S, s.poly.length ≤ 9223372036854775807
def pAt (S : List PcStep) (k : Int) : List Term := match S[k.toNat]? with | some y => y.poly | none => []
def preB (p v : Int) (S : List PcStep) (i : Nat) (k : Int) : Bool := inB k 0 ((i : Int) - 1) && polyB p v (pAt S k)
theorem pre_at {S : List PcStep} {i : Nat} {k : Int} (hi : i < S.length) (h : inB k 0 ((i : Int) - 1) = true) : ∃ y, ix S k = some y ∧ pAt S k = y.poly ∧ y ∈ S := by
  have := inB_iff.1 h
  obtain ⟨y, h1, h2⟩ := ix_of (xs := S) (i := k) (by omega) (by omega)
  exact ⟨y, h1, by unfold pAt; rw [h2], List.mem_of_getElem? h2⟩
theorem spec_l20Earlier_eq {p : Int} {F : Cnf} (h : PV p F.vars) {S : List PcStep} (hS : okPs S) {i : Nat} (hi : i < S.length) (k : Int) : spec_l20Earlier p F S (i : Int) k = some (preB p F.vars S i k) := by
  have := hS.1
  unfold spec_l20Earlier preB
  rw [spec_l1In_eq, wr_of _ (by omega) (by omega)]
  cases hk : inB k 0 ((i : Int) - 1) with
  | false => rfl
  | true =>
    obtain ⟨y, h1, h2, h3⟩ := pre_at hi hk
    simp only [cond_true, h1, bd_some, h2, spec_l18Good_eq h (hS.2 y h3), Bool.true_and]
theorem impl_polyBefore_eq {p : Int} {F : Cnf} (h : PV p F.vars) {S : List PcStep} (hS : okPs S) {i : Nat} (hi : i < S.length) (k : Int) :
    impl_algebra_polyBefore (alg p F) S (i : Int) k = some (bif preB p F.vars S i k then (dnT p F.vars (pAt S k), true) else ([], false)) := by
  have := hS.1
  unfold impl_algebra_polyBefore preB
  rw [impl_within_eq, wr_of _ (by omega) (by omega)]
  cases hk : inB k 0 ((i : Int) - 1) with
  | false => rfl
  | true =>
    obtain ⟨y, h1, h2, h3⟩ := pre_at hi hk
    have hr : (alg p F).ring = ⟨p, F.vars⟩ := rfl
    simp only [Bool.not_true, cond_false, h1, bd_some, hr, impl_ring_is_eq h (hS.2 y h3), h2, Bool.true_and]
    cases hp : polyB p F.vars y.poly with
    | false => rfl
    | true =>
      obtain ⟨d1, d2⟩ := dnT_ok h hp
      have hd := impl_ring_dense_eq h d1
      rw [d2] at hd
      simp only [Bool.not_true, cond_false, hd, bd_some, cond_true]
open Classical in
noncomputable def pcB (p : Int) (F : Cnf) (S : List PcStep) (i : Nat) (s : PcStep) : Bool :=
  polyB p F.vars s.poly && (
    bif s.kind == 1 then (inB s.a 0 ((F.clauses.length : Int) - 1) && (s.b == 0 && (s.x == 0 && s.y == 0))) && decide (s.poly = sp (clD p (nN F.vars) ((F.clauses[s.a.toNat]?).getD [])))
    else bif s.kind == 2 then (preB p F.vars S i s.a && (preB p F.vars S i s.b && (inB s.x 0 (p - 1) && inB s.y 0 (p - 1)))) && decide (s.poly = sp (sumD p (nN F.vars) (dnT p F.vars (pAt S s.a)) s.x (dnT p F.vars (pAt S s.b)) s.y))
    else bif s.kind == 3 then (preB p F.vars S i s.a && (s.b == 0 && (inB s.x 1 F.vars && s.y == 0))) && decide (s.poly = sp (mulT p (nN F.vars) (sp (dnT p F.vars (pAt S s.a))) (sp (litD p (nN F.vars) s.x))))
    else false)
theorem preB_ok {p v : Int} (h : PV p v) {S : List PcStep} {i : Nat} (hi : i < S.length) {k : Int} (hk : preB p v S i k = true) : ∃ y, ix S k = some y ∧ Dn p (nN v) (dnT p v (pAt S k)) ∧ y.poly = sp (dnT p v (pAt S k)) := by
  unfold preB at hk
  rw [Bool.and_eq_true] at hk
  obtain ⟨y, h1, h2, h3⟩ := pre_at hi hk.1
  obtain ⟨d1, d2⟩ := dnT_ok h hk.2
  exact ⟨y, h1, d1, by rw [d2, h2]⟩
theorem cnf_at {F : Cnf} (hF : cnfB F = true) {k : Int} (hk : inB k 0 ((F.clauses.length : Int) - 1) = true) : ∃ c, ix F.clauses k = some c ∧ F.clauses[k.toNat]? = some c ∧ IsC F.vars c := by
  have := inB_iff.1 hk
  obtain ⟨c, h1, h2⟩ := ix_of (xs := F.clauses) (i := k) (by omega) (by omega)
  exact ⟨c, h1, h2, (cnf_bds hF).2 c (List.mem_of_getElem? h2)⟩
theorem spec_l20Correct_eq {p : Int} {F : Cnf} (h : PV p F.vars) (hF : cnfB F = true) {S : List PcStep} (hS : okPs S) {i : Nat} {s : PcStep} (hx : S[i]? = some s) : spec_l20Correct p F S (i : Int) = some (pcB p F S i s) := by
  have hi := (List.getElem?_eq_some_iff.1 hx).1
  have hp := h.pos
  have hl := (cnf_bds hF).1
  unfold spec_l20Correct pcB
  rw [ix_get, hx, bd_some, spec_l18Good_eq h (hS.2 s (List.mem_of_getElem? hx)), bd_some]
  cases hg : polyB p F.vars s.poly with
  | false => rfl
  | true =>
    simp only [Bool.not_true, cond_false, Bool.true_and, spec_l1In_eq, len_eq F.clauses]
    rw [wr_of ((F.clauses.length : Int) - 1) (by omega) (by omega), wr_of (p - 1) (by omega) (by omega)]
    cases h1 : s.kind == 1 with
    | true =>
      simp only [cond_true, bif_ff]
      have e : ((((s.b == 0) && (s.x == 0)) && (s.y == 0)) && inB s.a 0 ((F.clauses.length : Int) - 1)) = (inB s.a 0 ((F.clauses.length : Int) - 1) && (s.b == 0 && (s.x == 0 && s.y == 0))) := by
        cases s.b == 0 <;> cases s.x == 0 <;> cases s.y == 0 <;> cases inB s.a 0 ((F.clauses.length : Int) - 1) <;> rfl
      rw [e]
      cases hc : inB s.a 0 ((F.clauses.length : Int) - 1) && (s.b == 0 && (s.x == 0 && s.y == 0)) with
      | false => rfl
      | true =>
        obtain ⟨c, c1, c2, c3⟩ := cnf_at hF ((Bool.and_eq_true _ _).mp hc).1
        rw [c2]
        simp only [cond_true, c1, bd_some, spec_l18Clause_eq h c3, spec_l20Same_eq, Bool.true_and]
        rfl
    | false =>
      simp only [cond_false]
      cases h2 : s.kind == 2 with
      | true =>
        have h3 : (s.kind == 3) = false := by have : s.kind = 2 := by simpa using h2
                                              rw [this]; rfl
        simp only [Bool.not_true, cond_false, cond_true, spec_l20Earlier_eq h hS hi, bd_some, h3]
        cases ha : preB p F.vars S i s.a with
        | false => rfl
        | true =>
          simp only [Bool.not_true, cond_false, Bool.true_and]
          cases hb : preB p F.vars S i s.b with
          | false => rfl
          | true =>
            cases hx0 : inB s.x 0 (p - 1) with
            | false => rfl
            | true =>
              cases hy0 : inB s.y 0 (p - 1) with
              | false => rfl
              | true =>
                have b1 := inB_iff.1 hx0; have b2 := inB_iff.1 hy0
                obtain ⟨y, y1, y2, y3⟩ := preB_ok h hi ha
                obtain ⟨z, z1, z2, z3⟩ := preB_ok h hi hb
                simp only [Bool.not_true, cond_false, y1, z1, bd_some, y3, z3, spec_l20Sum_eq h (⟨by omega, by omega⟩ : 0 ≤ s.x ∧ s.x ≤ 5) (⟨by omega, by omega⟩ : 0 ≤ s.y ∧ s.y ≤ 5) y2 z2, spec_l20Same_eq, Bool.true_and]
      | false =>
        simp only [Bool.not_false, cond_true, cond_false]
        cases h3 : s.kind == 3 with
        | false => rfl
        | true =>
          simp only [Bool.not_true, cond_false, cond_true, spec_l20Earlier_eq h hS hi, bd_some, bif_ff]
          cases ha : preB p F.vars S i s.a with
          | false => rfl
          | true =>
            simp only [Bool.not_true, cond_false, Bool.true_and]
            have e : (((s.b == 0) && (s.y == 0)) && inB s.x 1 F.vars) = (s.b == 0 && (inB s.x 1 F.vars && s.y == 0)) := by
              cases s.b == 0 <;> cases s.y == 0 <;> cases inB s.x 1 F.vars <;> rfl
            rw [e]
            cases hc : s.b == 0 && (inB s.x 1 F.vars && s.y == 0) with
            | false => rfl
            | true =>
              have hc1 := (Bool.and_eq_true _ _).mp ((Bool.and_eq_true _ _).mp hc).2
              have b1 := inB_iff.1 hc1.1
              obtain ⟨y, y1, y2, y3⟩ := preB_ok h hi ha
              simp only [cond_true, y1, bd_some, y3, spec_l20Times_eq h y2 b1.1 b1.2, spec_l20Same_eq, Bool.true_and]
theorem dense_Equal_eq (a b : List Int) : slices_Equal_impl_dense_int a b = some (a == b) := spec_l1Same_eq a b
open Classical in
theorem eq_dense {p v : Int} (h : PV p v) {a : List Int} {A : List Term} (ha : Dn p (nN v) a) (hA : polyB p v A = true) : (a == dnT p v A) = decide (A = sp a) := by
  obtain ⟨d1, d2⟩ := dnT_ok h hA
  rw [Bool.eq_iff_iff, beq_iff_eq, decide_eq_true_eq]
  exact ⟨fun e => by rw [e, d2], fun e => sp_inj h ha d1 (by rw [d2, e])⟩
theorem alg_q2 {p : Int} {F : Cnf} {k : Int} {c : List Int} (h1 : ix F.clauses k = some c) : ix (alg p F).q k = some (clD p (nN F.vars) c) := by
  obtain ⟨h0, h2, h3⟩ := ix_some h1
  unfold ix; rw [if_pos h0]
  show (F.clauses.map fun c => clD p (nN F.vars) c)[k.toNat]? = _
  rw [List.getElem?_map, h3]; rfl
theorem impl_pcCorrect_eq {p : Int} {F : Cnf} (h : PV p F.vars) (hF : cnfB F = true) {S : List PcStep} (hS : okPs S) {i : Nat} {s : PcStep} (hx : S[i]? = some s) : impl_algebra_pcCorrect (alg p F) S (i : Int) = some (pcB p F S i s) := by
  have hi := (List.getElem?_eq_some_iff.1 hx).1
  have hp := h.pos
  have hl := (cnf_bds hF).1
  have hr : (alg p F).ring = ⟨p, F.vars⟩ := rfl
  have hql : len (alg p F).q = (F.clauses.length : Int) := by rw [len_eq]; show ((F.clauses.map _).length : Int) = _; rw [List.length_map]
  -- what a due polynomial comes to
  have key : ∀ (d : List Int) (b : Bool), impl_algebra_pcDue (alg p F) S (i : Int) = some (bif b then (d, true) else ([], false)) → (b = true → Dn p (nN F.vars) d) → ∀ (f : List Term → Bool), (b = true → ∀ A, polyB p F.vars A = true → (d == dnT p F.vars A) = f A) →
      impl_algebra_pcCorrect (alg p F) S (i : Int) = some (polyB p F.vars s.poly && (b && f s.poly)) := fun d b hd hdn f hf => by
    unfold impl_algebra_pcCorrect
    rw [hd, bd_some]
    cases b with
    | false => simp
    | true =>
      simp only [cond_true, ix_get, hx, bd_some, hr, impl_ring_is_eq h (hS.2 s (List.mem_of_getElem? hx)), Bool.true_and]
      cases hg : polyB p F.vars s.poly with
      | false => rfl
      | true =>
        obtain ⟨d1, d2⟩ := dnT_ok h hg
        have hd := impl_ring_dense_eq h d1
        rw [d2] at hd
        simp only [cond_true, hd, bd_some, dense_Equal_eq, hf rfl s.poly hg, Bool.true_and]
  have due : impl_algebra_pcDue (alg p F) S (i : Int) = bd (some s) fun x => (bif (bif (bif (bif (bif (x.kind == 1) then inB x.a 0 ((F.clauses.length : Int) - 1) else false) then (x.b == 0) else false) then (x.x == 0) else false) then (x.y == 0) else false) then bd (ix (alg p F).q x.a) (fun q => some (q, true)) else
      (bif (bif (bif (bif (bif (x.kind == 2) then preB p F.vars S i x.a else false) then preB p F.vars S i x.b else false) then inB x.x 0 (p - 1) else false) then inB x.y 0 (p - 1) else false) then some (sumD p (nN F.vars) (dnT p F.vars (pAt S x.a)) x.x (dnT p F.vars (pAt S x.b)) x.y, true) else
      (bif (bif (bif (bif (bif (x.kind == 3) then preB p F.vars S i x.a else false) then (x.b == 0) else false) then inB x.x 1 F.vars else false) then (x.y == 0) else false) then some (mulT p (nN F.vars) (sp (dnT p F.vars (pAt S x.a))) (sp (litD p (nN F.vars) x.x)), true) else some ([], false)))) := by
    unfold impl_algebra_pcDue
    rw [ix_get, hx, bd_some, impl_polyBefore_eq h hS hi, bd_some, impl_polyBefore_eq h hS hi, bd_some, bd_some]
    have hrp : (alg p F).ring.p = p := rfl
    have hrv : (alg p F).ring.vars = F.vars := rfl
    simp only [impl_within_eq, impl_isVar_eq, hql, hrp, hrv, bif_ff]
    rw [wr_of ((F.clauses.length : Int) - 1) (by omega) (by omega), wr_of (p - 1) (by omega) (by omega)]
    have e2 : ∀ (c : Bool) (d : List Int), (bif c then (d, true) else ([], false)).2 = c := fun c d => by cases c <;> rfl
    simp only [e2]
    refine bif_congr3 rfl rfl ?_
    cases ha : preB p F.vars S i s.a with
    | false => simp
    | true =>
      obtain ⟨y, y1, y2, y3⟩ := preB_ok h hi ha
      refine bif_congr4 (fun hc => ?_) (bif_congr4 (fun hc => ?_) rfl)
      · simp only [Bool.and_eq_true] at hc
        obtain ⟨⟨⟨⟨_, _⟩, hb⟩, hx0⟩, hy0⟩ := hc
        have b1 := inB_iff.1 hx0; have b2 := inB_iff.1 hy0
        obtain ⟨z, z1, z2, z3⟩ := preB_ok h hi hb
        rw [hb]
        simp only [cond_true, hr]
        rw [impl_zero_eq (r := ⟨p, F.vars⟩) h, bd_some, impl_plus_eq (r := ⟨p, F.vars⟩) h ⟨by omega, by omega⟩ (zs_Dn hp.1) y2, bd_some,
          impl_plus_eq (r := ⟨p, F.vars⟩) h ⟨by omega, by omega⟩ (vadd_Dn hp.1 (zs_Dn hp.1).len y2.len) z2, bd_some]
        rfl
      · simp only [Bool.and_eq_true] at hc
        obtain ⟨⟨⟨⟨_, _⟩, hb⟩, hx0⟩, hy0⟩ := hc
        have b1 := inB_iff.1 hx0
        simp only [cond_true, hr]
        rw [impl_literal_eq (r := ⟨p, F.vars⟩) h (l := s.x) (by omega) (by show -F.vars ≤ _; omega) b1.2, bd_some, impl_times_eq (r := ⟨p, F.vars⟩) h y2 (litD_Dn hp.1 _), bd_some]
  rw [bd_some] at due
  unfold pcB
  cases h1 : s.kind == 1 with
  | true =>
    have h2 : (s.kind == 2) = false := by have : s.kind = 1 := by simpa using h1
                                          rw [this]; rfl
    have h3 : (s.kind == 3) = false := by have : s.kind = 1 := by simpa using h1
                                          rw [this]; rfl
    rw [h1, h2, h3] at due
    simp only [bif_ff, Bool.true_and, cond_false] at due
    simp only [cond_true]
    have e : (((inB s.a 0 ((F.clauses.length : Int) - 1) && (s.b == 0)) && (s.x == 0)) && (s.y == 0)) = (inB s.a 0 ((F.clauses.length : Int) - 1) && (s.b == 0 && (s.x == 0 && s.y == 0))) := by
      cases s.b == 0 <;> cases s.x == 0 <;> cases s.y == 0 <;> cases inB s.a 0 ((F.clauses.length : Int) - 1) <;> rfl
    rw [e] at due
    refine key (clD p (nN F.vars) ((F.clauses[s.a.toNat]?).getD [])) _ ?_ (fun _ => clD_Dn hp.1 _) _ (fun _ A hA => eq_dense h (clD_Dn hp.1 _) hA)
    rw [due]
    cases hc : inB s.a 0 ((F.clauses.length : Int) - 1) && (s.b == 0 && (s.x == 0 && s.y == 0)) with
    | false => rfl
    | true =>
      obtain ⟨c, c1, c2, c3⟩ := cnf_at hF ((Bool.and_eq_true _ _).mp hc).1
      simp only [cond_true, alg_q2 c1, bd_some, c2, Option.getD_some]
  | false =>
    rw [h1] at due
    simp only [bif_ff, cond_false] at due
    simp only [cond_false]
    cases h2 : s.kind == 2 with
    | true =>
      have h3 : (s.kind == 3) = false := by have : s.kind = 2 := by simpa using h2
                                            rw [this]; rfl
      rw [h2, h3] at due
      simp only [Bool.true_and, Bool.false_and, cond_false] at due
      simp only [cond_true]
      rw [Bool.and_assoc, Bool.and_assoc] at due
      rw [show (preB p F.vars S i s.a && (preB p F.vars S i s.b && (inB s.x 0 (p - 1) && inB s.y 0 (p - 1)))) = (preB p F.vars S i s.a && (preB p F.vars S i s.b && (inB s.x 0 (p - 1) && inB s.y 0 (p - 1)))) from rfl]
      have hdn : (preB p F.vars S i s.a && (preB p F.vars S i s.b && (inB s.x 0 (p - 1) && inB s.y 0 (p - 1)))) = true → Dn p (nN F.vars) (sumD p (nN F.vars) (dnT p F.vars (pAt S s.a)) s.x (dnT p F.vars (pAt S s.b)) s.y) := fun hc => by
        simp only [Bool.and_eq_true] at hc
        obtain ⟨y, y1, y2, y3⟩ := preB_ok h hi hc.1
        obtain ⟨z, z1, z2, z3⟩ := preB_ok h hi hc.2.1
        exact sumD_Dn hp.1 y2 z2
      refine key _ _ ?_ hdn _ (fun hc A hA => eq_dense h (hdn hc) hA)
      rw [due]
      cases preB p F.vars S i s.a <;> cases preB p F.vars S i s.b <;> cases inB s.x 0 (p - 1) <;> cases inB s.y 0 (p - 1) <;> rfl
    | false =>
      rw [h2] at due
      simp only [Bool.false_and, cond_false] at due
      simp only [cond_false]
      cases h3 : s.kind == 3 with
      | true =>
        rw [h3] at due
        simp only [Bool.true_and] at due
        simp only [cond_true]
        have hdn : (preB p F.vars S i s.a && (s.b == 0 && (inB s.x 1 F.vars && s.y == 0))) = true → Dn p (nN F.vars) (mulT p (nN F.vars) (sp (dnT p F.vars (pAt S s.a))) (sp (litD p (nN F.vars) s.x))) := fun _ => mulT_Dn hp.1 _ _
        refine key _ _ ?_ hdn _ (fun hc A hA => eq_dense h (hdn hc) hA)
        rw [due]
        cases preB p F.vars S i s.a <;> cases s.b == 0 <;> cases inB s.x 1 F.vars <;> cases s.y == 0 <;> rfl
      | false =>
        rw [h3] at due
        simp only [Bool.false_and, cond_false] at due
        have := key [] false due nofun (fun _ => false) nofun
        rw [this]; rfl
end Go.PF
