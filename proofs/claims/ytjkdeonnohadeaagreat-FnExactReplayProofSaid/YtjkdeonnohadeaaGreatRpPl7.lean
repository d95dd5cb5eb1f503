/- Two derivations chained: the reference and the program answer alike; the law. -/
import Derived.Test.YtjkdeonnohadeaaGreatRpPl6
namespace Go.PF
open Go.Pu

/-- a step moved by n places -/
def sh (n : Int) (y : ResStep) : ResStep := bif decide (0 ≤ y.left) then (bif decide (0 ≤ y.right) then ⟨y.clause, n + y.left, n + y.right, y.pivot⟩ else ⟨y.clause, n + y.left, y.right, y.pivot⟩) else y
theorem sh_zero (y : ResStep) : sh 0 y = y := by
  unfold sh
  cases decide (0 ≤ y.left) <;> cases decide (0 ≤ y.right) <;> simp
def places (n m : Nat) : List Int := (List.range m).map fun k => ((n + k : Nat) : Int)
theorem places_get {n m : Nat} {k : Int} (h0 : 0 ≤ k) (h1 : k < m) : ix (places n m) k = some (n + k) := by
  unfold ix places
  rw [if_pos h0, List.getElem?_map, List.getElem?_range (by omega)]
  simp; omega
theorem places_succ (n m : Nat) : places n (m + 1) = places n m ++ [((n + m : Nat) : Int)] := by
  unfold places; rw [List.range_succ, List.map_append]; rfl
theorem places_len (n m : Nat) : (places n m).length = m := by unfold places; simp

theorem spec_l7Moved_eq {F : Cnf} {S : List ResStep} (h : IsD F S) {i n : Nat} {x : ResStep} (hx : S[i]? = some x) : spec_l7Moved x (places n (i + 1)) = some (sh n x) := by
  have hc := (h.clause (List.mem_of_getElem? hx)).len
  unfold spec_l7Moved sh
  rw [spec_l1Own_eq (by unfold lim; omega), bd_some]
  cases hl : decide (0 ≤ x.left) with
  | false => rfl
  | true =>
    have h0 := of_decide_eq_true hl
    obtain ⟨h1, h2⟩ := h.before hx h0
    simp only [cond_true]
    rw [places_get h0 (by omega), bd_some]
    cases hr : decide (0 ≤ x.right) with
    | false => rfl
    | true =>
      have h3 := of_decide_eq_true hr
      simp only [cond_true]
      rw [places_get h3 (by have := h2 h3; omega), bd_some]
theorem behind_loop {F : Cnf} {S : List ResStep} (h : IsD F S) {n : Nat} {out : List ResStep} (ho : out.length ≤ 200) {f : Nat → ResStep → List Int × List ResStep → Option (Lp (List Int × List ResStep) Empty)} {w : Nat → Int}
    (hf : ∀ i y s, f i y s = bd (app s.1 [w i]) fun xs => bd (spec_l7Moved y xs) fun r => bd (app s.2 [r]) fun ys => some (.nx (xs, ys))) (hw : ∀ i, i < S.length → w i = ((n + i : Nat) : Int)) :
    forL S f ([], out) = some (.go (places n S.length, out ++ S.map (sh n))) := by
  have hS := h.le
  obtain ⟨s', h1, h2⟩ := forL_inv (X := Empty) (body := f) (fun i t => t = (places n i, out ++ (S.take i).map (sh n)) ∧ i ≤ S.length) (l := S) (s := ([], out)) ⟨by simp [places], by omega⟩ (fun i x t hx ht => by
    obtain ⟨rfl, hi'⟩ := ht
    have hi := (List.getElem?_eq_some_iff.1 hx).1
    refine ⟨(places n (i + 1), out ++ (S.take (i + 1)).map (sh n)), ?_, rfl, by omega⟩
    rw [hf]
    simp only
    rw [hw i hi, app_ok (by rw [places_len]; unfold lim; simp; omega), bd_some, ← places_succ, spec_l7Moved_eq h hx, bd_some, app_ok (by unfold lim; simp; omega), bd_some]
    rw [List.take_add_one, hx]; simp)
  rw [h1, h2.1, List.take_length]
theorem spec_l7Behind_eq {F G : Cnf} {a b : List ResStep} (ha : IsD F a) (hb : IsD G b) : spec_l7Behind a b = some (a ++ b.map (sh a.length)) := by
  have hal := ha.le; have hbl := hb.le
  unfold spec_l7Behind
  rw [behind_loop ha (n := 0) (by simp) (w := fun i => (i : Int)) (fun _ _ _ => by rfl) (fun i _ => by simp), bdR_go]
  simp only
  rw [behind_loop hb (n := a.length) (w := fun i => wr (len a + (i : Int))) (by simp; omega) (fun _ _ _ => by rfl) (fun i hi => by rw [wr_of _ (by rw [len_eq]; omega) (by rw [len_eq]; omega), len_eq]; simp), bdR_go]
  simp only [List.nil_append]
  congr 2
  rw [List.map_congr_left (g := id) (fun x _ => by rw [show (((0 : Nat) : Int)) = 0 from rfl, sh_zero]; rfl), List.map_id]

theorem impl_cloneSteps_eq {F : Cnf} {S : List ResStep} (h : IsD F S) : impl_cloneSteps S = some S := by
  have hS := h.le
  unfold impl_cloneSteps
  have := forL_push (X := Empty) (f := fun _ (y : ResStep) => bd (slices_Clone_int_int y.clause) fun r => some (ResStep.mk r y.left y.right y.pivot)) (g := id) (l := S) (s := []) (fun i x hx => by
    have hc := (h.clause (List.mem_of_getElem? hx)).len
    rw [slices_Clone_int_int_eq (by unfold lim; omega), bd_some]; rfl) (by unfold lim; simp; omega)
  rw [List.map_id, List.nil_append] at this
  simp only [bd_assoc, bd_some] at this
  rw [this, bdR_go]
theorem last_at {A : Type} {l : List A} (h0 : l.length ≠ 0) (hl : l.length ≤ 9223372036854775807) : ∃ x, ix l (wr (len l - 1)) = some x ∧ x ∈ l := by
  obtain ⟨x, h1, h2⟩ := ix_of (xs := l) (i := len l - 1) (by rw [len_eq]; omega) (by rw [len_eq]; omega)
  exact ⟨x, by rw [wr_len hl]; exact h1, List.mem_of_getElem? h2⟩

/-- what both come to -/
def chainV (F : Cnf) (a b : List ResStep) (v : Int) : List ResStep × Bool :=
  match a.getLast?, b.getLast? with
  | some x, some y => bif derB F a && (derB F b && (decide (len a + len b < 200) && (inB v 1 F.vars && (res x.clause y.clause v).2))) then (a ++ b.map (sh a.length) ++ [⟨(res x.clause y.clause v).1, len a - 1, len a + len b - 1, v⟩], true) else ([], false)
  | _, _ => ([], false)
theorem last_get {A : Type} {l : List A} {x : A} (hl : l.length ≤ 9223372036854775807) (h : l.getLast? = some x) : ix l (wr (len l - 1)) = some x := by
  cases l with
  | nil => simp at h
  | cons y l =>
    rw [wr_len hl, len_eq]
    rw [List.getLast?_eq_getElem?] at h
    rw [show ((((y :: l).length : Nat) : Int) - 1) = (((y :: l).length - 1 : Nat) : Int) by simp, ix_get]; exact h
/-- how much the result holds -/
theorem joinL_len : ∀ {b s t : List Int}, joinL s b = some t → t.length ≤ s.length + b.length := by
  intro b
  induction b with
  | nil => intro s t h; simp only [joinL, Option.some.injEq] at h; subst h; simp
  | cons y b ih =>
    intro s t h
    simp only [joinL] at h
    cases hc : s.contains (wr (-y)) with
    | true => rw [hc] at h; cases h
    | false =>
      rw [hc, cond_false] at h
      have := ih h
      cases hy : s.contains y with
      | true => rw [hy] at this; simp only [Bool.not_true, cond_false] at this; simp only [List.length_cons]; omega
      | false => rw [hy] at this; simp only [Bool.not_false, cond_true, putL_length] at this; simp only [List.length_cons]; omega
theorem res_len (a b : List Int) (v : Int) : (res a b v).1.length ≤ a.length + b.length := by
  have h1 := without_len a v; have h2 := without_len b v
  unfold res joined
  cases !a.contains v || !b.contains (wr (-v)) with
  | true => simp
  | false =>
    simp only [cond_false]
    cases h : joinL (without a v) (without b v) with
    | none => simp
    | some t => have := joinL_len h; simp only; omega
theorem tot_le {A : Type} {wt : A → Nat} {n : Nat} : ∀ {l : List A}, (∀ x ∈ l, wt x ≤ n) → tot wt l ≤ n * l.length := by
  intro l
  induction l with
  | nil => intro _; simp [tot]
  | cons x l ih =>
    intro h
    have h1 := h x (by simp); have h2 := ih fun y hy => h y (by simp [hy])
    simp only [tot, List.length_cons, Nat.mul_add, Nat.mul_one]; omega
theorem sh_clause (n : Int) (y : ResStep) : (sh n y).clause = y.clause := by
  unfold sh
  cases decide (0 ≤ y.left) <;> cases decide (0 ≤ y.right) <;> rfl
theorem chainV_small {F : Cnf} {a b : List ResStep} {v : Int} : tot mResStep (chainV F a b v).1 ≤ 10000 := by
  unfold chainV
  split
  · rename_i x y hx hy
    cases h : derB F a && (derB F b && (decide (len a + len b < 200) && (inB v 1 F.vars && (res x.clause y.clause v).2))) with
    | false => simp [tot]
    | true =>
      simp only [cond_true]
      simp only [Bool.and_eq_true] at h
      have da := derB_iff.1 h.1; have db := derB_iff.1 h.2.1
      have cx := (da.clause (List.mem_of_getLast? hx)).len; have cy := (db.clause (List.mem_of_getLast? hy)).len
      have hr := res_len x.clause y.clause v
      have la := da.le; have lb := db.le
      have hall : ∀ z ∈ a ++ b.map (sh a.length) ++ [⟨(res x.clause y.clause v).1, len a - 1, len a + len b - 1, v⟩], mResStep z ≤ 24 + 3 := by
        intro z hz
        unfold mResStep
        rcases List.mem_append.1 hz with hz | hz
        · rcases List.mem_append.1 hz with hz | hz
          · have := (da.clause hz).len; omega
          · obtain ⟨u, hu, rfl⟩ := List.mem_map.1 hz
            rw [sh_clause]
            have := (db.clause hu).len; omega
        · simp only [List.mem_singleton] at hz
          subst hz; simp only; omega
      have hd : len a + len b < 200 := of_decide_eq_true h.2.2.1
      rw [len_eq, len_eq] at hd
      have := tot_le hall
      simp only [List.length_append, List.length_map, List.length_singleton] at this
      omega
  · simp [tot]
  
end Go.PF
