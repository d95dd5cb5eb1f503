/- Polynomials modulo a small prime: by all their coefficients, and by their terms. -/
import Derived.Test.YtjpjbfbloplacaaGreatIpPl14
import Derived.Test.YtjpjbfbloplacaaGreatIpLa1
import Derived.Test.YtjpjbfbloplacaaGreatIpPlDW
set_option linter.unusedVariables false
namespace Go.PF
open Go.Pu
open Go.La (vadd co)
/-! terms -/
def spF : Nat → List Int → List Term
  | _, [] => []
  | i, x :: xs => bif x == 0 then spF (i + 1) xs else ⟨((i : Nat) : Int), x⟩ :: spF (i + 1) xs
def sp (a : List Int) : List Term := spF 0 a
def fuF : Nat → List Int → List Term
  | _, [] => []
  | i, x :: xs => ⟨((i : Nat) : Int), x⟩ :: fuF (i + 1) xs
def fu (a : List Int) : List Term := fuF 0 a
theorem spF_filter : ∀ {a : List Int} {i : Nat}, spF i a = (fuF i a).filter fun t => !(t.coeff == 0)
  | [], _ => rfl
  | x :: xs, i => by
    simp only [spF, fuF, List.filter_cons]
    rw [spF_filter (a := xs)]
    cases h : x == 0 <;> simp
/-- coefficients of polynomials in v variables, v at most 6 -/
structure Dn (p : Int) (N : Nat) (a : List Int) : Prop where
  len : a.length = N
  bd : ∀ x ∈ a, 0 ≤ x ∧ x < p
/-- a prime and a number of variables -/
structure PV (p v : Int) : Prop where
  p1 : p = 2 ∨ p = 3 ∨ p = 5
  v0 : 0 ≤ v
  v6 : v ≤ 6
def nN (v : Int) : Nat := 2 ^ v.toNat
theorem PV.pos {p v : Int} (h : PV p v) : 1 < p ∧ p ≤ 5 := by rcases h.p1 with h | h | h <;> omega
theorem nN_le {v : Int} (h6 : v ≤ 6) : 1 ≤ nN v ∧ nN v ≤ 64 := by
  unfold nN
  have h : v.toNat ≤ 6 := by omega
  have h1 : 2 ^ v.toNat ≤ 2 ^ 6 := Nat.pow_le_pow_right (by decide) h
  have h2 : 1 ≤ 2 ^ v.toNat := Nat.one_le_two_pow
  omega
theorem shl_pow {v : Int} (h0 : 0 ≤ v) (h6 : v ≤ 6) : shlK true 64 1 v = ((nN v : Nat) : Int) := by
  have : v = 0 ∨ v = 1 ∨ v = 2 ∨ v = 3 ∨ v = 4 ∨ v = 5 ∨ v = 6 := by omega
  rcases this with rfl | rfl | rfl | rfl | rfl | rfl | rfl <;> decide
theorem orK_nat {i j v : Nat} (hv : v ≤ 6) (hi : i < 2 ^ v) (hj : j < 2 ^ v) : orK true 64 ((i : Nat) : Int) ((j : Nat) : Int) = ((i ||| j : Nat) : Int) ∧ i ||| j < 2 ^ v := by
  have hlt := Nat.or_lt_two_pow hi hj
  refine ⟨?_, hlt⟩
  have h6 : 2 ^ v ≤ 2 ^ 6 := Nat.pow_le_pow_right (by decide) hv
  have e1 : i % 18446744073709551616 = i := Nat.mod_eq_of_lt (by omega)
  have e2 : j % 18446744073709551616 = j := Nat.mod_eq_of_lt (by omega)
  unfold orK
  rw [BitVec.toNat_or]
  simp only [BitVec.ofInt_natCast, BitVec.toNat_ofNat]
  rw [show (2 : Nat) ^ 64 = 18446744073709551616 from rfl, e1, e2]
  generalize i ||| j = m at hlt ⊢
  unfold wrk
  simp only [Bool.true_and]
  have : ((m : Nat) : Int) % (2 ^ 64 : Int) = (m : Int) := Int.emod_eq_of_lt (by omega) (by simp; omega)
  rw [this, if_neg (by simp; omega)]
theorem nn_ok {n : Int} (h : 0 ≤ n) : nn n = some () := by unfold nn; rw [if_neg (by omega)]
theorem nz_ok {n : Int} (h : n ≠ 0) : nz n = some () := by unfold nz; rw [if_neg h]
theorem wr_sm {n : Int} (h1 : -1000000 ≤ n) (h2 : n ≤ 1000000) : wr n = n := wr_of _ (by omega) (by omega)
/-! from all coefficients to terms -/
theorem sp_loop {p : Int} (hp : p ≠ 0) {f : Nat → Int → List Term → Option (Lp (List Term) Empty)}
    (hf : ∀ i y s, f i y s = bif !((y.tmod p) == 0) then bd (app s [(Term.mk ((i : Nat) : Int) (y.tmod p))]) (fun xs => some (Lp.nx xs)) else some (Lp.nx s)) :
    ∀ {a : List Int} {i : Nat} {s : List Term}, s.length + a.length ≤ lim → forLFrom f a i s = some (.go (s ++ spF i (a.map fun y => y.tmod p))) := by
  intro a
  induction a with
  | nil => intro i s _; simp [forLFrom, spF]
  | cons x a ih =>
    intro i s hl
    simp only [List.length_cons] at hl
    simp only [List.map_cons, spF]
    cases h : x.tmod p == 0 with
    | true => rw [forLFrom_nx (s' := s) (by rw [hf, h]; rfl), ih (by omega)]; rfl
    | false =>
      rw [forLFrom_nx (s' := s ++ [⟨(i : Nat), x.tmod p⟩]) (by rw [hf, h]; simp only [Bool.not_false, cond_true]; rw [app_ok (by simp; omega), bd_some]), ih (by simp; omega)]
      simp
theorem spec_l18Sparse_eq {p : Int} (hp : p ≠ 0) {a : List Int} (hl : a.length ≤ lim) : spec_l18Sparse p a = some (sp (a.map fun y => y.tmod p)) := by
  unfold spec_l18Sparse forL
  rw [sp_loop hp (fun i y s => by rw [nz_ok hp, bd_some]) (by simpa using hl)]
  simp [sp]
theorem impl_terms_eq {a : List Int} (hl : a.length ≤ lim) : impl_dense_terms a = some (sp a) := by
  have key : ∀ {a : List Int} {i : Nat} {s : List Term}, s.length + a.length ≤ lim → forLFrom (X := Empty) (fun i22 y21 s22 => (bif (!(y21 == 0)) then bd (app s22 [(Term.mk ((i22 : Nat) : Int) y21)]) (fun xs80 => some (Lp.nx xs80)) else some (Lp.nx s22))) a i s = some (.go (s ++ spF i a)) := by
    intro a
    induction a with
    | nil => intro i s _; simp [forLFrom, spF]
    | cons x a ih =>
      intro i s hl
      simp only [List.length_cons] at hl
      simp only [spF]
      cases h : x == 0 with
      | true => rw [forLFrom_nx (s' := s) (by rw [h]; rfl), ih (by omega)]; rfl
      | false =>
        rw [forLFrom_nx (s' := s ++ [⟨(i : Nat), x⟩]) (by rw [h]; simp only [Bool.not_false, cond_true]; rw [app_ok (by simp; omega), bd_some]), ih (by simp; omega)]
        simp
  unfold impl_dense_terms forL
  rw [key (by simpa using hl)]
  simp [sp]
theorem tmod_small {x p : Int} (h : 0 ≤ x ∧ x < p) : x.tmod p = x := Int.tmod_eq_of_lt h.1 h.2
theorem map_tmod {p : Int} {a : List Int} (h : ∀ x ∈ a, 0 ≤ x ∧ x < p) : (a.map fun y => y.tmod p) = a := by
  conv => rhs; rw [← List.map_id a]
  exact List.map_congr_left fun x hx => tmod_small (h x hx)
/-! from terms to all coefficients -/
theorem dense_fold : ∀ (a pre : List Int), (spF pre.length a).foldl (fun s t => s.set t.mono.toNat t.coeff) (pre ++ List.replicate a.length 0) = pre ++ a
  | [], pre => by simp [spF]
  | x :: xs, pre => by
    simp only [spF, List.length_cons, List.replicate_succ]
    cases h : x == 0 with
    | true =>
      rw [beq_iff_eq] at h; subst h
      have := dense_fold xs (pre ++ [0])
      simp only [List.length_append, List.length_singleton, List.append_assoc, List.singleton_append] at this
      exact this
    | false =>
      have := dense_fold xs (pre ++ [x])
      simp only [List.length_append, List.length_singleton, List.append_assoc, List.singleton_append] at this
      simp only [cond_false, List.foldl_cons]
      have e : List.set (pre ++ (0 : Int) :: List.replicate xs.length 0) (((pre.length : Nat) : Int).toNat) x = pre ++ x :: List.replicate xs.length 0 := by simp
      rw [e]
      exact this
theorem mem_fuF : ∀ {a : List Int} {i : Nat} {t : Term}, t ∈ fuF i a → ∃ j : Nat, i ≤ j ∧ j < i + a.length ∧ t.mono = ((j : Nat) : Int) ∧ t.coeff ∈ a
  | [], _, _, h => by cases h
  | x :: xs, i, t, h => by
    rcases List.mem_cons.1 h with rfl | h
    · exact ⟨i, by omega, by simp, rfl, by simp⟩
    · obtain ⟨j, h1, h2, h3, h4⟩ := mem_fuF h
      exact ⟨j, by omega, by simp; omega, h3, by simp [h4]⟩
theorem mem_sp {a : List Int} {t : Term} (h : t ∈ sp a) : ∃ j : Nat, j < a.length ∧ t.mono = ((j : Nat) : Int) ∧ t.coeff ∈ a := by
  unfold sp at h; rw [spF_filter] at h
  obtain ⟨j, _, h2, h3, h4⟩ := mem_fuF (List.mem_filter.1 h).1
  exact ⟨j, by omega, h3, h4⟩
def zs (N : Nat) : List Int := List.replicate N 0
theorem zs_mk {v : Int} (h0 : 0 ≤ v) (h6 : v ≤ 6) : mk2 (0 : Int) (shlK true 64 1 v) (shlK true 64 1 v) = some (zs (nN v)) := by
  rw [shl_pow h0 h6]; exact mk2_ok (by have := nN_le h6; unfold lim; omega)
theorem foldl_len {α β : Type} {f : List α → β → List α} {n : Nat} (h : ∀ s b, s.length = n → (f s b).length = n) : ∀ {l : List β} {s : List α}, s.length = n → (l.foldl f s).length = n
  | [], _, hs => hs
  | b :: l, s, hs => by simp only [List.foldl_cons]; exact foldl_len h (h s b hs)
theorem spec_l18Dense_eq {v : Int} (h0 : 0 ≤ v) (h6 : v ≤ 6) {a : List Int} (ha : a.length = nN v) : spec_l18Dense v (sp a) = some a := by
  unfold spec_l18Dense
  rw [nn_ok h0, bd_some, zs_mk h0 h6, bd_some]
  refine bdR_foldI (X := Empty) (fun s (t : Term) => s.set t.mono.toNat t.coeff) (fun _ s => s.length = nN v) (by simp [zs]) (fun i t s ht hs => ?_) (fun _ => ?_)
  · obtain ⟨j, h1, h2, _⟩ := mem_sp (List.mem_of_getElem? ht)
    obtain ⟨x, hx⟩ : ∃ x, ix s t.mono = some x := by rw [h2, ix_get]; exact ⟨_, List.getElem?_eq_getElem (by omega)⟩
    rw [hx, bd_some, h2, put_ok (by omega), bd_some]
    exact ⟨by simp, by simp [hs]⟩
  · have := dense_fold a []
    simp only [List.length_nil, List.nil_append, ha] at this
    unfold sp zs
    rw [this]
theorem spec_l18Dense_nil {v : Int} (h0 : 0 ≤ v) (h6 : v ≤ 6) : spec_l18Dense v [] = some (zs (nN v)) := by
  unfold spec_l18Dense
  rw [nn_ok h0, bd_some, zs_mk h0 h6, bd_some]; rfl
/-! sums -/
theorem vadd_Dn {p k : Int} {N : Nat} {a b : List Int} (hp : 1 < p) (ha : a.length = N) (hb : b.length = N) : Dn p N (vadd p k a b) :=
  ⟨by unfold vadd; rw [List.length_zipWith, ha, hb]; omega, fun x hx => by
    unfold vadd at hx
    obtain ⟨i, hi, rfl⟩ := List.getElem_of_mem hx
    rw [List.getElem_zipWith]
    exact ⟨Int.emod_nonneg _ (by omega), Int.emod_lt_of_pos _ (by omega)⟩⟩
theorem mul_sm {k y : Int} (hk : 0 ≤ k ∧ k ≤ 5) (hy : 0 ≤ y ∧ y ≤ 5) : 0 ≤ k * y ∧ k * y ≤ 25 := by
  refine ⟨Int.mul_nonneg hk.1 hy.1, ?_⟩
  have := Int.mul_le_mul hk.2 hy.2 hy.1 (by omega)
  omega
theorem get_zip {f : Int → Int → Int} {a b : List Int} {j : Nat} {x y : Int} (hx : a[j]? = some x) (hy : b[j]? = some y) : (List.zipWith f a b)[j]? = some (f x y) := by
  rw [List.getElem?_zipWith, hx, hy]
@[irreducible] def lin (k x y : Int) : Int := x + k * y
theorem lin_eq (k x y : Int) : x + k * y = lin k x y := by unfold lin; rfl
theorem spec_l18Add_dense {p v k : Int} (h : PV p v) (hk : 0 ≤ k ∧ k ≤ 5) {A B : List Term} {a b : List Int} (hA : spec_l18Dense v A = some a) (hB : spec_l18Dense v B = some b) (ha : Dn p (nN v) a) (hb : Dn p (nN v) b) :
    spec_l18Add p v A B k = some (sp (vadd p k a b)) := by
  have hp := h.pos; have hN := nN_le h.v6
  unfold spec_l18Add
  rw [hA, bd_some, hB, bd_some]
  refine bdR_mk (X := Empty) (fun (s : List Int) i => (s, i)) (xs := (List.range (nN v))) (F := fun s j => match a[j]?, b[j]? with | some x, some y => s.set j (lin k x y) | _, _ => s) (s0 := a)
    (fun i s => s.length = nN v ∧ ∀ j, s[j]? = if j < i then (List.zipWith (lin k) a b)[j]? else a[j]?) rfl ⟨ha.len, fun j => by simp⟩ (fun i j s hj hs => ?_) (fun s hs => ?_) (fun hI => ?_)
  · obtain ⟨hi, rfl⟩ := List.getElem?_eq_some_iff.1 hj
    rw [List.getElem_range] at *
    rw [List.length_range] at hi
    have hal := ha.len; have hbl := hb.len
    have hxa : a[i]? = some a[i] := List.getElem?_eq_getElem (by rw [ha.len]; exact hi)
    have hyb : b[i]? = some b[i] := List.getElem?_eq_getElem (by rw [hb.len]; exact hi)
    have bx := ha.bd a[i] (List.getElem_mem _); have by_ := hb.bd b[i] (List.getElem_mem _)
    have hsi : s[i]? = some a[i] := by rw [hs.2, if_neg (Nat.lt_irrefl i), hxa]
    have hlt : decide ((i : Int) < len s) = true := by rw [decide_eq_true_eq, len_eq]; omega
    have hm := mul_sm hk (y := b[i]) ⟨by omega, by omega⟩
    have w1 : wr (k * b[i]) = k * b[i] := wr_sm (by omega) (by omega)
    have w2 : wr (a[i] + k * b[i]) = a[i] + k * b[i] := wr_sm (by omega) (by omega)
    have w3 : wr ((i : Int) + 1) = (i : Int) + 1 := wr_sm (by omega) (by omega)
    have hil : i < s.length := by rw [hs.1]; exact hi
    have hpu : ∀ z, put s (i : Int) z = some (s.set i z) := fun z => put_ok hil
    rw [hlt, cond_true, ix_get, hsi, bd_some, ix_get, hyb, bd_some, bd_some, w1, w2]
    dsimp only
    rw [hpu, bd_some, hxa]
    dsimp only
    rw [lin_eq]
    rw [w3]
    refine ⟨rfl, by rw [List.length_set, hs.1], fun j => ?_⟩
    rw [List.getElem?_set]
    by_cases hij : i = j
    · subst hij
      rw [if_pos rfl, if_pos hil, if_pos (Nat.lt_succ_self i), get_zip hxa hyb]
    · rw [if_neg hij, hs.2]
      by_cases hlt2 : j < i
      · rw [if_pos hlt2, if_pos (Nat.lt_succ_of_lt hlt2)]
      · rw [if_neg hlt2, if_neg (fun h => by rcases Nat.lt_succ_iff_lt_or_eq.1 h with h | h; exact hlt2 h; exact hij h.symm)]
  · have hlt : decide (((List.range (nN v)).length : Int) < len s) = false := by rw [decide_eq_false_iff_not, len_eq, List.length_range]; omega
    simp only [hlt, cond_false]
  · generalize (List.range (nN v)).foldl _ a = s at hI ⊢
    have es : s = List.zipWith (lin k) a b := by
      apply List.ext_getElem?
      intro j
      rw [hI.2, List.length_range]
      split
      · rfl
      · rw [List.getElem?_eq_none (by rw [ha.len]; omega), List.getElem?_eq_none (by rw [List.length_zipWith, ha.len]; omega)]
    rw [es]
    simp only
    rw [spec_l18Sparse_eq (by omega) (by rw [List.length_zipWith, ha.len]; unfold lim; omega), bd_some]
    congr 2
    unfold vadd
    rw [List.map_zipWith]
    apply List.ext_getElem?
    intro j
    rw [List.getElem?_zipWith, List.getElem?_zipWith]
    cases hx : a[j]? with
    | none => rfl
    | some x =>
      cases hy : b[j]? with
      | none => rfl
      | some y =>
        have bx := ha.bd x (List.mem_of_getElem? hx); have by_ := hb.bd y (List.mem_of_getElem? hy)
        have hm := mul_sm hk (y := y) ⟨by omega, by omega⟩
        simp only [Option.some.injEq]
        rw [← lin_eq]
        exact Int.tmod_eq_emod_of_nonneg (by omega)
theorem spec_l18Add_eq {p v k : Int} (h : PV p v) (hk : 0 ≤ k ∧ k ≤ 5) {a b : List Int} (ha : Dn p (nN v) a) (hb : Dn p (nN v) b) : spec_l18Add p v (sp a) (sp b) k = some (sp (vadd p k a b)) :=
  spec_l18Add_dense h hk (spec_l18Dense_eq h.v0 h.v6 ha.len) (spec_l18Dense_eq h.v0 h.v6 hb.len) ha hb
theorem zs_Dn {p : Int} {N : Nat} (hp : 1 < p) : Dn p N (zs N) := ⟨by simp [zs], fun x hx => by unfold zs at hx; rw [List.mem_replicate] at hx; omega⟩
theorem slices_Clone_dense_eq {c : List Int} (hl : c.length ≤ lim) : slices_Clone_impl_dense_int c = some c := by
  unfold slices_Clone_impl_dense_int; rw [app_ok (by simpa using hl)]; rfl
theorem impl_zero_eq {r : ring} (h : PV r.p r.vars) : impl_ring_zero r = some (zs (nN r.vars)) := by
  unfold impl_ring_zero
  rw [nn_ok h.v0, bd_some, zs_mk h.v0 h.v6, bd_some]
theorem impl_plus_eq {r : ring} {k : Int} (h : PV r.p r.vars) (hk : 0 ≤ k ∧ k ≤ 5) {a b : List Int} (ha : Dn r.p (nN r.vars) a) (hb : Dn r.p (nN r.vars) b) : impl_ring_plus r a b k = some (vadd r.p k a b) := by
  have hp := h.pos; have hN := nN_le h.v6
  unfold impl_ring_plus
  rw [slices_Clone_dense_eq (by rw [ha.len]; unfold lim; omega), bd_some]
  obtain ⟨s, h1, h2⟩ := forL_inv (X := Empty) (l := b) (s := a) (body := (fun i40 y39 s40 => bd (ix s40 ((i40 : Nat) : Int)) (fun x117132 => bd (nz r.p) (fun u141127 => bd (ix s40 ((i40 : Nat) : Int)) (fun x144132 => bd (put s40 ((i40 : Nat) : Int) ((wr (x117132 + (wr (k * y39)))).tmod r.p)) (fun xs147129 => some (Lp.nx xs147129)))))))
    (fun i s => s.length = nN r.vars ∧ ∀ j, s[j]? = if j < i then (vadd r.p k a b)[j]? else a[j]?) ⟨ha.len, fun j => by simp⟩ (fun i y s hy hs => by
      have hi := (List.getElem?_eq_some_iff.1 hy).1
      rw [hb.len] at hi
      have hal := ha.len; have hbl := hb.len
      have hxa : a[i]? = some a[i] := List.getElem?_eq_getElem (by rw [ha.len]; exact hi)
      have bx := ha.bd a[i] (List.getElem_mem _); have by_ := hb.bd y (List.mem_of_getElem? hy)
      have hsi : s[i]? = some a[i] := by rw [hs.2, if_neg (Nat.lt_irrefl i), hxa]
      have hm := mul_sm hk (y := y) ⟨by omega, by omega⟩
      have w1 : wr (k * y) = k * y := wr_sm (by omega) (by omega)
      have w2 : wr (a[i] + k * y) = a[i] + k * y := wr_sm (by omega) (by omega)
      have w3 : (a[i] + k * y).tmod r.p = (a[i] + k * y) % r.p := Int.tmod_eq_emod_of_nonneg (by omega)
      have hil : i < s.length := by rw [hs.1]; exact hi
      have hpu : ∀ z, put s (i : Int) z = some (s.set i z) := fun z => put_ok hil
      simp only [ix_get, hsi, bd_some, nz_ok (show r.p ≠ 0 by omega), w1, w2, w3, hpu]
      refine ⟨_, rfl, by simp [hs.1], fun j => ?_⟩
      rw [List.getElem?_set]
      by_cases hij : i = j
      · subst hij
        rw [if_pos rfl, if_pos hil, if_pos (Nat.lt_succ_self i)]
        unfold vadd; rw [get_zip hxa hy]
      · rw [if_neg hij, hs.2]
        by_cases hlt2 : j < i
        · rw [if_pos hlt2, if_pos (Nat.lt_succ_of_lt hlt2)]
        · rw [if_neg hlt2, if_neg (fun h => by rcases Nat.lt_succ_iff_lt_or_eq.1 h with h | h; exact hlt2 h; exact hij h.symm)])
  rw [h1, bdR_go]
  have es : s = vadd r.p k a b := by
    apply List.ext_getElem?
    intro j
    rw [h2.2, hb.len]
    split
    · rfl
    · rw [List.getElem?_eq_none (by rw [ha.len]; omega), List.getElem?_eq_none (by rw [(vadd_Dn hp.1 ha.len hb.len).len]; omega)]
  rw [es]
end Go.PF
