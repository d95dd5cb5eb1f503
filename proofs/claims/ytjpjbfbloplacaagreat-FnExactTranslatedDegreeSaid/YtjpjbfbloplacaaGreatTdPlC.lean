/- Polynomials modulo a small prime: by all their coefficients, and by their terms. Products of polynomials, literals and clauses as polynomials. The translation of a derivation into polynomials: the reference and the program put the same steps there. The translation of a derivation: the reference. The translation of a derivation: the program. Lists of terms that are polynomials. Lists of terms that are the same. Steps of the polynomial calculus: the reference and the program find the same steps right. Derivations of the polynomial calculus: both sides find the same ones right. The graded order of monomials and the leading monomial of a polynomial. Degrees, leading monomials, coefficients and inverses: what the program and the reference compute. ResToPc: the law. TranslatedDegree: the law. -/
import Derived.Test.YtjpjbfbloplacaaGreatTdPlA
import Derived.Test.YtjpjbfbloplacaaGreatTdLaA
set_option linter.unusedVariables false
namespace Go.PF
open Go.Pu
open Go.La (vadd co)
def spF : Nat → List Int → List Term
  | _, [] => []
  | i, x :: xs => bif x == 0 then spF (i + 1) xs else ⟨((i : Nat) : Int), x⟩ :: spF (i + 1) xs
def sp (a : List Int) : List Term := spF 0 a
def fuF : Nat → List Int → List Term
  | _, [] => []
  | i, x :: xs => ⟨((i : Nat) : Int), x⟩ :: fuF (i + 1) xs
def fu (a : List Int) : List Term := fuF 0 a
theorem spF_filter : ∀ {a : List Int} {i : Nat}, spF i a = (fuF i a).filter fun t => !(t.coeff == 0)
  | [], _ => rfl
  | x :: xs, i => by
    simp only [spF, fuF, List.filter_cons]
    rw [spF_filter (a := xs)]
    cases h : x == 0 <;> simp
structure Dn (p : Int) (N : Nat) (a : List Int) : Prop where
  len : a.length = N
  bd : ∀ x ∈ a, 0 ≤ x ∧ x < p
structure PV (p v : Int) : Prop where
  p1 : p = 2 ∨ p = 3 ∨ p = 5
  v0 : 0 ≤ v
  v6 : v ≤ 6
def nN (v : Int) : Nat := 2 ^ v.toNat
theorem PV.pos {p v : Int} (h : PV p v) : 1 < p ∧ p ≤ 5 := by rcases h.p1 with h | h | h <;> omega
theorem nN_le {v : Int} (h6 : v ≤ 6) : 1 ≤ nN v ∧ nN v ≤ 64 := by
  unfold nN
  have h : v.toNat ≤ 6 := by omega
  have h1 : 2 ^ v.toNat ≤ 2 ^ 6 := Nat.pow_le_pow_right (by decide) h
  have h2 : 1 ≤ 2 ^ v.toNat := Nat.one_le_two_pow
  omega
theorem shl_pow {v : Int} (h0 : 0 ≤ v) (h6 : v ≤ 6) : shlK true 64 1 v = ((nN v : Nat) : Int) := by
  have : v = 0 ∨ v = 1 ∨ v = 2 ∨ v = 3 ∨ v = 4 ∨ v = 5 ∨ v = 6 := by omega
  rcases this with rfl | rfl | rfl | rfl | rfl | rfl | rfl <;> decide
theorem orK_nat {i j v : Nat} (hv : v ≤ 6) (hi : i < 2 ^ v) (hj : j < 2 ^ v) : orK true 64 ((i : Nat) : Int) ((j : Nat) : Int) = ((i ||| j : Nat) : Int) ∧ i ||| j < 2 ^ v := by
  have hlt := Nat.or_lt_two_pow hi hj
  refine ⟨?_, hlt⟩
  have h6 : 2 ^ v ≤ 2 ^ 6 := Nat.pow_le_pow_right (by decide) hv
  have e1 : i % 18446744073709551616 = i := Nat.mod_eq_of_lt (by omega)
  have e2 : j % 18446744073709551616 = j := Nat.mod_eq_of_lt (by omega)
  unfold orK
  rw [BitVec.toNat_or]
  simp only [BitVec.ofInt_natCast, BitVec.toNat_ofNat]
  rw [show (2 : Nat) ^ 64 = 18446744073709551616 from rfl, e1, e2]
  generalize i ||| j = m at hlt ⊢
  unfold wrk
  simp only [Bool.true_and]
  have : ((m : Nat) : Int) % (2 ^ 64 : Int) = (m : Int) := Int.emod_eq_of_lt (by omega) (by simp; omega)
  rw [this, if_neg (by simp; omega)]
theorem nn_ok {n : Int} (h : 0 ≤ n) : nn n = some () := by unfold nn; rw [if_neg (by omega)]
theorem nz_ok {n : Int} (h : n ≠ 0) : nz n = some () := by unfold nz; rw [if_neg h]
theorem wr_sm {n : Int} (h1 : -1000000 ≤ n) (h2 : n ≤ 1000000) : wr n = n := wr_of _ (by omega) (by omega)
theorem sp_loop {p : Int} (hp : p ≠ 0) {f : Nat → Int → List Term → Option (Lp (List Term) Empty)}
    (hf : ∀ i y s, f i y s = bif !((y.tmod p) == 0) then bd (app s [(Term.mk ((i : Nat) : Int) (y.tmod p))]) (fun xs => some (Lp.nx xs)) else some (Lp.nx s)) :
    ∀ {a : List Int} {i : Nat} {s : List Term}, s.length + a.length ≤ lim → forLFrom f a i s = some (.go (s ++ spF i (a.map fun y => y.tmod p))) := by
  intro a
  induction a with
  | nil => intro i s _; simp [forLFrom, spF]
  | cons x a ih =>
    intro i s hl
    simp only [List.length_cons] at hl
    simp only [List.map_cons, spF]
    cases h : x.tmod p == 0 with
    | true => rw [forLFrom_nx (s' := s) (by rw [hf, h]; rfl), ih (by omega)]; rfl
    | false =>
      rw [forLFrom_nx (s' := s ++ [⟨(i : Nat), x.tmod p⟩]) (by rw [hf, h]; simp only [Bool.not_false, cond_true]; rw [app_ok (by simp; omega), bd_some]), ih (by simp; omega)]
      simp
theorem spec_l18Sparse_eq {p : Int} (hp : p ≠ 0) {a : List Int} (hl : a.length ≤ lim) : spec_l18Sparse p a = some (sp (a.map fun y => y.tmod p)) := by
  unfold spec_l18Sparse forL
  rw [sp_loop hp (fun i y s => by rw [nz_ok hp, bd_some]) (by simpa using hl)]
  simp [sp]
theorem impl_terms_eq {a : List Int} (hl : a.length ≤ lim) : impl_dense_terms a = some (sp a) := by
  have key : ∀ {a : List Int} {i : Nat} {s : List Term}, s.length + a.length ≤ lim → forLFrom (X := Empty) (fun i22 y21 s22 => (bif (!(y21 == 0)) then bd (app s22 [(Term.mk ((i22 : Nat) : Int) y21)]) (fun xs80 => some (Lp.nx xs80)) else some (Lp.nx s22))) a i s = some (.go (s ++ spF i a)) := by
    intro a
    induction a with
    | nil => intro i s _; simp [forLFrom, spF]
    | cons x a ih =>
      intro i s hl
      simp only [List.length_cons] at hl
      simp only [spF]
      cases h : x == 0 with
      | true => rw [forLFrom_nx (s' := s) (by rw [h]; rfl), ih (by omega)]; rfl
      | false =>
        rw [forLFrom_nx (s' := s ++ [⟨(i : Nat), x⟩]) (by rw [h]; simp only [Bool.not_false, cond_true]; rw [app_ok (by simp; omega), bd_some]), ih (by simp; omega)]
        simp
  unfold impl_dense_terms forL
  rw [key (by simpa using hl)]
  simp [sp]
theorem tmod_small {x p : Int} (h : 0 ≤ x ∧ x < p) : x.tmod p = x := Int.tmod_eq_of_lt h.1 h.2
theorem map_tmod {p : Int} {a : List Int} (h : ∀ x ∈ a, 0 ≤ x ∧ x < p) : (a.map fun y => y.tmod p) = a := by
  conv => rhs; rw [← List.map_id a]
  exact List.map_congr_left fun x hx => tmod_small (h x hx)
theorem dense_fold : ∀ (a pre : List Int), (spF pre.length a).foldl (fun s t => s.set t.mono.toNat t.coeff) (pre ++ List.replicate a.length 0) = pre ++ a
  | [], pre => by simp [spF]
  | x :: xs, pre => by
    simp only [spF, List.length_cons, List.replicate_succ]
    cases h : x == 0 with
    | true =>
      rw [beq_iff_eq] at h; subst h
      have := dense_fold xs (pre ++ [0])
      simp only [List.length_append, List.length_singleton, List.append_assoc, List.singleton_append] at this
      exact this
    | false =>
      have := dense_fold xs (pre ++ [x])
      simp only [List.length_append, List.length_singleton, List.append_assoc, List.singleton_append] at this
      simp only [cond_false, List.foldl_cons]
      have e : List.set (pre ++ (0 : Int) :: List.replicate xs.length 0) (((pre.length : Nat) : Int).toNat) x = pre ++ x :: List.replicate xs.length 0 := by simp
      rw [e]
      exact this
theorem mem_fuF : ∀ {a : List Int} {i : Nat} {t : Term}, t ∈ fuF i a → ∃ j : Nat, i ≤ j ∧ j < i + a.length ∧ t.mono = ((j : Nat) : Int) ∧ t.coeff ∈ a
  | [], _, _, h => by cases h
  | x :: xs, i, t, h => by
    rcases List.mem_cons.1 h with rfl | h
    · exact ⟨i, by omega, by simp, rfl, by simp⟩
    · obtain ⟨j, h1, h2, h3, h4⟩ := mem_fuF h
      exact ⟨j, by omega, by simp; omega, h3, by simp [h4]⟩
theorem mem_sp {a : List Int} {t : Term} (h : t ∈ sp a) : ∃ j : Nat, j < a.length ∧ t.mono = ((j : Nat) : Int) ∧ t.coeff ∈ a := by
  unfold sp at h; rw [spF_filter] at h
  obtain ⟨j, _, h2, h3, h4⟩ := mem_fuF (List.mem_filter.1 h).1
  exact ⟨j, by omega, h3, h4⟩
def zs (N : Nat) : List Int := List.replicate N 0
theorem zs_mk {v : Int} (h0 : 0 ≤ v) (h6 : v ≤ 6) : mk2 (0 : Int) (shlK true 64 1 v) (shlK true 64 1 v) = some (zs (nN v)) := by
  rw [shl_pow h0 h6]; exact mk2_ok (by have := nN_le h6; unfold lim; omega)
theorem spec_l18Dense_eq {v : Int} (h0 : 0 ≤ v) (h6 : v ≤ 6) {a : List Int} (ha : a.length = nN v) : spec_l18Dense v (sp a) = some a := by
  unfold spec_l18Dense
  rw [nn_ok h0, bd_some, zs_mk h0 h6, bd_some]
  refine bdR_foldI (X := Empty) (fun s (t : Term) => s.set t.mono.toNat t.coeff) (fun _ s => s.length = nN v) (by simp [zs]) (fun i t s ht hs => ?_) (fun _ => ?_)
  · obtain ⟨j, h1, h2, _⟩ := mem_sp (List.mem_of_getElem? ht)
    obtain ⟨x, hx⟩ : ∃ x, ix s t.mono = some x := by rw [h2, ix_get]; exact ⟨_, List.getElem?_eq_getElem (by omega)⟩
    rw [hx, bd_some, h2, put_ok (by omega), bd_some]
    exact ⟨by simp, by simp [hs]⟩
  · have := dense_fold a []
    simp only [List.length_nil, List.nil_append, ha] at this
    unfold sp zs
    rw [this]
theorem spec_l18Dense_nil {v : Int} (h0 : 0 ≤ v) (h6 : v ≤ 6) : spec_l18Dense v [] = some (zs (nN v)) := by
  unfold spec_l18Dense
  rw [nn_ok h0, bd_some, zs_mk h0 h6, bd_some]; rfl
theorem vadd_Dn {p k : Int} {N : Nat} {a b : List Int} (hp : 1 < p) (ha : a.length = N) (hb : b.length = N) : Dn p N (vadd p k a b) :=
  ⟨by unfold vadd; rw [List.length_zipWith, ha, hb]; omega, fun x hx => by
    unfold vadd at hx
    obtain ⟨i, hi, rfl⟩ := List.getElem_of_mem hx
    rw [List.getElem_zipWith]
    exact ⟨Int.emod_nonneg _ (by omega), Int.emod_lt_of_pos _ (by omega)⟩⟩
theorem mul_sm {k y : Int} (hk : 0 ≤ k ∧ k ≤ 5) (hy : 0 ≤ y ∧ y ≤ 5) : 0 ≤ k * y ∧ k * y ≤ 25 := by
  refine ⟨Int.mul_nonneg hk.1 hy.1, ?_⟩
  have := Int.mul_le_mul hk.2 hy.2 hy.1 (by omega)
  omega
theorem get_zip {f : Int → Int → Int} {a b : List Int} {j : Nat} {x y : Int} (hx : a[j]? = some x) (hy : b[j]? = some y) : (List.zipWith f a b)[j]? = some (f x y) := by
  rw [List.getElem?_zipWith, hx, hy]
@[irreducible] def lin (k x y : Int) : Int := x + k * y
theorem lin_eq (k x y : Int) : x + k * y = lin k x y := by unfold lin; rfl
theorem spec_l18Add_dense {p v k : Int} (h : PV p v) (hk : 0 ≤ k ∧ k ≤ 5) {A B : List Term} {a b : List Int} (hA : spec_l18Dense v A = some a) (hB : spec_l18Dense v B = some b) (ha : Dn p (nN v) a) (hb : Dn p (nN v) b) :
    spec_l18Add p v A B k = some (sp (vadd p k a b)) := by
  have hp := h.pos; have hN := nN_le h.v6
  unfold spec_l18Add
  rw [hA, bd_some, hB, bd_some]
  refine bdR_mk (X := Empty) (fun (s : List Int) i => (s, i)) (xs := (List.range (nN v))) (F := fun s j => match a[j]?, b[j]? with | some x, some y => s.set j (lin k x y) | _, _ => s) (s0 := a)
    (fun i s => s.length = nN v ∧ ∀ j, s[j]? = if j < i then (List.zipWith (lin k) a b)[j]? else a[j]?) rfl ⟨ha.len, fun j => by simp⟩ (fun i j s hj hs => ?_) (fun s hs => ?_) (fun hI => ?_)
  · obtain ⟨hi, rfl⟩ := List.getElem?_eq_some_iff.1 hj
    rw [List.getElem_range] at *
    rw [List.length_range] at hi
    have hal := ha.len; have hbl := hb.len
    have hxa : a[i]? = some a[i] := List.getElem?_eq_getElem (by rw [ha.len]; exact hi)
    have hyb : b[i]? = some b[i] := List.getElem?_eq_getElem (by rw [hb.len]; exact hi)
    have bx := ha.bd a[i] (List.getElem_mem _); have by_ := hb.bd b[i] (List.getElem_mem _)
    have hsi : s[i]? = some a[i] := by rw [hs.2, if_neg (Nat.lt_irrefl i), hxa]
    have hlt : decide ((i : Int) < len s) = true := by rw [decide_eq_true_eq, len_eq]; omega
    have hm := mul_sm hk (y := b[i]) ⟨by omega, by omega⟩
    have w1 : wr (k * b[i]) = k * b[i] := wr_sm (by omega) (by omega)
    have w2 : wr (a[i] + k * b[i]) = a[i] + k * b[i] := wr_sm (by omega) (by omega)
    have w3 : wr ((i : Int) + 1) = (i : Int) + 1 := wr_sm (by omega) (by omega)
    have hil : i < s.length := by rw [hs.1]; exact hi
    have hpu : ∀ z, put s (i : Int) z = some (s.set i z) := fun z => put_ok hil
    rw [hlt, cond_true, ix_get, hsi, bd_some, ix_get, hyb, bd_some, bd_some, w1, w2]
    dsimp only
    rw [hpu, bd_some, hxa]
    dsimp only
    rw [lin_eq]
    rw [w3]
    refine ⟨rfl, by rw [List.length_set, hs.1], fun j => ?_⟩
    rw [List.getElem?_set]
    by_cases hij : i = j
    · subst hij
      rw [if_pos rfl, if_pos hil, if_pos (Nat.lt_succ_self i), get_zip hxa hyb]
    · rw [if_neg hij, hs.2]
      by_cases hlt2 : j < i
      · rw [if_pos hlt2, if_pos (Nat.lt_succ_of_lt hlt2)]
      · rw [if_neg hlt2, if_neg (fun h => by rcases Nat.lt_succ_iff_lt_or_eq.1 h with h | h; exact hlt2 h; exact hij h.symm)]
  · have hlt : decide (((List.range (nN v)).length : Int) < len s) = false := by rw [decide_eq_false_iff_not, len_eq, List.length_range]; omega
    simp only [hlt, cond_false]
  · generalize (List.range (nN v)).foldl _ a = s at hI ⊢
    have es : s = List.zipWith (lin k) a b := by
      apply List.ext_getElem?
      intro j
      rw [hI.2, List.length_range]
      split
      · rfl
      · rw [List.getElem?_eq_none (by rw [ha.len]; omega), List.getElem?_eq_none (by rw [List.length_zipWith, ha.len]; omega)]
    rw [es]
    simp only
    rw [spec_l18Sparse_eq (by omega) (by rw [List.length_zipWith, ha.len]; unfold lim; omega), bd_some]
    congr 2
    unfold vadd
    rw [List.map_zipWith]
    apply List.ext_getElem?
    intro j
    rw [List.getElem?_zipWith, List.getElem?_zipWith]
    cases hx : a[j]? with
    | none => rfl
    | some x =>
      cases hy : b[j]? with
      | none => rfl
      | some y =>
        have bx := ha.bd x (List.mem_of_getElem? hx); have by_ := hb.bd y (List.mem_of_getElem? hy)
        have hm := mul_sm hk (y := y) ⟨by omega, by omega⟩
        simp only [Option.some.injEq]
        rw [← lin_eq]
        exact Int.tmod_eq_emod_of_nonneg (by omega)
theorem spec_l18Add_eq {p v k : Int} (h : PV p v) (hk : 0 ≤ k ∧ k ≤ 5) {a b : List Int} (ha : Dn p (nN v) a) (hb : Dn p (nN v) b) : spec_l18Add p v (sp a) (sp b) k = some (sp (vadd p k a b)) :=
  spec_l18Add_dense h hk (spec_l18Dense_eq h.v0 h.v6 ha.len) (spec_l18Dense_eq h.v0 h.v6 hb.len) ha hb
theorem zs_Dn {p : Int} {N : Nat} (hp : 1 < p) : Dn p N (zs N) := ⟨by simp [zs], fun x hx => by unfold zs at hx; rw [List.mem_replicate] at hx; omega⟩
theorem slices_Clone_dense_eq {c : List Int} (hl : c.length ≤ lim) : slices_Clone_impl_dense_int c = some c := by
  unfold slices_Clone_impl_dense_int; rw [app_ok (by simpa using hl)]; rfl
theorem impl_zero_eq {r : ring} (h : PV r.p r.vars) : impl_ring_zero r = some (zs (nN r.vars)) := by
  unfold impl_ring_zero
  rw [nn_ok h.v0, bd_some, zs_mk h.v0 h.v6, bd_some]
theorem impl_plus_eq {r : ring} {k : Int} (h : PV r.p r.vars) (hk : 0 ≤ k ∧ k ≤ 5) {a b : List Int} (ha : Dn r.p (nN r.vars) a) (hb : Dn r.p (nN r.vars) b) : impl_ring_plus r a b k = some (vadd r.p k a b) := by
  have hp := h.pos; have hN := nN_le h.v6
  unfold impl_ring_plus
  rw [slices_Clone_dense_eq (by rw [ha.len]; unfold lim; omega), bd_some]
  obtain ⟨s, h1, h2⟩ := forL_inv (X := Empty) (l := b) (s := a) (body := (fun i40 y39 s40 => bd (ix s40 ((i40 : Nat) : Int)) (fun x117132 => bd (nz r.p) (fun u141127 => bd (ix s40 ((i40 : Nat) : Int)) (fun x144132 => bd (put s40 ((i40 : Nat) : Int) ((wr (x117132 + (wr (k * y39)))).tmod r.p)) (fun xs147129 => some (Lp.nx xs147129)))))))
    (fun i s => s.length = nN r.vars ∧ ∀ j, s[j]? = if j < i then (vadd r.p k a b)[j]? else a[j]?) ⟨ha.len, fun j => by simp⟩ (fun i y s hy hs => by
      have hi := (List.getElem?_eq_some_iff.1 hy).1
      rw [hb.len] at hi
      have hal := ha.len; have hbl := hb.len
      have hxa : a[i]? = some a[i] := List.getElem?_eq_getElem (by rw [ha.len]; exact hi)
      have bx := ha.bd a[i] (List.getElem_mem _); have by_ := hb.bd y (List.mem_of_getElem? hy)
      have hsi : s[i]? = some a[i] := by rw [hs.2, if_neg (Nat.lt_irrefl i), hxa]
      have hm := mul_sm hk (y := y) ⟨by omega, by omega⟩
      have w1 : wr (k * y) = k * y := wr_sm (by omega) (by omega)
      have w2 : wr (a[i] + k * y) = a[i] + k * y := wr_sm (by omega) (by omega)
      have w3 : (a[i] + k * y).tmod r.p = (a[i] + k * y) % r.p := Int.tmod_eq_emod_of_nonneg (by omega)
      have hil : i < s.length := by rw [hs.1]; exact hi
      have hpu : ∀ z, put s (i : Int) z = some (s.set i z) := fun z => put_ok hil
      simp only [ix_get, hsi, bd_some, nz_ok (show r.p ≠ 0 by omega), w1, w2, w3, hpu]
      refine ⟨_, rfl, by simp [hs.1], fun j => ?_⟩
      rw [List.getElem?_set]
      by_cases hij : i = j
      · subst hij
        rw [if_pos rfl, if_pos hil, if_pos (Nat.lt_succ_self i)]
        unfold vadd; rw [get_zip hxa hy]
      · rw [if_neg hij, hs.2]
        by_cases hlt2 : j < i
        · rw [if_pos hlt2, if_pos (Nat.lt_succ_of_lt hlt2)]
        · rw [if_neg hlt2, if_neg (fun h => by rcases Nat.lt_succ_iff_lt_or_eq.1 h with h | h; exact hlt2 h; exact hij h.symm)])
  rw [h1, bdR_go]
  have es : s = vadd r.p k a b := by
    apply List.ext_getElem?
    intro j
    rw [h2.2, hb.len]
    split
    · rfl
    · rw [List.getElem?_eq_none (by rw [ha.len]; omega), List.getElem?_eq_none (by rw [(vadd_Dn hp.1 ha.len hb.len).len]; omega)]
  rw [es]
end Go.PF
namespace Go.PF
open Go.Pu
open Go.La (vadd co)
theorem forL_sim {S X α σ : Type} {body : Nat → α → S → Option (Lp S X)} {F : σ → α → σ} (R : Nat → σ → S → Prop) {l : List α} {s : S} {t0 : σ} (h0 : R 0 t0 s)
    (hb : ∀ i x t s, l[i]? = some x → R i t s → ∃ s', body i x s = some (.nx s') ∧ R (i + 1) (F t x) s') : ∃ s', forL l body s = some (.go s') ∧ R l.length (l.foldl F t0) s' := by
  obtain ⟨s', h1, h2⟩ := forL_inv (X := X) (body := body) (fun i s => R i ((l.take i).foldl F t0) s) (l := l) (s := s) (by simpa using h0) (fun i x s hx hR => by
    obtain ⟨s', h1, h2⟩ := hb i x _ s hx hR
    refine ⟨s', h1, ?_⟩
    rw [List.take_add_one, hx]
    simpa using h2)
  rw [List.take_length] at h2
  exact ⟨s', h1, h2⟩
theorem bdR_sim {S X α σ β : Type} {body : Nat → α → S → Option (Lp S X)} {F : σ → α → σ} (R : Nat → σ → S → Prop) {l : List α} {s : S} {t0 : σ} {k : S → Option β} {lx : X → Option β} {r : Option β} (h0 : R 0 t0 s)
    (hb : ∀ i x t s, l[i]? = some x → R i t s → ∃ s', body i x s = some (.nx s') ∧ R (i + 1) (F t x) s') (hk : ∀ s', R l.length (l.foldl F t0) s' → k s' = r) : bdR (forL l body s) k lx = r := by
  obtain ⟨s', h1, h2⟩ := forL_sim R h0 hb
  rw [h1, bdR_go]; exact hk s' h2
theorem bd_of {α β : Type} {x : Option α} {k : α → Option β} {r : Option β} (y : α) (h : x = some y) (hk : k y = r) : bd x k = r := by rw [h]; exact hk
def ms (p : Int) (acc : List Int) (t u : Term) : List Int := acc.set (t.mono.toNat ||| u.mono.toNat) ((co acc (t.mono.toNat ||| u.mono.toNat) + t.coeff * u.coeff) % p)
def mulT (p : Int) (N : Nat) (A B : List Term) : List Int := A.foldl (fun acc t => B.foldl (fun acc u => ms p acc t u) acc) (zs N)
structure TOk (p : Int) (N : Nat) (t : Term) : Prop where
  m : ∃ j : Nat, j < N ∧ t.mono = ((j : Nat) : Int)
  c : 0 ≤ t.coeff ∧ t.coeff < p
theorem sp_TOk {p : Int} {N : Nat} {a : List Int} (h : Dn p N a) : ∀ t ∈ sp a, TOk p N t := fun t ht => by
  obtain ⟨j, h1, h2, h3⟩ := mem_sp ht
  exact ⟨⟨j, by rw [← h.len]; exact h1, h2⟩, h.bd _ h3⟩
theorem fu_TOk {p : Int} {N : Nat} {a : List Int} (h : Dn p N a) : ∀ t ∈ fu a, TOk p N t := fun t ht => by
  obtain ⟨j, _, h2, h3, h4⟩ := mem_fuF ht
  exact ⟨⟨j, by rw [← h.len]; omega, h3⟩, h.bd _ h4⟩
theorem co_bd {p : Int} {N : Nat} {a : List Int} (hp : 1 < p) (h : Dn p N a) (m : Nat) : 0 ≤ co a m ∧ co a m < p := by
  by_cases hm : m < a.length
  · exact h.bd _ (List.mem_of_getElem? (Go.La.co_eq hm))
  · rw [Go.La.co_ge (by omega)]; omega
theorem ms_Dn {p : Int} {N : Nat} {acc : List Int} {t u : Term} (hp : 1 < p) (h : Dn p N acc) : Dn p N (ms p acc t u) :=
  ⟨by unfold ms; rw [List.length_set, h.len], fun x hx => by
    unfold ms at hx
    rcases List.mem_or_eq_of_mem_set hx with hx | rfl
    · exact h.bd x hx
    · exact ⟨Int.emod_nonneg _ (by omega), Int.emod_lt_of_pos _ (by omega)⟩⟩
theorem ms_in {p : Int} {N : Nat} {t : Term} (hp : 1 < p) : ∀ {B : List Term} {acc : List Int}, Dn p N acc → Dn p N (B.foldl (fun acc u => ms p acc t u) acc)
  | [], _, h => h
  | u :: B, acc, h => ms_in hp (B := B) (ms_Dn hp h)
theorem ms_out {p : Int} {N : Nat} {B : List Term} (hp : 1 < p) : ∀ {A : List Term} {acc : List Int}, Dn p N acc → Dn p N (A.foldl (fun acc t => B.foldl (fun acc u => ms p acc t u) acc) acc)
  | [], _, h => h
  | t :: A, acc, h => ms_out hp (A := A) (ms_in hp h)
theorem mulT_Dn {p : Int} {N : Nat} (hp : 1 < p) (A B : List Term) : Dn p N (mulT p N A B) := ms_out hp (zs_Dn hp)
theorem ms_zero {p : Int} {N : Nat} {acc : List Int} {t u : Term} (hp : 1 < p) (h : Dn p N acc) (hz : t.coeff * u.coeff = 0) : ms p acc t u = acc := by
  unfold ms
  generalize t.mono.toNat ||| u.mono.toNat = m
  have hb := co_bd hp h m
  rw [hz, Int.add_zero, Int.emod_eq_of_lt hb.1 hb.2]
  apply List.ext_getElem?
  intro j
  rw [List.getElem?_set]
  by_cases hj : m = j
  · subst hj
    rw [if_pos rfl]
    by_cases hm : m < acc.length
    · rw [if_pos hm, Go.La.co_eq hm]
    · rw [if_neg hm, List.getElem?_eq_none (by omega)]
  · rw [if_neg hj]
theorem foldl_filter_id {α β : Type} {f : β → α → β} {q : α → Bool} {I : β → Prop} (hI : ∀ b a, I b → I (f b a)) : ∀ {l : List α} {b : β}, I b → (∀ b a, I b → a ∈ l → q a = false → f b a = b) → (l.filter q).foldl f b = l.foldl f b
  | [], _, _, _ => rfl
  | a :: l, b, hb, h => by
    rw [List.foldl_cons, List.filter_cons]
    cases hq : q a with
    | true =>
      simp only [if_true, List.foldl_cons]
      exact foldl_filter_id hI (hI b a hb) fun b a hb ha => h b a hb (by simp [ha])
    | false =>
      rw [h b a hb (by simp) hq]
      exact foldl_filter_id hI hb fun b a hb ha => h b a hb (by simp [ha])
theorem mulT_fu {p : Int} {N : Nat} (hp : 1 < p) (a b : List Int) : mulT p N (fu a) (fu b) = mulT p N (sp a) (sp b) := by
  have h1 : ∀ (t : Term) (acc : List Int), Dn p N acc → (sp b).foldl (fun acc u => ms p acc t u) acc = (fu b).foldl (fun acc u => ms p acc t u) acc := fun t acc h => by
    unfold sp; rw [spF_filter]
    exact foldl_filter_id (I := Dn p N) (fun _ _ h => ms_Dn hp h) h fun b u hb _ hq => ms_zero hp hb (by rw [show u.coeff = 0 by simpa using hq, Int.mul_zero])
  have h2 : ∀ (A : List Term) (acc : List Int), Dn p N acc → A.foldl (fun acc t => (sp b).foldl (fun acc u => ms p acc t u) acc) acc = A.foldl (fun acc t => (fu b).foldl (fun acc u => ms p acc t u) acc) acc := by
    intro A
    induction A with
    | nil => intro acc _; rfl
    | cons t A ih => intro acc h; simp only [List.foldl_cons]; rw [h1 t acc h]; exact ih _ (ms_in hp h)
  unfold mulT
  rw [h2 _ _ (zs_Dn hp)]
  conv => rhs; unfold sp; rw [spF_filter]
  refine (foldl_filter_id (I := Dn p N) (fun _ _ h => ms_in hp h) (zs_Dn hp) fun acc t hb _ hq => ?_).symm
  have hz : t.coeff = 0 := by simpa using hq
  have : ∀ (B : List Term), B.foldl (fun acc u => ms p acc t u) acc = acc := by
    intro B
    induction B with
    | nil => rfl
    | cons u B ih => rw [List.foldl_cons, ms_zero hp hb (by rw [hz]; simp)]; exact ih
  exact this _
theorem mul_round {p : Int} {v : Int} (h : PV p v) {t u : Term} (ht : TOk p (nN v) t) (hu : TOk p (nN v) u) {s : List Int} (hs : Dn p (nN v) s) :
    bd (ix s (orK true 64 t.mono u.mono)) (fun x => bd (nz p) (fun _ => bd (ix s (orK true 64 t.mono u.mono)) (fun _ => bd (put s (orK true 64 t.mono u.mono) ((wr (x + (wr (t.coeff * u.coeff)))).tmod p)) (fun xs => some (Lp.nx (X := Empty) xs))))) = some (.nx (ms p s t u)) := by
  have hp := h.pos
  obtain ⟨i, hi, ei⟩ := ht.m; obtain ⟨j, hj, ej⟩ := hu.m
  obtain ⟨o1, o2⟩ := orK_nat (v := v.toNat) (by have := h.v6; omega) hi hj
  have hm : i ||| j < s.length := by rw [hs.len]; exact o2
  have hg : s[i ||| j]? = some (co s (i ||| j)) := Go.La.co_eq hm
  have hb := co_bd hp.1 hs (i ||| j)
  have hc := ht.c; have hd := hu.c
  have hx := mul_sm (k := t.coeff) (y := u.coeff) ⟨by omega, by omega⟩ ⟨by omega, by omega⟩
  have w1 : wr (t.coeff * u.coeff) = t.coeff * u.coeff := wr_sm (by omega) (by omega)
  have w2 : wr (co s (i ||| j) + t.coeff * u.coeff) = co s (i ||| j) + t.coeff * u.coeff := wr_sm (by omega) (by omega)
  have w3 : (co s (i ||| j) + t.coeff * u.coeff).tmod p = (co s (i ||| j) + t.coeff * u.coeff) % p := Int.tmod_eq_emod_of_nonneg (by omega)
  unfold ms
  rw [ei, ej, o1]
  simp only [ix_get, hg, bd_some, nz_ok (show p ≠ 0 by omega), w1, w2, w3, put_ok hm, Int.toNat_natCast]
theorem mul_inner {p v : Int} (h : PV p v) {t : Term} (ht : TOk p (nN v) t) {B : List Term} (hB : ∀ u ∈ B, TOk p (nN v) u) {s : List Int} (hs : Dn p (nN v) s)
    {f : Nat → Term → List Int → Option (Lp (List Int) Empty)} (hf : ∀ i u s, f i u s = bd (ix s (orK true 64 t.mono u.mono)) (fun x => bd (nz p) (fun _ => bd (ix s (orK true 64 t.mono u.mono)) (fun _ => bd (put s (orK true 64 t.mono u.mono) ((wr (x + (wr (t.coeff * u.coeff)))).tmod p)) (fun xs => some (Lp.nx xs)))))) :
    forL B f s = some (.go (B.foldl (fun acc u => ms p acc t u) s)) :=
  (forL_foldI (fun acc u => ms p acc t u) (l := B) (s := s) (fun _ s => Dn p (nN v) s) hs (fun i u s hu hs => ⟨by rw [hf]; exact mul_round h ht (hB u (List.mem_of_getElem? hu)) hs, ms_Dn h.pos.1 hs⟩)).1
theorem spec_l18Mul_eq {p v : Int} (h : PV p v) {A B : List Term} (hA : ∀ t ∈ A, TOk p (nN v) t) (hB : ∀ u ∈ B, TOk p (nN v) u) : spec_l18Mul p v A B = some (sp (mulT p (nN v) A B)) := by
  have hp := h.pos; have hN := nN_le h.v6
  unfold spec_l18Mul
  rw [nn_ok h.v0, bd_some, zs_mk h.v0 h.v6, bd_some]
  refine bdR_foldI (X := Empty) (fun acc t => B.foldl (fun acc u => ms p acc t u) acc) (fun _ s => Dn p (nN v) s) (zs_Dn hp.1) (fun i t s ht hs => ?_) (fun hI => ?_)
  · have htk := hA t (List.mem_of_getElem? ht)
    rw [mul_inner h htk hB hs (fun _ _ _ => rfl), bdR_go]
    exact ⟨rfl, ms_in hp.1 hs⟩
  · rw [spec_l18Sparse_eq (by omega) (by rw [hI.len]; unfold lim; omega), bd_some, map_tmod hI.bd]
    rfl
theorem forL_fu {S X : Type} {F : Int → Int → S → Option (Lp S X)} : ∀ {a : List Int} {i k : Nat} {s : S}, forLFrom (fun i y s => F ((i : Nat) : Int) y s) a i s = forLFrom (fun _ (t : Term) s => F t.mono t.coeff s) (fuF i a) k s
  | [], _, _, _ => rfl
  | x :: a, i, k, s => by
    simp only [fuF, forLFrom]
    cases F ((i : Nat) : Int) x s with
    | none => rfl
    | some q =>
      cases q with
      | nx s' => exact forL_fu
      | bk s' => rfl
      | rt x => rfl
theorem impl_times_eq {r : ring} (h : PV r.p r.vars) {a b : List Int} (ha : Dn r.p (nN r.vars) a) (hb : Dn r.p (nN r.vars) b) : impl_ring_times r a b = some (mulT r.p (nN r.vars) (sp a) (sp b)) := by
  have hp := h.pos
  unfold impl_ring_times
  rw [impl_zero_eq h, bd_some, ← mulT_fu hp.1]
  unfold forL
  refine Eq.trans (congrArg (fun z => bdR z _ _) (forL_fu (X := Empty) (k := 0) (F := fun m y s40 => bdR (forLFrom (S := (List Int)) (X := Empty) (fun i252331 y252330 s252331 => bd (ix s252331 (orK true 64 m ((i252331 : Nat) : Int))) (fun x405448 => bd (nz r.p) (fun u429443 => bd (ix s252331 (orK true 64 m ((i252331 : Nat) : Int))) (fun x432448 => bd (put s252331 (orK true 64 m ((i252331 : Nat) : Int)) ((wr (x405448 + (wr (y * y252330)))).tmod r.p)) (fun xs435445 => some (Lp.nx xs435445)))))) b 0 s40) (fun s252331 => some (Lp.nx s252331)) (fun x252331 => nomatch x252331)))) ?_
  refine bdR_foldI (X := Empty) (fun acc t => (fu b).foldl (fun acc u => ms r.p acc t u) acc) (l := fu a) (fun _ s => Dn r.p (nN r.vars) s) (zs_Dn hp.1) (fun i t s ht hs => ?_) (fun hI => rfl)
  have htk := fu_TOk ha t (List.mem_of_getElem? ht)
  have e2 := forL_fu (X := Empty) (a := b) (i := 0) (s := s) (k := 0) (F := fun m y s252331 => bd (ix s252331 (orK true 64 t.mono m)) (fun x405448 => bd (nz r.p) (fun u429443 => bd (ix s252331 (orK true 64 t.mono m)) (fun x432448 => bd (put s252331 (orK true 64 t.mono m) ((wr (x405448 + (wr (t.coeff * y)))).tmod r.p)) (fun xs435445 => some (Lp.nx xs435445))))))
  have := mul_inner h htk (fu_TOk hb) hs (f := fun _ (u : Term) s252331 => bd (ix s252331 (orK true 64 t.mono u.mono)) (fun x405448 => bd (nz r.p) (fun u429443 => bd (ix s252331 (orK true 64 t.mono u.mono)) (fun x432448 => bd (put s252331 (orK true 64 t.mono u.mono) ((wr (x405448 + (wr (t.coeff * u.coeff)))).tmod r.p)) (fun xs435445 => some (Lp.nx xs435445)))))) (fun _ _ _ => rfl)
  unfold forL at this
  have e3 := e2.trans this
  refine ⟨?_, ms_in hp.1 hs⟩
  exact (congrArg (fun z => bdR z _ _) e3).trans rfl
def eD (N k : Nat) : List Int := (zs N).set k 1
def bt (u : Int) : Nat := nN (u - 1)
theorem bt_lt {u v : Int} (h1 : 1 ≤ u) (h2 : u ≤ v) : 1 ≤ bt u ∧ bt u < nN v := by
  unfold bt nN
  exact ⟨Nat.one_le_two_pow, Nat.pow_lt_pow_right (by decide) (by omega)⟩
theorem eD_Dn {p : Int} {N k : Nat} (hp : 1 < p) : Dn p N (eD N k) :=
  ⟨by simp [eD, zs], fun x hx => by
    unfold eD at hx
    rcases List.mem_or_eq_of_mem_set hx with hx | rfl
    · exact (zs_Dn hp).bd x hx
    · omega⟩
theorem spF_zero : ∀ {n i : Nat}, spF i (List.replicate n 0) = []
  | 0, _ => rfl
  | n + 1, i => by rw [List.replicate_succ]; simp only [spF, BEq.rfl, cond_true]; exact spF_zero
theorem spF_set {x : Int} (hx : x ≠ 0) : ∀ {n i k : Nat}, k < n → spF i ((List.replicate n 0).set k x) = [⟨((i + k : Nat) : Int), x⟩]
  | 0, _, _, h => by omega
  | n + 1, i, 0, _ => by
    rw [List.replicate_succ, List.set_cons_zero]
    simp only [spF, show (x == 0) = false by rw [beq_eq_false_iff_ne]; exact hx, cond_false, spF_zero, Nat.add_zero]
  | n + 1, i, k + 1, h => by
    rw [List.replicate_succ, List.set_cons_succ]
    simp only [spF, BEq.rfl, cond_true]
    rw [spF_set hx (show k < n by omega), show i + 1 + k = i + (k + 1) by omega]
theorem sp_eD {N k : Nat} (h : k < N) : sp (eD N k) = [⟨((k : Nat) : Int), 1⟩] := by
  unfold sp eD zs
  rw [spF_set (by decide) h, Nat.zero_add]
def litD (p : Int) (N : Nat) (l : Int) : List Int := bif decide (0 < l) then eD N (bt l) else vadd p (p - 1) (eD N 0) (eD N (bt (-l)))
theorem litD_Dn {p : Int} {N : Nat} (hp : 1 < p) (l : Int) : Dn p N (litD p N l) := by
  unfold litD
  cases decide (0 < l)
  · exact vadd_Dn hp (eD_Dn hp).len (eD_Dn hp).len
  · exact eD_Dn hp
theorem zip_set {p k : Int} (hp : 1 < p) (hk : 0 ≤ k ∧ k < p) : ∀ {n m : Nat}, List.zipWith (fun x y => (x + k * y) % p) (List.replicate n 0) ((List.replicate n 0).set m 1) = (List.replicate n 0).set m k
  | 0, m => by simp
  | n + 1, 0 => by
    rw [List.replicate_succ, List.set_cons_zero, List.set_cons_zero, List.zipWith_cons_cons]
    have e : (0 + k * 1) % p = k := by rw [Int.zero_add, Int.mul_one]; exact Int.emod_eq_of_lt hk.1 hk.2
    rw [e]
    congr 1
    rw [List.zipWith_replicate]
    simp
  | n + 1, m + 1 => by
    rw [List.replicate_succ, List.set_cons_succ, List.set_cons_succ, List.zipWith_cons_cons, zip_set hp hk]
    simp
theorem sp_lit_pos {p v u : Int} (h1 : 1 ≤ u) (h2 : u ≤ v) : sp (litD p (nN v) u) = [⟨((bt u : Nat) : Int), 1⟩] := by
  unfold litD
  rw [show decide (0 < u) = true from decide_eq_true (by omega), cond_true]
  exact sp_eD (bt_lt h1 h2).2
theorem sp_lit_neg {p v u : Int} (hp : 1 < p) (h1 : 1 ≤ u) (h2 : u ≤ v) : sp (litD p (nN v) (-u)) = [⟨0, 1⟩, ⟨((bt u : Nat) : Int), p - 1⟩] := by
  unfold litD
  rw [show decide (0 < -u) = false from decide_eq_false (by omega), cond_false, Int.neg_neg]
  obtain ⟨b1, b2⟩ := bt_lt h1 h2
  generalize nN v = N at b2 ⊢
  obtain ⟨n, rfl⟩ : ∃ n, N = n + 1 := ⟨N - 1, by omega⟩
  obtain ⟨m, hm⟩ : ∃ m, bt u = m + 1 := ⟨bt u - 1, by omega⟩
  rw [hm]
  have e : vadd p (p - 1) (eD (n + 1) 0) (eD (n + 1) (m + 1)) = 1 :: (List.replicate n 0).set m (p - 1) := by
    unfold vadd eD zs
    rw [List.replicate_succ, List.set_cons_zero, List.set_cons_succ, List.zipWith_cons_cons, zip_set hp ⟨by omega, by omega⟩]
    congr 1
    rw [Int.mul_zero, Int.add_zero]; exact Int.emod_eq_of_lt (by omega) hp
  rw [e]
  unfold sp
  simp only [spF, show ((1 : Int) == 0) = false from rfl, cond_false]
  rw [spF_set (by omega) (by omega), show 0 + 1 + m = m + 1 by omega]
  rfl
theorem impl_mono_eq {r : ring} (h : PV r.p r.vars) {k : Nat} (hk : k < nN r.vars) : impl_ring_mono r ((k : Nat) : Int) = some (eD (nN r.vars) k) := by
  unfold impl_ring_mono
  rw [impl_zero_eq h, bd_some, ix_get, show (zs (nN r.vars))[k]? = some 0 by unfold zs; rw [List.getElem?_replicate, if_pos hk], bd_some, put_ok (by simp [zs]; exact hk), bd_some]
  rfl
theorem shl_bt {u : Int} (h1 : 1 ≤ u) (h2 : u ≤ 6) : shlK true 64 1 (wr (u - 1)) = ((bt u : Nat) : Int) := by
  rw [wr_sm (by omega) (by omega)]
  exact shl_pow (by omega) (by omega)
theorem impl_literal_eq {r : ring} (h : PV r.p r.vars) {l : Int} (h0 : l ≠ 0) (h1 : -r.vars ≤ l) (h2 : l ≤ r.vars) : impl_ring_literal r l = some (litD r.p (nN r.vars) l) := by
  have hp := h.pos; have h6 := h.v6
  unfold impl_ring_literal litD
  cases hd : decide (0 < l) with
  | true =>
    have hl := of_decide_eq_true hd
    simp only [cond_true]
    rw [nn_ok (by rw [wr_sm (by omega) (by omega)]; omega), bd_some, shl_bt (by omega) (by omega), impl_mono_eq h (bt_lt (by omega) h2).2, bd_some]
  | false =>
    have hl := of_decide_eq_false hd
    have e : wr (-l) = -l := wr_sm (by omega) (by omega)
    have m0 : impl_ring_mono r 0 = some (eD (nN r.vars) 0) := impl_mono_eq h (k := 0) (by have := nN_le h.v6; omega)
    simp only [cond_false]
    rw [m0, bd_some, e, nn_ok (by rw [wr_sm (by omega) (by omega)]; omega), bd_some, shl_bt (u := -l) (by omega) (by omega), impl_mono_eq h (bt_lt (u := -l) (by omega) (by omega)).2, bd_some,
      wr_sm (show -1000000 ≤ r.p - 1 by omega) (by omega), impl_plus_eq h ⟨by omega, by omega⟩ (eD_Dn hp.1) (eD_Dn hp.1), bd_some]
def clD (p : Int) (N : Nat) (c : List Int) : List Int := c.foldl (fun acc l => mulT p N (sp acc) (sp (litD p N (-l)))) (eD N 0)
theorem clD_Dn {p : Int} {N : Nat} (hp : 1 < p) (c : List Int) : Dn p N (clD p N c) := by
  unfold clD
  have : ∀ (c : List Int) (a : List Int), Dn p N a → Dn p N (c.foldl (fun acc l => mulT p N (sp acc) (sp (litD p N (-l)))) a) := by
    intro c
    induction c with
    | nil => intro a h; exact h
    | cons l c ih => intro a h; exact ih _ (mulT_Dn hp _ _)
  exact this c _ (eD_Dn hp)
theorem IsC.lits {V : Int} {c : List Int} (h : IsC V c) : ∀ l ∈ c, -V ≤ l ∧ l ≤ V ∧ l ≠ 0 := fun l hl => by have := h.lit l hl; omega
theorem vr_nat {l : Int} (h1 : -12 ≤ l) (h2 : l ≤ 12) : vr l = bif decide (l < 0) then -l else l := by
  unfold vr
  rw [wr_sm (n := -l) (by omega) (by omega)]
theorem spec_l18Clause_eq {p v : Int} (h : PV p v) {c : List Int} (hc : IsC v c) : spec_l18Clause p v c = some (sp (clD p (nN v) c)) := by
  have hp := h.pos; have h6 := h.v6; have hN := nN_le h.v6
  unfold spec_l18Clause
  refine bdR_sim (X := Empty) (F := fun acc l => mulT p (nN v) (sp acc) (sp (litD p (nN v) (-l)))) (t0 := eD (nN v) 0) (fun _ t s => s = sp t ∧ Dn p (nN v) t) ⟨by rw [sp_eD (N := nN v) (k := 0) (by omega)]; rfl, eD_Dn hp.1⟩ (fun i l t s hl hs => ?_) (fun s' hs' => ?_)
  · obtain ⟨rfl, hD⟩ := hs
    have hlt := hc.lits l (List.mem_of_getElem? hl)
    have hv := vr_nat (l := l) (by omega) (by omega)
    refine ⟨_, ?_, rfl, mulT_Dn hp.1 _ _⟩
    simp only [spec_l2Var_eq]
    cases hd : decide (l < 0) with
    | true =>
      have hn := of_decide_eq_true hd
      rw [hd, cond_true] at hv
      rw [hv, nn_ok (by rw [wr_sm (by omega) (by omega)]; omega), bd_some, shl_bt (u := -l) (by omega) (by omega)]
      simp only [cond_true]
      rw [← sp_lit_pos (p := p) (v := v) (u := -l) (by omega) (by omega), spec_l18Mul_eq h (sp_TOk hD) (sp_TOk (litD_Dn hp.1 _)), bd_some]
    | false =>
      have hn := of_decide_eq_false hd
      rw [hd, cond_false] at hv
      rw [hv, nn_ok (by rw [wr_sm (by omega) (by omega)]; omega), bd_some, shl_bt (u := l) (by omega) (by omega), wr_sm (show -1000000 ≤ p - 1 by omega) (by omega)]
      simp only [cond_false]
      rw [← sp_lit_neg (p := p) (v := v) (u := l) hp.1 (by omega) (by omega), spec_l18Mul_eq h (sp_TOk hD) (sp_TOk (litD_Dn hp.1 _)), bd_some]
  · rw [hs'.1]; rfl
theorem impl_ring_clause_eq {r : ring} (h : PV r.p r.vars) {c : List Int} (hc : IsC r.vars c) : impl_ring_clause r c = some (clD r.p (nN r.vars) c) := by
  have hp := h.pos; have h6 := h.v6; have hN := nN_le h.v6
  unfold impl_ring_clause
  have m0 : impl_ring_mono r 0 = some (eD (nN r.vars) 0) := impl_mono_eq h (k := 0) (by omega)
  rw [m0, bd_some]
  refine bdR_foldI (X := Empty) (fun acc l => mulT r.p (nN r.vars) (sp acc) (sp (litD r.p (nN r.vars) (-l)))) (fun _ t => Dn r.p (nN r.vars) t) (eD_Dn hp.1) (fun i l t hl hD => ?_) (fun _ => rfl)
  have hlt := hc.lits l (List.mem_of_getElem? hl)
  rw [wr_sm (n := -l) (by omega) (by omega), impl_literal_eq h (by omega) (by omega) (by omega), bd_some, impl_times_eq h hD (litD_Dn hp.1 _), bd_some]
  exact ⟨rfl, mulT_Dn hp.1 _ _⟩
end Go.PF
namespace Go.PF
open Go.Pu
open Go.La (vadd co)
def gp (ps : List (List Int)) (k : Int) : List Int := (ps[k.toNat]?).getD []
def sumD (p : Int) (N : Nat) (a : List Int) (x : Int) (b : List Int) (y : Int) : List Int := vadd p y (vadd p x (zs N) a) b
theorem sumD_Dn {p x y : Int} {N : Nat} {a b : List Int} (hp : 1 < p) (ha : Dn p N a) (hb : Dn p N b) : Dn p N (sumD p N a x b y) := vadd_Dn hp (vadd_Dn hp (zs_Dn hp).len ha.len).len hb.len
abbrev WS := List (List Int) × List PcStep × Int
def wid (p : Int) (N : Nat) (s : WS) (l : Int) : WS :=
  bif decide (0 < l) then
    (s.1 ++ [mulT p N (sp (gp s.1 s.2.2)) (sp (litD p N (vr l)))] ++ [sumD p N (gp s.1 s.2.2) 1 (mulT p N (sp (gp s.1 s.2.2)) (sp (litD p N (vr l)))) (p - 1)],
     s.2.1 ++ [⟨3, sp (mulT p N (sp (gp s.1 s.2.2)) (sp (litD p N (vr l)))), s.2.2, 0, vr l, 0⟩] ++ [⟨2, sp (sumD p N (gp s.1 s.2.2) 1 (mulT p N (sp (gp s.1 s.2.2)) (sp (litD p N (vr l)))) (p - 1)), s.2.2, len s.2.1, 1, p - 1⟩],
     len s.2.1 + 1)
  else
    (s.1 ++ [mulT p N (sp (gp s.1 s.2.2)) (sp (litD p N (vr l)))],
     s.2.1 ++ [⟨3, sp (mulT p N (sp (gp s.1 s.2.2)) (sp (litD p N (vr l)))), s.2.2, 0, vr l, 0⟩],
     len s.2.1)
structure Ps (p : Int) (N : Nat) (ps : List (List Int)) (st : List PcStep) : Prop where
  len : ps.length = st.length
  dn : ∀ q ∈ ps, Dn p N q
  sp : ∀ (j : Nat) s q, st[j]? = some s → ps[j]? = some q → s.poly = sp q
theorem Ps.add {p : Int} {N : Nat} {ps : List (List Int)} {st : List PcStep} (h : Ps p N ps st) {q : List Int} {s : PcStep} (hq : Dn p N q) (hs : s.poly = PF.sp q) : Ps p N (ps ++ [q]) (st ++ [s]) := by
  refine ⟨by simp [h.len], fun z hz => ?_, fun j s' q' h1 h2 => ?_⟩
  · rcases List.mem_append.1 hz with hz | hz
    · exact h.dn z hz
    · rw [List.mem_singleton.1 hz]; exact hq
  · by_cases hj : j < st.length
    · rw [List.getElem?_append_left hj] at h1
      rw [List.getElem?_append_left (by rw [h.len]; exact hj)] at h2
      exact h.sp j s' q' h1 h2
    · rw [List.getElem?_append_right (by omega)] at h1
      rw [List.getElem?_append_right (by rw [h.len]; omega), h.len] at h2
      generalize j - st.length = i at h1 h2
      cases i with
      | zero => simp at h1 h2; rw [← h1, ← h2]; exact hs
      | succ i => simp at h1
theorem Ps.at {p : Int} {N : Nat} {ps : List (List Int)} {st : List PcStep} (h : Ps p N ps st) {k : Int} (h0 : 0 ≤ k) (h1 : k < st.length) :
    ix ps k = some (gp ps k) ∧ Dn p N (gp ps k) ∧ ∃ s, ix st k = some s ∧ s.poly = PF.sp (gp ps k) := by
  obtain ⟨q, hq, hg⟩ := ix_of (xs := ps) h0 (by rw [h.len]; exact h1)
  obtain ⟨s, hs, hg2⟩ := ix_of (xs := st) h0 h1
  have e : gp ps k = q := by unfold gp; rw [hg]; rfl
  rw [e]
  exact ⟨hq, h.dn q (List.mem_of_getElem? hg), s, hs, h.sp _ s q hg2 hg⟩
structure Wo (p : Int) (N L n : Nat) (s : WS) : Prop where
  ps : Ps p N s.1 s.2.1
  now0 : 0 ≤ s.2.2
  now1 : s.2.2 < s.2.1.length
  lo : L ≤ s.2.1.length
  hi : s.2.1.length ≤ L + 2 * n
  ex : n = 0 ∨ (L : Int) ≤ s.2.2
theorem gp_app {p : Int} {N : Nat} {ps : List (List Int)} {st : List PcStep} (h : Ps p N ps st) {k : Int} (h0 : 0 ≤ k) (h1 : k < st.length) (q : List Int) : gp (ps ++ [q]) k = gp ps k := by
  unfold gp
  rw [List.getElem?_append_left (by rw [h.len]; omega)]
theorem gp_last {ps : List (List Int)} {st : List PcStep} (h : ps.length = st.length) (q : List Int) : gp (ps ++ [q]) (len st) = q := by
  unfold gp
  rw [len_eq, Int.toNat_natCast, List.getElem?_append_right (by omega), h]
  simp
theorem wid_Wo {p v : Int} (h : PV p v) {L n : Nat} {s : WS} (hw : Wo p (nN v) L n s) (l : Int) : Wo p (nN v) L (n + 1) (wid p (nN v) s l) := by
  have hp := h.pos
  have ha := (hw.ps.at hw.now0 hw.now1).2.1
  have ht := mulT_Dn (p := p) (N := nN v) hp.1 (sp (gp s.1 s.2.2)) (sp (litD p (nN v) (vr l)))
  have p1 := hw.ps.add (s := ⟨3, sp (mulT p (nN v) (sp (gp s.1 s.2.2)) (sp (litD p (nN v) (vr l)))), s.2.2, 0, vr l, 0⟩) ht rfl
  have h1 := hw.now0; have h2 := hw.now1; have h3 := hw.lo; have h4 := hw.hi
  unfold wid
  cases decide (0 < l) with
  | false => exact ⟨p1, by show (0 : Int) ≤ len s.2.1; rw [len_eq]; omega, by show len s.2.1 < ((s.2.1 ++ [_]).length : Int); rw [len_eq]; simp; omega, by simp; omega, by simp; omega, .inr (by rw [cond_false, len_eq]; simp; omega)⟩
  | true =>
    have p2 := p1.add (s := ⟨2, sp (sumD p (nN v) (gp s.1 s.2.2) 1 (mulT p (nN v) (sp (gp s.1 s.2.2)) (sp (litD p (nN v) (vr l)))) (p - 1)), s.2.2, len s.2.1, 1, p - 1⟩) (sumD_Dn hp.1 ha ht) rfl
    exact ⟨p2, by rw [cond_true, len_eq]; simp; omega, by rw [cond_true, len_eq]; simp, by simp; omega, by simp; omega, .inr (by rw [cond_true, len_eq]; simp; omega)⟩
theorem spec_l20Times_eq {p v : Int} (h : PV p v) {a : List Int} (ha : Dn p (nN v) a) {u : Int} (h1 : 1 ≤ u) (h2 : u ≤ v) : spec_l20Times p v (sp a) u = some (sp (mulT p (nN v) (sp a) (sp (litD p (nN v) u)))) := by
  have h6 := h.v6
  unfold spec_l20Times
  rw [nn_ok (by rw [wr_sm (by omega) (by omega)]; omega), bd_some, shl_bt h1 (by omega), ← sp_lit_pos (p := p) h1 h2, spec_l18Mul_eq h (sp_TOk ha) (sp_TOk (litD_Dn h.pos.1 _)), bd_some]
theorem spec_l20Sum_eq {p v x y : Int} (h : PV p v) (hx : 0 ≤ x ∧ x ≤ 5) (hy : 0 ≤ y ∧ y ≤ 5) {a b : List Int} (ha : Dn p (nN v) a) (hb : Dn p (nN v) b) : spec_l20Sum p v (sp a) x (sp b) y = some (sp (sumD p (nN v) a x b y)) := by
  have hp := h.pos
  unfold spec_l20Sum
  rw [spec_l18Add_dense h hx (spec_l18Dense_nil h.v0 h.v6) (spec_l18Dense_eq h.v0 h.v6 ha.len) (zs_Dn hp.1) ha, bd_some, spec_l18Add_eq h hy (vadd_Dn hp.1 (zs_Dn hp.1).len ha.len) hb, bd_some]
  rfl
theorem spec_wid_loop {p v : Int} (h : PV p v) {L : Nat} (hL : L ≤ 100000) {fr c : List Int} {but : Int} (hc : IsC v c) {s0 : WS} (hw : Wo p (nN v) L 0 s0) {β : Type} {k : List PcStep × Int → Option β} {lx : Empty → Option β} {r : Option β}
    {f : Nat → Int → List PcStep × Int → Option (Lp (List PcStep × Int) Empty)}
    (hf : ∀ i y s, f i y s = bif (bif fr.contains y then true else (vr y == but)) then some (Lp.nx s) else bd (ix s.1 s.2) fun x => bd (PF.spec_l20Times p v x.poly (vr y)) fun t => bd (app s.1 [(PcStep.mk 3 t s.2 0 (vr y) 0)]) fun xs =>
      (bif (decide (0 < y)) then bd (PF.spec_l20Sum p v x.poly 1 t (wr (p - 1))) (fun q => bd (app xs [(PcStep.mk 2 q s.2 (wr ((len xs) - 1)) 1 (wr (p - 1)))]) (fun ys => some (Lp.nx (ys, (wr ((len ys) - 1)))))) else some (Lp.nx (xs, (wr ((len xs) - 1))))))
    (hk : Wo p (nN v) L ((c.filter fun y => !(bif fr.contains y then true else (vr y == but))).length) ((c.filter fun y => !(bif fr.contains y then true else (vr y == but))).foldl (wid p (nN v)) s0) →
      k (((c.filter fun y => !(bif fr.contains y then true else (vr y == but))).foldl (wid p (nN v)) s0).2) = r) : bdR (forL c f s0.2) k lx = r := by
  have hp := h.pos; have h6 := h.v6
  have hcl := hc.len
  have key : ∀ (m : List Int) (i n : Nat) (t : WS), (∀ y ∈ m, y ∈ c) → n + m.length ≤ 12 → Wo p (nN v) L n t → ∃ n', n' = n + (m.filter fun y => !(bif fr.contains y then true else (vr y == but))).length ∧
      forLFrom f m i t.2 = some (.go ((m.filter fun y => !(bif fr.contains y then true else (vr y == but))).foldl (wid p (nN v)) t).2) ∧ Wo p (nN v) L n' ((m.filter fun y => !(bif fr.contains y then true else (vr y == but))).foldl (wid p (nN v)) t) := by
    intro m
    induction m with
    | nil => intro i n t _ _ ht; exact ⟨n, by simp, rfl, ht⟩
    | cons y m ih =>
      intro i n t hm hn ht
      simp only [List.length_cons] at hn
      rw [List.filter_cons]
      cases hq : (bif fr.contains y then true else (vr y == but)) with
      | true =>
        rw [forLFrom_nx (s' := t.2) (by rw [hf, hq]; rfl)]
        exact ih (i + 1) n t (fun z hz => hm z (by simp [hz])) (by omega) ht
      | false =>
        have hy := hc.lits y (hm y (by simp))
        have hv := vr_nat (l := y) (by omega) (by omega)
        have hv1 : 1 ≤ vr y ∧ vr y ≤ v := by
          rw [hv]
          cases hd : decide (y < 0) with
          | true => have := of_decide_eq_true hd; simp only [cond_true]; omega
          | false => have := of_decide_eq_false hd; simp only [cond_false]; omega
        obtain ⟨_, ha, s, hs, hsp⟩ := ht.ps.at ht.now0 ht.now1
        have h4 := ht.hi
        have hD := mulT_Dn (p := p) (N := nN v) hp.1 (sp (gp t.1 t.2.2)) (sp (litD p (nN v) (vr y)))
        have step : f i y t.2 = some (.nx (wid p (nN v) t y).2) := by
          rw [hf, hq]
          simp only [cond_false]
          rw [hs, bd_some, hsp, spec_l20Times_eq h ha hv1.1 hv1.2, bd_some, app_ok (by simp; unfold lim; omega), bd_some]
          unfold wid
          have wp : wr (p - 1) = p - 1 := wr_sm (by omega) (by omega)
          cases decide (0 < y) with
          | true =>
            simp only [cond_true]
            rw [wp, spec_l20Sum_eq h ⟨by omega, by omega⟩ ⟨by omega, by omega⟩ ha hD, bd_some, app_ok (by simp; unfold lim; omega), bd_some]
            rw [wr_sm (show -1000000 ≤ len (t.2.1 ++ [_]) - 1 by rw [len_eq]; simp <;> omega) (by rw [len_eq]; simp <;> omega)]
            rw [wr_sm (show -1000000 ≤ len (t.2.1 ++ [_] ++ [_]) - 1 by rw [len_eq]; simp <;> omega) (by rw [len_eq]; simp <;> omega)]
            simp only [len_eq, List.length_append, List.length_singleton]
            congr 3
            · congr 1
              congr 1
              congr 1
              omega
            · omega
          | false =>
            simp only [cond_false]
            rw [wr_sm (show -1000000 ≤ len (t.2.1 ++ [_]) - 1 by rw [len_eq]; simp <;> omega) (by rw [len_eq]; simp <;> omega)]
            simp only [len_eq, List.length_append, List.length_singleton]
            congr 3
            omega
        rw [forLFrom_nx step]
        obtain ⟨n', e1, e2, e3⟩ := ih (i + 1) (n + 1) _ (fun z hz => hm z (by simp [hz])) (by omega) (wid_Wo h ht y)
        simp only [Bool.not_false, if_true, List.foldl_cons]
        exact ⟨n', by simp only [List.length_cons]; omega, e2, e3⟩
  obtain ⟨n', e1, e2, e3⟩ := key c 0 0 s0 (fun y h => h) (by omega) hw
  unfold forL
  rw [e2, bdR_go]
  rw [Nat.zero_add] at e1
  subst e1
  exact hk e3
abbrev TS := List Int × List (List Int) × List PcStep
def more (a b : List Int) : List Int := a.filter fun y => !b.contains y
def trS (p v : Int) (S : List ResStep) (w : TS) (x : ResStep) : TS :=
  bif decide (x.left < 0) then (w.1 ++ [len w.2.2], w.2.1 ++ [clD p (nN v) x.clause], w.2.2 ++ [⟨1, sp (clD p (nN v) x.clause), x.right, 0, 0, 0⟩])
  else bif decide (x.right < 0) then
    (bif len (more x.clause (clAt S x.left)) == 0 then
      (w.1 ++ [len w.2.2], w.2.1 ++ [sumD p (nN v) (gp w.2.1 (toA w.1 x.left)) 1 (gp w.2.1 (toA w.1 x.left)) 0], w.2.2 ++ [⟨2, sp (sumD p (nN v) (gp w.2.1 (toA w.1 x.left)) 1 (gp w.2.1 (toA w.1 x.left)) 0), toA w.1 x.left, toA w.1 x.left, 1, 0⟩])
    else (let r := (more x.clause (clAt S x.left)).foldl (wid p (nN v)) (w.2.1, w.2.2, toA w.1 x.left); (w.1 ++ [r.2.2], r.1, r.2.1)))
  else
    (let r1 := (without (more (clAt S x.right) (clAt S x.left)) x.pivot).foldl (wid p (nN v)) (w.2.1, w.2.2, toA w.1 x.left)
     let r2 := (without (more (clAt S x.left) (clAt S x.right)) x.pivot).foldl (wid p (nN v)) (r1.1, r1.2.1, toA w.1 x.right)
     (w.1 ++ [len r2.2.1], r2.1 ++ [sumD p (nN v) (gp r2.1 r1.2.2) 1 (gp r2.1 r2.2.2) 1], r2.2.1 ++ [⟨2, sp (sumD p (nN v) (gp r2.1 r1.2.2) 1 (gp r2.1 r2.2.2) 1), r1.2.2, r2.2.2, 1, 1⟩]))
structure To (p v : Int) (i : Nat) (w : TS) : Prop where
  len : w.1.length = i
  ps : Ps p (nN v) w.2.1 w.2.2
  le : w.2.2.length ≤ 60 * i
  inr : ∀ k ∈ w.1, 0 ≤ k ∧ k < w.2.2.length
theorem To.to {p v : Int} {i : Nat} {w : TS} (h : To p v i w) {k : Int} (h0 : 0 ≤ k) (h1 : k < i) : ix w.1 k = some (toA w.1 k) ∧ 0 ≤ toA w.1 k ∧ toA w.1 k < w.2.2.length := by
  obtain ⟨x, hx, hg⟩ := ix_of (xs := w.1) h0 (by rw [h.len]; exact h1)
  have e : toA w.1 k = x := by unfold toA; rw [hg]; rfl
  rw [e]
  exact ⟨hx, h.inr x (List.mem_of_getElem? hg)⟩
theorem To.wo {p v : Int} {i : Nat} {w : TS} (h : To p v i w) {k : Int} (h0 : 0 ≤ k) (h1 : k < w.2.2.length) : Wo p (nN v) w.2.2.length 0 (w.2.1, w.2.2, k) := ⟨h.ps, h0, h1, Nat.le_refl _, Nat.le_refl _, .inl rfl⟩
theorem Wo.re {p : Int} {N L n : Nat} {s : WS} (h : Wo p N L n s) {k : Int} (h0 : 0 ≤ k) (h1 : k < L) : Wo p N s.2.1.length 0 (s.1, s.2.1, k) := ⟨h.ps, h0, by have := h.lo; simp only; omega, Nat.le_refl _, Nat.le_refl _, .inl rfl⟩
theorem wids {p v : Int} (h : PV p v) : ∀ {ls : List Int} {L n : Nat} {s : WS}, Wo p (nN v) L n s → Wo p (nN v) L (n + ls.length) (ls.foldl (wid p (nN v)) s)
  | [], _, _, _, hs => hs
  | l :: ls, L, n, s, hs => by
    have := wids h (ls := ls) (wid_Wo h hs l)
    simp only [List.foldl_cons, List.length_cons]
    rwa [show n + (ls.length + 1) = n + 1 + ls.length by omega]
theorem without_le (c : List Int) (v : Int) : (without c v).length ≤ c.length := List.length_filter_le _ _
theorem more_le (a b : List Int) : (more a b).length ≤ a.length := List.length_filter_le _ _
theorem clAt_isC {F : Cnf} {S : List ResStep} (h : IsD F S) {k : Int} (h0 : 0 ≤ k) (h1 : k < S.length) : ∃ y, ix S k = some y ∧ y.clause = clAt S k ∧ IsC F.vars (clAt S k) := by
  obtain ⟨y, hy, hg⟩ := ix_of (xs := S) h0 h1
  have e : clAt S k = y.clause := by unfold clAt; rw [hg]
  exact ⟨y, hy, e.symm, by rw [e]; exact h.clause (List.mem_of_getElem? hg)⟩
theorem trS_ok {p : Int} {F : Cnf} {S : List ResStep} (h : PV p F.vars) (hD : IsD F S) {i : Nat} {x : ResStep} (hx : S[i]? = some x) {w : TS} (hw : To p F.vars i w) : To p F.vars (i + 1) (trS p F.vars S w x) := by
  have hp := h.pos
  have hi := (List.getElem?_eq_some_iff.1 hx).1
  have hle := hw.le
  have mk : ∀ (ps : List (List Int)) (st : List PcStep) (k : Int), Ps p (nN F.vars) ps st → w.2.2.length ≤ st.length → st.length ≤ 60 * (i + 1) → 0 ≤ k → k < st.length → To p F.vars (i + 1) (w.1 ++ [k], ps, st) := fun ps st k h1 h2 h3 h4 h5 =>
    ⟨by simp [hw.len], h1, h3, fun z hz => by
      rcases List.mem_append.1 hz with hz | hz
      · have := hw.inr z hz; simp only; omega
      · rw [List.mem_singleton.1 hz]; exact ⟨h4, h5⟩⟩
  unfold trS
  cases h1 : decide (x.left < 0) with
  | true => exact mk _ _ _ (hw.ps.add (clD_Dn hp.1 _) rfl) (by simp) (by simp; omega) (by rw [len_eq]; omega) (by rw [len_eq]; simp; omega)
  | false =>
    have hl : 0 ≤ x.left := by have := of_decide_eq_false h1; omega
    have hb := hD.before hx hl
    have t1 := hw.to hl hb.1
    simp only [cond_false]
    cases h2 : decide (x.right < 0) with
    | true =>
      simp only [cond_true]
      have hxc := (hD.clause (List.mem_of_getElem? hx)).len
      have a1 := (hw.ps.at t1.2.1 t1.2.2).2.1
      cases h3 : len (more x.clause (clAt S x.left)) == 0 with
      | true => exact mk _ _ _ (hw.ps.add (sumD_Dn hp.1 a1 a1) rfl) (by simp) (by simp; omega) (by rw [len_eq]; omega) (by rw [len_eq]; simp; omega)
      | false =>
        have hr := wids h (ls := more x.clause (clAt S x.left)) (hw.wo t1.2.1 t1.2.2)
        have hm := more_le x.clause (clAt S x.left)
        have hlo := hr.lo; have hhi := hr.hi
        exact mk _ _ _ hr.ps hlo (by omega) hr.now0 hr.now1
    | false =>
      have hr0 : 0 ≤ x.right := by have := of_decide_eq_false h2; omega
      have t2 := hw.to hr0 (hb.2 hr0)
      obtain ⟨_, _, _, c1⟩ := clAt_isC hD hl (by have := hb.1; omega)
      obtain ⟨_, _, _, c2⟩ := clAt_isC hD hr0 (by have := hb.2 hr0; omega)
      have n1 := c1.len; have n2 := c2.len
      simp only [cond_false]
      have r1 := wids h (ls := without (more (clAt S x.right) (clAt S x.left)) x.pivot) (hw.wo t1.2.1 t1.2.2)
      have r2 := wids h (ls := without (more (clAt S x.left) (clAt S x.right)) x.pivot) (r1.re t2.2.1 t2.2.2)
      have m1 := without_le (more (clAt S x.right) (clAt S x.left)) x.pivot; have m2 := more_le (clAt S x.right) (clAt S x.left)
      have m3 := without_le (more (clAt S x.left) (clAt S x.right)) x.pivot; have m4 := more_le (clAt S x.left) (clAt S x.right)
      generalize (without (more (clAt S x.right) (clAt S x.left)) x.pivot).foldl (wid p (nN F.vars)) (w.2.1, w.2.2, toA w.1 x.left) = q1 at r1 r2 ⊢
      generalize (without (more (clAt S x.left) (clAt S x.right)) x.pivot).foldl (wid p (nN F.vars)) (q1.1, q1.2.1, toA w.1 x.right) = q2 at r2 ⊢
      have l1 := r1.lo; have l2 := r1.hi; have l3 := r2.lo; have l4 := r2.hi
      have a1 := (r2.ps.at r1.now0 (by have := r1.now1; omega)).2.1
      have a2 := (r2.ps.at r2.now0 r2.now1).2.1
      exact mk _ _ _ (r2.ps.add (sumD_Dn hp.1 a1 a2) rfl) (by simp; omega) (by simp; omega) (by rw [len_eq]; omega) (by rw [len_eq]; simp; omega)
end Go.PF
namespace Go.PF
open Go.Pu
open Go.La (vadd co)
def trL (p v : Int) (S : List ResStep) : TS := S.foldl (trS p v S) ([], [], [])
theorem To.nil {p v : Int} : To p v 0 ([], [], []) := ⟨rfl, ⟨rfl, nofun, fun j s q h => by cases h⟩, Nat.le_refl _, nofun⟩
theorem filter_more {V : Int} {c fr : List Int} (hc : IsC V c) (hV : V ≤ 12) : (c.filter fun y => !(bif fr.contains y then true else (vr y == 0))) = more c fr := by
  unfold more
  refine List.filter_congr fun y hy => ?_
  have hl := hc.lits y hy
  have hv := vr_nat (l := y) (by omega) (by omega)
  have hz : (vr y == 0) = false := by
    rw [beq_eq_false_iff_ne, hv]
    cases hd : decide (y < 0) <;> simp only [cond_true, cond_false] <;> omega
  rw [hz]
  cases fr.contains y <;> rfl
theorem filter_without {c fr : List Int} {u : Int} : (c.filter fun y => !(bif fr.contains y then true else (vr y == u))) = without (more c fr) u := by
  unfold more without
  rw [List.filter_filter]
  refine List.filter_congr fun y hy => ?_
  cases fr.contains y <;> cases vr y == u <;> rfl
theorem pc_ln {st : List PcStep} {s : PcStep} (h : st.length ≤ 100000) : wr (len (st ++ [s]) - 1) = len st := by
  have e : len (st ++ [s]) = len st + 1 := by rw [len_eq, len_eq, List.length_append]; rfl
  have := len_eq st
  rw [e, wr_sm (by omega) (by omega)]; omega
theorem Wo.ge {p : Int} {N L n : Nat} {s : WS} (h : Wo p N L n s) (hn : n ≠ 0) : (L : Int) ≤ s.2.2 := h.ex.resolve_left hn
theorem spec_l21Translate_eq {p : Int} {F : Cnf} {S : List ResStep} (h : PV p F.vars) (hD : IsD F S) : spec_l21Translate p F S = some ⟨(trL p F.vars S).2.2, (trL p F.vars S).1⟩ := by
  have hS := hD.le; have hp := h.pos; have h6 := h.v6
  unfold spec_l21Translate
  refine bdR_sim (X := Empty) (F := trS p F.vars S) (t0 := ([], [], [])) (fun i t s => s = (t.1, t.2.2) ∧ To p F.vars i t) ⟨rfl, To.nil⟩ (fun i x t s hx hs => ?_) (fun s' hs' => ?_)
  · obtain ⟨rfl, hw⟩ := hs
    refine ⟨((trS p F.vars S t x).1, (trS p F.vars S t x).2.2), ?_, rfl, trS_ok h hD hx hw⟩
    have hi := (List.getElem?_eq_some_iff.1 hx).1
    have hc := hD.clause (List.mem_of_getElem? hx)
    have hcl := hc.len
    have l1 := hw.len; have l2 := hw.le
    have ap1 : ∀ k, app t.1 [k] = some (t.1 ++ [k]) := fun k => app_ok (by simp; unfold lim; omega)
    have apn : ∀ (st : List PcStep) s, st.length ≤ 100000 → app st [s] = some (st ++ [s]) := fun st s h => app_ok (by simp; unfold lim; omega)
    unfold trS
    cases h1 : decide (x.left < 0) with
    | true =>
      have hl : (x.left == -1) = true := by rw [beq_iff_eq]; have := of_decide_eq_true h1; have := hD.nums hx; omega
      simp only [hl, cond_true, spec_l18Clause_eq h hc, bd_some, apn t.2.2 _ (by omega), pc_ln (show t.2.2.length ≤ 100000 by omega), ap1]
    | false =>
      have hl0 : 0 ≤ x.left := by have := of_decide_eq_false h1; omega
      have hl : (x.left == -1) = false := by rw [beq_eq_false_iff_ne]; omega
      have hb := hD.before hx hl0
      have t1 := hw.to hl0 hb.1
      obtain ⟨y1, g1, g2, c1⟩ := clAt_isC hD hl0 (by have := hb.1; omega)
      cases h2 : decide (x.right < 0) with
      | true =>
        have hr : (x.right == -1) = true := by rw [beq_iff_eq]; have := of_decide_eq_true h2; have := hD.nums hx; omega
        simp only [hl, hr, cond_true, cond_false, t1.1, bd_some, g1]
        have wo := hw.wo t1.2.1 t1.2.2
        refine bd_of ((more x.clause (clAt S x.left)).foldl (wid p (nN F.vars)) (t.2.1, t.2.2, toA t.1 x.left)).2 ?_ ?_
        · refine spec_wid_loop h (L := t.2.2.length) (by omega) (fr := y1.clause) (but := 0) (s0 := (t.2.1, t.2.2, toA t.1 x.left)) hc wo (fun i y s => by rw [spec_l2Has_eq, bd_some]; rfl) (fun _ => ?_)
          rw [filter_more hc (by omega), g2]
        · have hr2 := wids h (ls := more x.clause (clAt S x.left)) wo
          cases hm : more x.clause (clAt S x.left) with
          | nil =>
            have l0 : (len ([] : List Int) == 0) = true := rfl
            simp only [List.foldl_nil, BEq.rfl, cond_true, l0]
            obtain ⟨_, ha, s, hs, hsp⟩ := hw.ps.at t1.2.1 t1.2.2
            have e : sumD p (nN F.vars) (gp t.2.1 (toA t.1 x.left)) 1 (gp t.2.1 (toA t.1 x.left)) 0 = gp t.2.1 (toA t.1 x.left) := by
              unfold sumD
              generalize gp t.2.1 (toA t.1 x.left) = a at ha
              have e1 : vadd p 1 (zs (nN F.vars)) a = a := by
                apply List.ext_getElem?
                intro j
                unfold vadd zs
                rw [List.getElem?_zipWith, List.getElem?_replicate]
                by_cases hj : j < nN F.vars
                · rw [if_pos hj, List.getElem?_eq_getElem (by rw [ha.len]; exact hj)]
                  have := ha.bd _ (List.getElem_mem (l := a) (n := j) (by rw [ha.len]; exact hj))
                  simp only [Int.zero_add, Int.one_mul, Int.emod_eq_of_lt this.1 this.2]
                · rw [if_neg hj, List.getElem?_eq_none (by rw [ha.len]; omega)]
              rw [e1]
              apply List.ext_getElem?
              intro j
              unfold vadd
              rw [List.getElem?_zipWith]
              cases hj : a[j]? with
              | none => rfl
              | some y =>
                have := ha.bd y (List.mem_of_getElem? hj)
                simp only [Int.zero_mul, Int.add_zero, Int.emod_eq_of_lt this.1 this.2]
            have hal : sp (gp t.2.1 (toA t.1 x.left)) = s.poly := hsp.symm
            have hsl : s.poly.length ≤ 64 := by
              rw [hsp]
              have : (sp (gp t.2.1 (toA t.1 x.left))).length ≤ (gp t.2.1 (toA t.1 x.left)).length := by
                unfold sp; rw [spF_filter]
                refine Nat.le_trans (List.length_filter_le _ _) (Nat.le_of_eq ?_)
                have : ∀ (a : List Int) (i : Nat), (fuF i a).length = a.length := by
                  intro a; induction a with
                  | nil => intro i; rfl
                  | cons z a ih => intro i; simp [fuF, ih]
                exact this _ _
              rw [ha.len] at this; have := nN_le h6; omega
            have hcp : spec_l20Terms s.poly = some s.poly := by unfold spec_l20Terms; rw [app_ok (by simp; unfold lim; omega)]; rfl
            simp only [hs, bd_some, hcp, apn t.2.2 _ (by omega), pc_ln (show t.2.2.length ≤ 100000 by omega), ap1, e, hal]
          | cons z zs_ =>
            rw [hm] at hr2
            have hge := hr2.ge (by simp)
            have hne : ((List.foldl (wid p (nN F.vars)) (t.2.1, t.2.2, toA t.1 x.left) (z :: zs_)).2.2 == toA t.1 x.left) = false := by rw [beq_eq_false_iff_ne]; have := t1.2.2; omega
            have hlz : (len (z :: zs_) == 0) = false := by rw [beq_eq_false_iff_ne, len_eq]; simp; omega
            simp only [hne, hlz, cond_false, ap1, bd_some]
      | false =>
        have hr0 : 0 ≤ x.right := by have := of_decide_eq_false h2; omega
        have hr : (x.right == -1) = false := by rw [beq_eq_false_iff_ne]; omega
        have t2 := hw.to hr0 (hb.2 hr0)
        obtain ⟨y2, k1, k2, c2⟩ := clAt_isC hD hr0 (by have := hb.2 hr0; omega)
        have n1 := c1.len; have n2 := c2.len
        simp only [hl, hr, cond_false, t1.1, t2.1, bd_some, g1, k1]
        have wo := hw.wo t1.2.1 t1.2.2
        have r1 := wids h (ls := without (more (clAt S x.right) (clAt S x.left)) x.pivot) wo
        have wo2 := r1.re t2.2.1 t2.2.2
        have r2 := wids h (ls := without (more (clAt S x.left) (clAt S x.right)) x.pivot) wo2
        have m1 := without_le (more (clAt S x.right) (clAt S x.left)) x.pivot; have m2 := more_le (clAt S x.right) (clAt S x.left)
        have m3 := without_le (more (clAt S x.left) (clAt S x.right)) x.pivot; have m4 := more_le (clAt S x.left) (clAt S x.right)
        refine bd_of ((without (more (clAt S x.right) (clAt S x.left)) x.pivot).foldl (wid p (nN F.vars)) (t.2.1, t.2.2, toA t.1 x.left)).2 ?_ ?_
        · refine spec_wid_loop h (L := t.2.2.length) (by omega) (fr := y1.clause) (but := x.pivot) (s0 := (t.2.1, t.2.2, toA t.1 x.left)) (by rw [k2]; exact c2) wo (fun i y s => by rw [spec_l2Has_eq, bd_some]; rfl) (fun _ => ?_)
          rw [filter_without, g2, k2]
        · generalize (without (more (clAt S x.right) (clAt S x.left)) x.pivot).foldl (wid p (nN F.vars)) (t.2.1, t.2.2, toA t.1 x.left) = q1 at r1 wo2 r2 ⊢
          have l3 := r1.lo; have l4 := r1.hi
          refine bd_of ((without (more (clAt S x.left) (clAt S x.right)) x.pivot).foldl (wid p (nN F.vars)) (q1.1, q1.2.1, toA t.1 x.right)).2 ?_ ?_
          · refine spec_wid_loop h (L := q1.2.1.length) (by omega) (fr := y2.clause) (but := x.pivot) (s0 := (q1.1, q1.2.1, toA t.1 x.right)) (by rw [g2]; exact c1) wo2 (fun i y s => by rw [spec_l2Has_eq, bd_some]; rfl) (fun _ => ?_)
            rw [filter_without, g2, k2]
          · generalize (without (more (clAt S x.left) (clAt S x.right)) x.pivot).foldl (wid p (nN F.vars)) (q1.1, q1.2.1, toA t.1 x.right) = q2 at r2 ⊢
            have l5 := r2.lo; have l6 := r2.hi
            obtain ⟨_, a1, s1, e1, p1⟩ := r2.ps.at r1.now0 (by have := r1.now1; omega)
            obtain ⟨_, a2, s2, e2, p2⟩ := r2.ps.at r2.now0 r2.now1
            simp only [e1, e2, bd_some, p1, p2, spec_l20Sum_eq h (x := 1) (y := 1) ⟨by omega, by omega⟩ ⟨by omega, by omega⟩ a1 a2, apn q2.2.1 _ (by omega), pc_ln (show q2.2.1.length ≤ 100000 by omega), ap1]
  · rw [hs'.1]; rfl
end Go.PF
namespace Go.PF
open Go.Pu
open Go.La (vadd co)
def pvB (p v : Int) : Bool := (p == 2 || p == 3 || p == 5) && inB v 0 6
theorem pvB_iff {p v : Int} : pvB p v = true ↔ PV p v := by
  unfold pvB
  rw [Bool.and_eq_true, Bool.or_eq_true, Bool.or_eq_true, beq_iff_eq, beq_iff_eq, beq_iff_eq, inB_iff]
  constructor
  · rintro ⟨h1, h2, h3⟩; exact ⟨by rcases h1 with (h | h) | h <;> omega, h2, h3⟩
  · rintro ⟨h1, h2, h3⟩; exact ⟨by rcases h1 with h | h | h <;> simp [h], h2, h3⟩
theorem bif_or (a b : Bool) : (bif a then true else b) = (a || b) := by cases a <;> rfl
theorem bif_and (a b : Bool) : (bif a then b else false) = (a && b) := by cases a <;> rfl
theorem spec_l18Prime_eq (p v : Int) : spec_l18Prime p v = pvB p v := by
  unfold spec_l18Prime pvB
  rw [spec_l1In_eq, bif_or, bif_or, bif_and]
theorem impl_ringOf_eq (p v : Int) : impl_ringOf p v = (⟨p, v⟩, pvB p v) := by
  unfold impl_ringOf pvB
  rw [impl_within_eq, bif_or, bif_or, bif_and]
def alg (p : Int) (F : Cnf) : algebra := ⟨⟨p, F.vars⟩, ⟨F.vars, F.clauses⟩, F.clauses.map fun c => clD p (nN F.vars) c⟩
def algB (p : Int) (F : Cnf) : Bool := pvB p F.vars && cnfB F
theorem cnf_bds {F : Cnf} (h : cnfB F = true) : F.clauses.length ≤ 60 ∧ ∀ c ∈ F.clauses, IsC F.vars c := by
  unfold cnfB at h
  rw [Bool.and_eq_true, Bool.and_eq_true, decide_eq_true_eq, List.all_eq_true, len_eq] at h
  exact ⟨by omega, fun c hc => clauseB_iff.1 (h.2 c hc)⟩
theorem impl_algebraOf_eq {p : Int} {F : Cnf} (hF : okCnf F) : impl_algebraOf p F = some (bif algB p F then (some (alg p F), true) else (none, false)) := by
  unfold impl_algebraOf algB
  rw [impl_ringOf_eq]
  cases h1 : pvB p F.vars with
  | false => rfl
  | true =>
    simp only [Bool.not_true, cond_false]
    rw [impl_IsCnf_eq hF, bd_some]
    cases h2 : cnfB F with
    | false => rfl
    | true =>
      have h := pvB_iff.1 h1
      obtain ⟨b1, b2⟩ := cnf_bds h2
      simp only [Bool.not_true, cond_false, bd_some, Bool.and_self, cond_true]
      refine bdR_sim (X := Empty) (F := fun (t : List (List Int)) c => t ++ [clD p (nN F.vars) c]) (t0 := []) (fun i t s => s = (t, p, F.vars, F.vars, F.clauses) ∧ t.length ≤ i ∧ t = (F.clauses.take i).map fun c => clD p (nN F.vars) c) ⟨rfl, Nat.le_refl _, rfl⟩ (fun i c t s hc hs => ?_) (fun s' hs' => ?_)
      · obtain ⟨rfl, hl, ht⟩ := hs
        have hi := (List.getElem?_eq_some_iff.1 hc).1
        refine ⟨(t ++ [clD p (nN F.vars) c], p, F.vars, F.vars, F.clauses), ?_, rfl, by simp; omega, ?_⟩
        · rw [impl_ring_clause_eq (r := ⟨p, F.vars⟩) h (b2 c (List.mem_of_getElem? hc)), bd_some]
          simp only
          rw [app_ok (by simp; unfold lim; omega), bd_some]
        · rw [List.take_add_one, hc, List.map_append, ← ht]; rfl
      · obtain ⟨rfl, _, ht⟩ := hs'
        rw [ht, List.take_length]; rfl
theorem spec_l20Asked_eq {p : Int} {F : Cnf} (hF : okCnf F) : spec_l20Asked p F = some (algB p F) := by
  unfold spec_l20Asked algB
  rw [spec_l18Prime_eq, spec_l2Good_eq hF, bd_some]
  cases pvB p F.vars <;> rfl
theorem impl_further_eq {a b : List Int} (hl : a.length ≤ lim) : impl_further a b = some (more a b) := by
  unfold impl_further more
  rw [slices_Clone_int_int_eq hl, bd_some, slices_DeleteFunc_int_int_eq (g := fun l => b.contains l) (fun y _ => by unfold impl_further_1; rw [slices_Contains_int_int_eq, bd_some]) hl, bd_some]
theorem impl_sum_eq {A : algebra} (h : PV A.ring.p A.ring.vars) {st : List PcStep} {ps : List (List Int)} {ats : List Int} (hP : Ps A.ring.p (nN A.ring.vars) ps st) (hl : st.length ≤ 50000) {a b x y : Int} (ha : 0 ≤ a ∧ a < st.length) (hb : 0 ≤ b ∧ b < st.length) (hx : 0 ≤ x ∧ x ≤ 5) (hy : 0 ≤ y ∧ y ≤ 5) :
    impl_translator_sum ⟨A, st, ps, ats⟩ a b x y = some (len st, ⟨A, st ++ [⟨2, sp (sumD A.ring.p (nN A.ring.vars) (gp ps a) x (gp ps b) y), a, b, x, y⟩], ps ++ [sumD A.ring.p (nN A.ring.vars) (gp ps a) x (gp ps b) y], ats⟩) := by
  have hp := h.pos; have hN := nN_le h.v6
  obtain ⟨i1, d1, _⟩ := hP.at ha.1 ha.2
  obtain ⟨i2, d2, _⟩ := hP.at hb.1 hb.2
  have d3 := vadd_Dn (p := A.ring.p) (k := x) hp.1 (zs_Dn hp.1 (N := nN A.ring.vars)).len d1.len
  have d4 := vadd_Dn (p := A.ring.p) (k := y) hp.1 d3.len d2.len
  unfold impl_translator_sum
  simp only
  rw [impl_zero_eq h, bd_some, i1, bd_some, impl_plus_eq h hx (zs_Dn hp.1) d1, bd_some, i2, bd_some, impl_plus_eq h hy d3 d2, bd_some, impl_terms_eq (by rw [d4.len]; unfold lim; omega), bd_some,
    app_ok (by simp; unfold lim; omega), bd_some, app_ok (by simp [hP.len]; unfold lim; omega), bd_some, bd_some, pc_ln (by omega)]
  rfl
theorem impl_widen_eq {A : algebra} (h : PV A.ring.p A.ring.vars) {ats : List Int} {ls : List Int} (hls : ∀ l ∈ ls, -A.ring.vars ≤ l ∧ l ≤ A.ring.vars ∧ l ≠ 0) (hn : ls.length ≤ 12) {L : Nat} (hL : L ≤ 40000) {s0 : WS} (hw : Wo A.ring.p (nN A.ring.vars) L 0 s0) :
    impl_translator_widen ⟨A, s0.2.1, s0.1, ats⟩ s0.2.2 ls = some ((ls.foldl (wid A.ring.p (nN A.ring.vars)) s0).2.2, ⟨A, (ls.foldl (wid A.ring.p (nN A.ring.vars)) s0).2.1, (ls.foldl (wid A.ring.p (nN A.ring.vars)) s0).1, ats⟩) := by
  have hp := h.pos; have h6 := h.v6; have hN := nN_le h.v6
  unfold impl_translator_widen
  refine bdR_sim (X := Empty) (F := wid A.ring.p (nN A.ring.vars)) (t0 := s0) (fun i t s => s = (t.2.1, t.1, t.2.2) ∧ Wo A.ring.p (nN A.ring.vars) L i t) ⟨rfl, hw⟩ (fun i l t s hl hs => ?_) (fun s' hs' => ?_)
  · obtain ⟨rfl, ht⟩ := hs
    have hi := (List.getElem?_eq_some_iff.1 hl).1
    refine ⟨((wid A.ring.p (nN A.ring.vars) t l).2.1, (wid A.ring.p (nN A.ring.vars) t l).1, (wid A.ring.p (nN A.ring.vars) t l).2.2), ?_, rfl, wid_Wo h ht l⟩
    have hlt := hls l (List.mem_of_getElem? hl)
    have hab : impl_abs l = vr l := impl_abs_eq ⟨by omega, by omega⟩
    have hv := vr_nat (l := l) (by omega) (by omega)
    have hv1 : 1 ≤ vr l ∧ vr l ≤ A.ring.vars := by
      rw [hv]
      cases hd : decide (l < 0) with
      | true => have := of_decide_eq_true hd; simp only [cond_true]; omega
      | false => have := of_decide_eq_false hd; simp only [cond_false]; omega
    obtain ⟨i1, ha, _⟩ := ht.ps.at ht.now0 ht.now1
    have h4 := ht.hi
    have hD := mulT_Dn (p := A.ring.p) (N := nN A.ring.vars) hp.1 (sp (gp t.1 t.2.2)) (sp (litD A.ring.p (nN A.ring.vars) (vr l)))
    have p1 := ht.ps.add (s := ⟨3, sp (mulT A.ring.p (nN A.ring.vars) (sp (gp t.1 t.2.2)) (sp (litD A.ring.p (nN A.ring.vars) (vr l)))), t.2.2, 0, vr l, 0⟩) hD rfl
    simp only [hab]
    rw [i1, bd_some, impl_literal_eq h (by omega) (by omega) hv1.2, bd_some, impl_times_eq h ha (litD_Dn hp.1 _), bd_some, impl_terms_eq (by rw [hD.len]; unfold lim; omega), bd_some,
      app_ok (by simp; unfold lim; omega), bd_some, app_ok (by simp [ht.ps.len]; unfold lim; omega), bd_some, bd_some, pc_ln (show t.2.1.length ≤ 100000 by omega)]
    simp only
    unfold wid
    have hn0 := ht.now0; have hn1 := ht.now1
    cases decide (0 < l) with
    | true =>
      simp only [cond_true]
      have e1 := gp_app ht.ps hn0 hn1 (mulT A.ring.p (nN A.ring.vars) (sp (gp t.1 t.2.2)) (sp (litD A.ring.p (nN A.ring.vars) (vr l))))
      have e2 := gp_last ht.ps.len (mulT A.ring.p (nN A.ring.vars) (sp (gp t.1 t.2.2)) (sp (litD A.ring.p (nN A.ring.vars) (vr l))))
      rw [wr_sm (show -1000000 ≤ A.ring.p - 1 by omega) (by omega), impl_sum_eq h p1 (by simp; omega) ⟨hn0, by simp; omega⟩ ⟨by rw [len_eq]; omega, by rw [len_eq]; simp <;> omega⟩ ⟨by omega, by omega⟩ ⟨by omega, by omega⟩, bd_some, e1, e2]
      congr 3
      congr 1
      rw [len_eq, len_eq]; simp
    | false => rfl
  · rw [hs'.1]
theorem alg_q {p : Int} {F : Cnf} {k : Int} (h0 : 0 ≤ k) (h1 : k < F.clauses.length) : ∃ c, F.clauses[k.toNat]? = some c ∧ ix (alg p F).q k = some (clD p (nN F.vars) c) := by
  obtain ⟨c, hc⟩ : ∃ c, F.clauses[k.toNat]? = some c := ⟨_, List.getElem?_eq_getElem (by omega)⟩
  refine ⟨c, hc, ?_⟩
  unfold ix alg
  rw [if_pos h0]
  simp [hc]
theorem ax_clause {F : Cnf} {S : List ResStep} (hD : IsD F S) {i : Nat} {x : ResStep} (hx : S[i]? = some x) (hl : x.left < 0) : 0 ≤ x.right ∧ x.right < F.clauses.length ∧ F.clauses[x.right.toNat]? = some x.clause := by
  have := hD.step i x hx
  unfold stepB at this
  rw [Bool.and_eq_true] at this
  have hn := hD.nums hx
  have hl1 : (x.left == -1) = true := by rw [beq_iff_eq]; omega
  rw [hl1] at this
  simp only [cond_true, Bool.and_eq_true] at this
  have ha := this.2.2
  unfold axB at ha
  rw [Bool.and_eq_true, inB_iff, len_eq] at ha
  refine ⟨ha.1.1, by omega, ?_⟩
  cases hc : F.clauses[x.right.toNat]? with
  | none => rw [hc] at ha; cases ha.2
  | some c => rw [hc] at ha; rw [eq_of_beq ha.2]
theorem impl_step_eq {p : Int} {F : Cnf} {S : List ResStep} (h : PV p F.vars) (hD : IsD F S) {i : Nat} {x : ResStep} (hx : S[i]? = some x) {w : TS} (hw : To p F.vars i w) :
    ∃ k, (trS p F.vars S w x).1 = w.1 ++ [k] ∧ impl_translator_step ⟨alg p F, w.2.2, w.2.1, w.1⟩ S x = some (k, ⟨alg p F, (trS p F.vars S w x).2.2, (trS p F.vars S w x).2.1, w.1⟩) := by
  have hS := hD.le; have hp := h.pos; have h6 := h.v6; have hN := nN_le h6
  have hi := (List.getElem?_eq_some_iff.1 hx).1
  have hc := hD.clause (List.mem_of_getElem? hx)
  have hcl := hc.len
  have l2 := hw.le
  have hA : PV (alg p F).ring.p (alg p F).ring.vars := h
  unfold trS impl_translator_step impl_ResStep_isAxiom impl_ResStep_isWeakening
  cases h1 : decide (x.left < 0) with
  | true =>
    obtain ⟨a1, a2, a3⟩ := ax_clause hD hx (of_decide_eq_true h1)
    obtain ⟨c, e1, e2⟩ := alg_q (p := p) (F := F) a1 a2
    rw [a3] at e1; cases e1
    refine ⟨len w.2.2, rfl, ?_⟩
    simp only [cond_true]
    rw [e2, bd_some, impl_terms_eq (by rw [(clD_Dn hp.1 x.clause).len]; unfold lim; omega), bd_some, app_ok (by simp; unfold lim; omega), bd_some, app_ok (by simp [hw.ps.len]; unfold lim; omega), bd_some, bd_some, pc_ln (by omega)]
  | false =>
    have hl0 : 0 ≤ x.left := by have := of_decide_eq_false h1; omega
    have hl : decide (0 ≤ x.left) = true := decide_eq_true hl0
    have hb := hD.before hx hl0
    have t1 := hw.to hl0 hb.1
    obtain ⟨y1, g1, g2, c1⟩ := clAt_isC hD hl0 (by have := hb.1; omega)
    have n1 := c1.len
    have wo := hw.wo t1.2.1 t1.2.2
    simp only [hl, cond_true, cond_false]
    cases h2 : decide (x.right < 0) with
    | true =>
      simp only [cond_true]
      rw [g1, bd_some, g2, impl_further_eq (by unfold lim; omega), bd_some, t1.1]
      simp only [bd_some]
      cases hm : len (more x.clause (clAt S x.left)) == 0 with
      | true =>
        refine ⟨len w.2.2, rfl, ?_⟩
        simp only [cond_true]
        rw [impl_sum_eq (A := alg p F) hA hw.ps (by omega) t1.2 t1.2 ⟨by omega, by omega⟩ ⟨by omega, by omega⟩, bd_some]
        rfl
      | false =>
        refine ⟨_, rfl, ?_⟩
        have hm2 := more_le x.clause (clAt S x.left)
        simp only [cond_false]
        have := impl_widen_eq (A := alg p F) hA (ats := w.1) (ls := more x.clause (clAt S x.left)) (fun l hl => hc.lits l (List.mem_filter.1 hl).1) (by omega) (by omega) wo
        simp only at this
        rw [this, bd_some]
        rfl
    | false =>
      have hr0 : 0 ≤ x.right := by have := of_decide_eq_false h2; omega
      have t2 := hw.to hr0 (hb.2 hr0)
      obtain ⟨y2, k1, k2, c2⟩ := clAt_isC hD hr0 (by have := hb.2 hr0; omega)
      have n2 := c2.len
      have m1 := without_le (more (clAt S x.right) (clAt S x.left)) x.pivot; have m2 := more_le (clAt S x.right) (clAt S x.left)
      have m3 := without_le (more (clAt S x.left) (clAt S x.right)) x.pivot; have m4 := more_le (clAt S x.left) (clAt S x.right)
      simp only [cond_false]
      refine ⟨_, rfl, ?_⟩
      rw [g1, bd_some, k1, bd_some, t1.1, bd_some, g2, k2, impl_further_eq (by unfold lim; omega), bd_some,
        impl_withoutVar_eq (fun y hy => by have := c2.lits y (List.mem_filter.1 hy).1; exact ⟨by omega, by omega⟩) (by unfold lim; omega), bd_some]
      have e1 := impl_widen_eq (A := alg p F) hA (ats := w.1) (ls := without (more (clAt S x.right) (clAt S x.left)) x.pivot) (fun l hl => c2.lits l (List.mem_filter.1 (List.mem_filter.1 hl).1).1) (by omega) (show w.2.2.length ≤ 40000 by omega) wo
      simp only at e1
      rw [e1, bd_some, t2.1, bd_some, impl_further_eq (by unfold lim; omega), bd_some,
        impl_withoutVar_eq (fun y hy => by have := c1.lits y (List.mem_filter.1 hy).1; exact ⟨by omega, by omega⟩) (by unfold lim; omega), bd_some]
      have r1 := wids h (ls := without (more (clAt S x.right) (clAt S x.left)) x.pivot) wo
      have wo2 := r1.re t2.2.1 t2.2.2
      have r2 := wids h (ls := without (more (clAt S x.left) (clAt S x.right)) x.pivot) wo2
      change impl_translator_widen _ _ _ = _ at e1
      simp only [show (alg p F).ring.p = p from rfl, show (alg p F).ring.vars = F.vars from rfl]
      generalize (without (more (clAt S x.right) (clAt S x.left)) x.pivot).foldl (wid p (nN F.vars)) (w.2.1, w.2.2, toA w.1 x.left) = q1 at r1 wo2 r2 ⊢
      have l3 := r1.lo; have l4 := r1.hi
      have e2 := impl_widen_eq (A := alg p F) hA (ats := w.1) (ls := without (more (clAt S x.left) (clAt S x.right)) x.pivot) (fun l hl => c1.lits l (List.mem_filter.1 (List.mem_filter.1 hl).1).1) (by omega) (show q1.2.1.length ≤ 40000 by omega) wo2
      simp only [show (alg p F).ring.p = p from rfl, show (alg p F).ring.vars = F.vars from rfl] at e2
      rw [e2, bd_some]
      generalize (without (more (clAt S x.left) (clAt S x.right)) x.pivot).foldl (wid p (nN F.vars)) (q1.1, q1.2.1, toA w.1 x.right) = q2 at r2 ⊢
      have l5 := r2.lo; have l6 := r2.hi
      rw [impl_sum_eq (A := alg p F) hA r2.ps (by omega) ⟨r1.now0, by have := r1.now1; omega⟩ ⟨r2.now0, r2.now1⟩ ⟨by omega, by omega⟩ ⟨by omega, by omega⟩, bd_some]
      rfl
def askB (p : Int) (F : Cnf) (S : List ResStep) : Bool := algB p F && derB F S
theorem spec_l21Asked_eq {p : Int} {F : Cnf} {S : List ResStep} (hF : okCnf F) (hS : okL okResStep S) : spec_l21Asked p F S = some (askB p F S) := by
  unfold spec_l21Asked askB
  rw [spec_l20Asked_eq hF, bd_some, spec_l7Good_eq hF hS, bd_some]
  cases algB p F <;> rfl
theorem askB_iff {p : Int} {F : Cnf} {S : List ResStep} (h : askB p F S = true) : PV p F.vars ∧ IsD F S := by
  unfold askB algB at h
  rw [Bool.and_eq_true, Bool.and_eq_true] at h
  exact ⟨pvB_iff.1 h.1.1, derB_iff.1 h.2⟩
theorem impl_translate_eq {p : Int} {F : Cnf} {S : List ResStep} (hF : okCnf F) (hS : okL okResStep S) :
    impl_translate p F S = some (bif askB p F S then (some ⟨alg p F, (trL p F.vars S).2.2, (trL p F.vars S).2.1, (trL p F.vars S).1⟩, true) else (none, false)) := by
  unfold impl_translate
  rw [impl_algebraOf_eq hF, bd_some]
  cases h1 : algB p F with
  | false => unfold askB; rw [h1]; rfl
  | true =>
    simp only [cond_true, Bool.not_true, cond_false]
    rw [impl_IsDerivation_eq hF hS, bd_some]
    cases h2 : derB F S with
    | false => unfold askB; rw [h1, h2]; rfl
    | true =>
      have ha : askB p F S = true := by unfold askB; rw [h1, h2]; rfl
      obtain ⟨h, hD⟩ := askB_iff ha
      have hle := hD.le
      rw [ha]
      simp only [Bool.not_true, cond_false, bd_some, cond_true]
      refine bdR_sim (X := Empty) (F := trS p F.vars S) (t0 := ([], [], [])) (fun i t s => s = t ∧ To p F.vars i t) ⟨rfl, To.nil⟩ (fun i x t s hx hs => ?_) (fun s' hs' => ?_)
      · obtain ⟨rfl, hw⟩ := hs
        have hi := (List.getElem?_eq_some_iff.1 hx).1
        obtain ⟨k, e1, e2⟩ := impl_step_eq h hD hx hw
        refine ⟨trS p F.vars S s x, ?_, rfl, trS_ok h hD hx hw⟩
        have l1 := hw.len
        rw [e2, bd_some]
        simp only
        rw [app_ok (by simp; unfold lim; omega), bd_some, ← e1]
      · rw [hs'.1]; rfl
end Go.PF
namespace Go.PF
open Go.Pu
def termB (p v : Int) (t : Term) : Bool := inB t.mono 0 (wr ((nN v : Nat) - 1)) && inB t.coeff 1 (wr (p - 1))
def polyB (p v : Int) (A : List Term) : Bool := A.all (termB p v) && adj (fun a b => decide (a.mono < b.mono)) A
theorem sp_of {p : Int} : ∀ (n i : Nat) (A : List Term), (∀ t ∈ A, (i : Int) ≤ t.mono ∧ t.mono < i + n ∧ 1 ≤ t.coeff ∧ t.coeff < p) → A.Pairwise (fun a b => a.mono < b.mono) → 0 < p →
    ∃ a : List Int, a.length = n ∧ (∀ x ∈ a, 0 ≤ x ∧ x < p) ∧ spF i a = A
  | 0, i, [], _, _, _ => ⟨[], rfl, nofun, rfl⟩
  | 0, i, t :: A, h, _, _ => by have := h t (by simp); omega
  | n + 1, i, [], h, hp, h0 => by
    obtain ⟨a, h1, h2, h3⟩ := sp_of n (i + 1) [] nofun .nil h0
    refine ⟨0 :: a, by simp [h1], fun x hx => ?_, by simp [spF, h3]⟩
    rcases List.mem_cons.1 hx with rfl | hx
    · omega
    · exact h2 x hx
  | n + 1, i, t :: A, h, hp, h0 => by
    obtain ⟨p1, p2⟩ := List.pairwise_cons.1 hp
    have ht := h t (by simp)
    by_cases hm : t.mono = i
    · obtain ⟨a, h1, h2, h3⟩ := sp_of n (i + 1) A (fun u hu => by have := h u (by simp [hu]); have := p1 u hu; omega) p2 h0
      refine ⟨t.coeff :: a, by simp [h1], fun x hx => ?_, ?_⟩
      · rcases List.mem_cons.1 hx with rfl | hx
        · omega
        · exact h2 x hx
      · have : (t.coeff == 0) = false := by rw [beq_eq_false_iff_ne]; omega
        simp only [spF, this, cond_false, h3, ← hm]
    · obtain ⟨a, h1, h2, h3⟩ := sp_of n (i + 1) (t :: A) (fun u hu => by
        have := h u hu
        rcases List.mem_cons.1 hu with rfl | hu
        · omega
        · have := p1 u hu; omega) hp h0
      refine ⟨0 :: a, by simp [h1], fun x hx => ?_, by simp [spF, h3]⟩
      rcases List.mem_cons.1 hx with rfl | hx
      · omega
      · exact h2 x hx
theorem polyB_sp {p v : Int} (h : PV p v) {A : List Term} (hA : polyB p v A = true) : ∃ a, Dn p (nN v) a ∧ sp a = A := by
  have hN := nN_le h.v6
  have hp := h.pos
  unfold polyB at hA
  rw [Bool.and_eq_true, List.all_eq_true] at hA
  obtain ⟨a, h1, h2, h3⟩ := sp_of (p := p) (nN v) 0 A (fun t ht => by
    have := hA.1 t ht
    unfold termB at this
    rw [Bool.and_eq_true, inB_iff, inB_iff, wr_of _ (by omega) (by omega), wr_of _ (by omega) (by omega)] at this
    omega) (adj_pairwise (fun a b c h1 h2 => by omega) (fun a b _ _ h => of_decide_eq_true h) hA.2) (by omega)
  exact ⟨a, ⟨h1, h2⟩, h3⟩
theorem bif_congr3 {β : Type} {c d : Bool} {x y u w : β} (h : c = d) (h1 : x = y) (h2 : u = w) : (bif c then x else u) = bif d then y else w := by rw [h, h1, h2]
theorem bif_congr4 {β : Type} {c : Bool} {x y u w : β} (h1 : c = true → x = y) (h2 : u = w) : (bif c then x else u) = bif c then y else w := by
  cases c with
  | true => exact h1 rfl
  | false => exact h2
theorem shl_sub {v : Int} (h0 : 0 ≤ v) (h6 : v ≤ 6) : wr (shlK true 64 1 v - 1) = wr ((nN v : Nat) - 1) := by rw [shl_pow h0 h6]
theorem poly_loop {p v : Int} {A : List Term} (hl : A.length ≤ 9223372036854775807) {body : Nat → Term → Unit → Option (Lp Unit Bool)}
    (hb : ∀ (i : Nat) y u, A[i]? = some y → body i y u = bd (bif !termB p v y then some true else bd (bif decide (0 < ((i : Nat) : Int)) then bd (ix A (wr (((i : Nat) : Int) - 1))) (fun x => some (decide (y.mono ≤ x.mono))) else some false) fun t => some t) fun t => bif t then some (.rt false) else some (.nx ())) :
    bdR (forL A body ()) (fun _ => some true) (fun x => some x) = some (polyB p v A) := by
  have hstep : ∀ (i : Nat) y, A[i]? = some y → body i y () = bif (!termB p v y || (decide (0 < i) && match A[i - 1]? with | some x => decide (y.mono ≤ x.mono) | none => false)) then some (.rt false) else some (.nx ()) := fun i y hy => by
    have hi := (List.getElem?_eq_some_iff.1 hy).1
    rw [hb i y () hy]
    cases termB p v y with
    | false => rfl
    | true =>
      cases i with
      | zero => rfl
      | succ i =>
        rw [show decide (0 < ((i + 1 : Nat) : Int)) = true by rw [decide_eq_true_eq]; omega, wr_of _ (by omega) (by omega), show (((i + 1 : Nat) : Int) - 1) = ((i : Nat) : Int) by omega, ix_get]
        obtain ⟨x, hx⟩ : ∃ x, A[i]? = some x := ⟨_, List.getElem?_eq_getElem (by omega)⟩
        rw [hx, Nat.add_sub_cancel, hx]
        simp
  rw [forL_any (p := fun i y => !termB p v y || (decide (0 < i) && match A[i - 1]? with | some x => decide (y.mono ≤ x.mono) | none => false)) (v := false) hstep,
    anyI_adj (q := fun y => !termB p v y) (r := fun a b => decide (a.mono < b.mono)) (fun y hy => by simp) (fun i x y hx hy => by
      simp only [Nat.add_sub_cancel, hx, Nat.zero_lt_succ, decide_true, Bool.true_and]
      congr 1
      rw [Bool.eq_iff_iff, decide_eq_true_eq, Bool.not_eq_true', decide_eq_false_iff_not]; omega)]
  unfold polyB
  simp only [Bool.not_not]
  cases A.all (termB p v) && adj (fun a b => decide (a.mono < b.mono)) A <;> rfl
theorem spec_l18Good_eq {p v : Int} (h : PV p v) {A : List Term} (hl : A.length ≤ 9223372036854775807) : spec_l18Good p v A = some (polyB p v A) := by
  unfold spec_l18Good
  rw [spec_l18Prime_eq, pvB_iff.2 h, Bool.not_true, cond_false]
  refine poly_loop hl fun i y u _ => ?_
  rw [nn_ok h.v0, bd_some, shl_sub h.v0 h.v6, spec_l1In_eq, spec_l1In_eq]
  unfold termB
  cases inB y.mono 0 (wr ((nN v : Nat) - 1)) <;> cases inB y.coeff 1 (wr (p - 1)) <;> rfl
theorem impl_ring_is_eq {p v : Int} (h : PV p v) {A : List Term} (hl : A.length ≤ 9223372036854775807) : impl_ring_is ⟨p, v⟩ A = some (polyB p v A) := by
  unfold impl_ring_is impl_bitsOk
  refine poly_loop hl fun i y u _ => ?_
  rw [nn_ok h.v0, bd_some, bd_some, shl_sub h.v0 h.v6, impl_within_eq, impl_within_eq]
  unfold termB
  cases inB y.mono 0 (wr ((nN v : Nat) - 1)) <;> cases inB y.coeff 1 (wr (p - 1)) <;> rfl
theorem dense_loop {p : Int} (hp : 1 < p ∧ p ≤ 5) {body : Nat → Term → List Int → Option (Lp (List Int) Empty)}
    (hb : ∀ i y s, body i y s = bd (ix s y.mono) fun x => bd (nz p) fun _ => bd (ix s y.mono) fun _ => bd (put s y.mono ((wr (x + y.coeff)).tmod p)) fun xs => some (Lp.nx xs)) :
    ∀ (a pre : List Int) (i : Nat), (∀ x ∈ a, 0 ≤ x ∧ x < p) → forLFrom body (spF pre.length a) i (pre ++ List.replicate a.length 0) = some (.go (pre ++ a)) := by
  intro a
  induction a with
  | nil => intro pre i _; simp [spF, forLFrom]
  | cons x a ih =>
    intro pre i ha
    have hx := ha x (by simp)
    by_cases h0 : x = 0
    · subst h0
      have := ih (pre ++ [0]) i (fun z hz => ha z (by simp [hz]))
      simp only [spF, BEq.rfl, cond_true]
      rw [List.length_append, List.length_singleton] at this
      rw [List.length_cons, List.replicate_succ]
      simpa using this
    · have hne : (x == 0) = false := by rw [beq_eq_false_iff_ne]; exact h0
      have hget : (pre ++ List.replicate (a.length + 1) 0)[pre.length]? = some (0 : Int) := by
        rw [List.getElem?_append_right (Nat.le_refl _), Nat.sub_self, List.replicate_succ]; rfl
      have e : body i ⟨((pre.length : Nat) : Int), x⟩ (pre ++ List.replicate (a.length + 1) 0) = some (.nx (pre ++ [x] ++ List.replicate a.length 0)) := by
        rw [hb, ix_get, hget, bd_some, nz_ok (by omega), bd_some, bd_some, put_ok (by simp), bd_some]
        show some (Lp.nx (List.set _ _ ((wr (0 + x)).tmod p))) = _
        rw [Int.zero_add, wr_of x (by omega) (by omega), tmod_small hx, List.set_append_right _ _ (Nat.le_refl _), Nat.sub_self, List.replicate_succ, List.set_cons_zero]
        simp
      simp only [spF, hne, cond_false, List.length_cons, forLFrom, e]
      have := ih (pre ++ [x]) (i + 1) (fun z hz => ha z (by simp [hz]))
      rw [List.length_append, List.length_singleton] at this
      rw [this]
      simp
theorem impl_ring_dense_eq {p v : Int} (h : PV p v) {a : List Int} (ha : Dn p (nN v) a) : impl_ring_dense ⟨p, v⟩ (sp a) = some a := by
  unfold impl_ring_dense
  rw [impl_zero_eq (r := ⟨p, v⟩) h, bd_some]
  have := dense_loop (p := p) h.pos (fun _ _ _ => rfl) a [] 0 ha.bd
  rw [List.nil_append, List.nil_append, ha.len, List.length_nil] at this
  unfold forL sp zs
  rw [this]; rfl
theorem sp_inj {p v : Int} (h : PV p v) {a b : List Int} (ha : Dn p (nN v) a) (hb : Dn p (nN v) b) (e : sp a = sp b) : a = b := by
  have h1 := spec_l18Dense_eq h.v0 h.v6 ha.len
  have h2 := spec_l18Dense_eq h.v0 h.v6 hb.len
  rw [e, h2] at h1
  exact (Option.some.inj h1).symm
open Classical in
noncomputable def dnT (p v : Int) (A : List Term) : List Int := if h : ∃ a, Dn p (nN v) a ∧ sp a = A then h.choose else []
theorem dnT_ok {p v : Int} (h : PV p v) {A : List Term} (hA : polyB p v A = true) : Dn p (nN v) (dnT p v A) ∧ sp (dnT p v A) = A := by
  have hx := polyB_sp h hA
  unfold dnT
  rw [dif_pos hx]
  exact hx.choose_spec
end Go.PF
namespace Go.PF
open Go.Pu
theorem term_ext {a b : Term} (h1 : a.mono = b.mono) (h2 : a.coeff = b.coeff) : a = b := by
  cases a; cases b; simp only at h1 h2; subst h1; subst h2; rfl
open Classical in
theorem spec_l20Same_eq (a b : List Term) : spec_l20Same a b = some (decide (a = b)) := by
  unfold spec_l20Same
  by_cases hl : a.length = b.length
  · rw [show (len a == len b) = true by rw [beq_iff_eq, len_eq, len_eq, hl], Bool.not_true, cond_false,
      forL_any (p := fun i y => match b[i]? with | some x => !((y.mono == x.mono) && (y.coeff == x.coeff)) | none => false) (v := false) (fun i y hy => by
        have hi := (List.getElem?_eq_some_iff.1 hy).1
        obtain ⟨x, hx⟩ : ∃ x, b[i]? = some x := ⟨_, List.getElem?_eq_getElem (by omega)⟩
        rw [ix_get, hx, bd_some])]
    by_cases he : a = b
    · subst he
      rw [show anyI (fun i y => match a[i]? with | some x => !((y.mono == x.mono) && (y.coeff == x.coeff)) | none => false) a 0 = false from anyI_false.2 fun i y hy => by rw [Nat.zero_add, hy]; simp]
      simp
    · rw [show anyI (fun i y => match b[i]? with | some x => !((y.mono == x.mono) && (y.coeff == x.coeff)) | none => false) a 0 = true by
        rw [← Bool.not_eq_false]
        intro hf
        refine he (List.ext_getElem? fun i => ?_)
        by_cases hi : i < a.length
        · have := anyI_false.1 hf i a[i] (List.getElem?_eq_getElem hi)
          rw [Nat.zero_add, List.getElem?_eq_getElem (show i < b.length by omega)] at this
          simp only [Bool.not_eq_false', Bool.and_eq_true, beq_iff_eq] at this
          rw [List.getElem?_eq_getElem hi, List.getElem?_eq_getElem (show i < b.length by omega), term_ext this.1 this.2]
        · rw [List.getElem?_eq_none (by omega), List.getElem?_eq_none (by omega)]]
      simp [he]
  · rw [show (len a == len b) = false by rw [beq_eq_false_iff_ne, len_eq, len_eq]; omega, Bool.not_false, cond_true]
    have : a ≠ b := fun e => hl (by rw [e])
    simp [this]
end Go.PF
namespace Go.PF
open Go.Pu
def okPs (S : List PcStep) : Prop := S.length ≤ 9223372036854775807 ∧ ∀ s ∈ S, s.poly.length ≤ 9223372036854775807
def pAt (S : List PcStep) (k : Int) : List Term := match S[k.toNat]? with | some y => y.poly | none => []
def preB (p v : Int) (S : List PcStep) (i : Nat) (k : Int) : Bool := inB k 0 ((i : Int) - 1) && polyB p v (pAt S k)
theorem pre_at {S : List PcStep} {i : Nat} {k : Int} (hi : i < S.length) (h : inB k 0 ((i : Int) - 1) = true) : ∃ y, ix S k = some y ∧ pAt S k = y.poly ∧ y ∈ S := by
  have := inB_iff.1 h
  obtain ⟨y, h1, h2⟩ := ix_of (xs := S) (i := k) (by omega) (by omega)
  exact ⟨y, h1, by unfold pAt; rw [h2], List.mem_of_getElem? h2⟩
theorem spec_l20Earlier_eq {p : Int} {F : Cnf} (h : PV p F.vars) {S : List PcStep} (hS : okPs S) {i : Nat} (hi : i < S.length) (k : Int) : spec_l20Earlier p F S (i : Int) k = some (preB p F.vars S i k) := by
  have := hS.1
  unfold spec_l20Earlier preB
  rw [spec_l1In_eq, wr_of _ (by omega) (by omega)]
  cases hk : inB k 0 ((i : Int) - 1) with
  | false => rfl
  | true =>
    obtain ⟨y, h1, h2, h3⟩ := pre_at hi hk
    simp only [cond_true, h1, bd_some, h2, spec_l18Good_eq h (hS.2 y h3), Bool.true_and]
theorem impl_polyBefore_eq {p : Int} {F : Cnf} (h : PV p F.vars) {S : List PcStep} (hS : okPs S) {i : Nat} (hi : i < S.length) (k : Int) :
    impl_algebra_polyBefore (alg p F) S (i : Int) k = some (bif preB p F.vars S i k then (dnT p F.vars (pAt S k), true) else ([], false)) := by
  have := hS.1
  unfold impl_algebra_polyBefore preB
  rw [impl_within_eq, wr_of _ (by omega) (by omega)]
  cases hk : inB k 0 ((i : Int) - 1) with
  | false => rfl
  | true =>
    obtain ⟨y, h1, h2, h3⟩ := pre_at hi hk
    have hr : (alg p F).ring = ⟨p, F.vars⟩ := rfl
    simp only [Bool.not_true, cond_false, h1, bd_some, hr, impl_ring_is_eq h (hS.2 y h3), h2, Bool.true_and]
    cases hp : polyB p F.vars y.poly with
    | false => rfl
    | true =>
      obtain ⟨d1, d2⟩ := dnT_ok h hp
      have hd := impl_ring_dense_eq h d1
      rw [d2] at hd
      simp only [Bool.not_true, cond_false, hd, bd_some, cond_true]
open Classical in
noncomputable def pcB (p : Int) (F : Cnf) (S : List PcStep) (i : Nat) (s : PcStep) : Bool :=
  polyB p F.vars s.poly && (
    bif s.kind == 1 then (inB s.a 0 ((F.clauses.length : Int) - 1) && (s.b == 0 && (s.x == 0 && s.y == 0))) && decide (s.poly = sp (clD p (nN F.vars) ((F.clauses[s.a.toNat]?).getD [])))
    else bif s.kind == 2 then (preB p F.vars S i s.a && (preB p F.vars S i s.b && (inB s.x 0 (p - 1) && inB s.y 0 (p - 1)))) && decide (s.poly = sp (sumD p (nN F.vars) (dnT p F.vars (pAt S s.a)) s.x (dnT p F.vars (pAt S s.b)) s.y))
    else bif s.kind == 3 then (preB p F.vars S i s.a && (s.b == 0 && (inB s.x 1 F.vars && s.y == 0))) && decide (s.poly = sp (mulT p (nN F.vars) (sp (dnT p F.vars (pAt S s.a))) (sp (litD p (nN F.vars) s.x))))
    else false)
theorem preB_ok {p v : Int} (h : PV p v) {S : List PcStep} {i : Nat} (hi : i < S.length) {k : Int} (hk : preB p v S i k = true) : ∃ y, ix S k = some y ∧ Dn p (nN v) (dnT p v (pAt S k)) ∧ y.poly = sp (dnT p v (pAt S k)) := by
  unfold preB at hk
  rw [Bool.and_eq_true] at hk
  obtain ⟨y, h1, h2, h3⟩ := pre_at hi hk.1
  obtain ⟨d1, d2⟩ := dnT_ok h hk.2
  exact ⟨y, h1, d1, by rw [d2, h2]⟩
theorem cnf_at {F : Cnf} (hF : cnfB F = true) {k : Int} (hk : inB k 0 ((F.clauses.length : Int) - 1) = true) : ∃ c, ix F.clauses k = some c ∧ F.clauses[k.toNat]? = some c ∧ IsC F.vars c := by
  have := inB_iff.1 hk
  obtain ⟨c, h1, h2⟩ := ix_of (xs := F.clauses) (i := k) (by omega) (by omega)
  exact ⟨c, h1, h2, (cnf_bds hF).2 c (List.mem_of_getElem? h2)⟩
theorem spec_l20Correct_eq {p : Int} {F : Cnf} (h : PV p F.vars) (hF : cnfB F = true) {S : List PcStep} (hS : okPs S) {i : Nat} {s : PcStep} (hx : S[i]? = some s) : spec_l20Correct p F S (i : Int) = some (pcB p F S i s) := by
  have hi := (List.getElem?_eq_some_iff.1 hx).1
  have hp := h.pos
  have hl := (cnf_bds hF).1
  unfold spec_l20Correct pcB
  rw [ix_get, hx, bd_some, spec_l18Good_eq h (hS.2 s (List.mem_of_getElem? hx)), bd_some]
  cases hg : polyB p F.vars s.poly with
  | false => rfl
  | true =>
    simp only [Bool.not_true, cond_false, Bool.true_and, spec_l1In_eq, len_eq F.clauses]
    rw [wr_of ((F.clauses.length : Int) - 1) (by omega) (by omega), wr_of (p - 1) (by omega) (by omega)]
    cases h1 : s.kind == 1 with
    | true =>
      simp only [cond_true, bif_ff]
      have e : ((((s.b == 0) && (s.x == 0)) && (s.y == 0)) && inB s.a 0 ((F.clauses.length : Int) - 1)) = (inB s.a 0 ((F.clauses.length : Int) - 1) && (s.b == 0 && (s.x == 0 && s.y == 0))) := by
        cases s.b == 0 <;> cases s.x == 0 <;> cases s.y == 0 <;> cases inB s.a 0 ((F.clauses.length : Int) - 1) <;> rfl
      rw [e]
      cases hc : inB s.a 0 ((F.clauses.length : Int) - 1) && (s.b == 0 && (s.x == 0 && s.y == 0)) with
      | false => rfl
      | true =>
        obtain ⟨c, c1, c2, c3⟩ := cnf_at hF ((Bool.and_eq_true _ _).mp hc).1
        rw [c2]
        simp only [cond_true, c1, bd_some, spec_l18Clause_eq h c3, spec_l20Same_eq, Bool.true_and]
        rfl
    | false =>
      simp only [cond_false]
      cases h2 : s.kind == 2 with
      | true =>
        have h3 : (s.kind == 3) = false := by have : s.kind = 2 := by simpa using h2
                                              rw [this]; rfl
        simp only [Bool.not_true, cond_false, cond_true, spec_l20Earlier_eq h hS hi, bd_some, h3]
        cases ha : preB p F.vars S i s.a with
        | false => rfl
        | true =>
          simp only [Bool.not_true, cond_false, Bool.true_and]
          cases hb : preB p F.vars S i s.b with
          | false => rfl
          | true =>
            cases hx0 : inB s.x 0 (p - 1) with
            | false => rfl
            | true =>
              cases hy0 : inB s.y 0 (p - 1) with
              | false => rfl
              | true =>
                have b1 := inB_iff.1 hx0; have b2 := inB_iff.1 hy0
                obtain ⟨y, y1, y2, y3⟩ := preB_ok h hi ha
                obtain ⟨z, z1, z2, z3⟩ := preB_ok h hi hb
                simp only [Bool.not_true, cond_false, y1, z1, bd_some, y3, z3, spec_l20Sum_eq h (⟨by omega, by omega⟩ : 0 ≤ s.x ∧ s.x ≤ 5) (⟨by omega, by omega⟩ : 0 ≤ s.y ∧ s.y ≤ 5) y2 z2, spec_l20Same_eq, Bool.true_and]
      | false =>
        simp only [Bool.not_false, cond_true, cond_false]
        cases h3 : s.kind == 3 with
        | false => rfl
        | true =>
          simp only [Bool.not_true, cond_false, cond_true, spec_l20Earlier_eq h hS hi, bd_some, bif_ff]
          cases ha : preB p F.vars S i s.a with
          | false => rfl
          | true =>
            simp only [Bool.not_true, cond_false, Bool.true_and]
            have e : (((s.b == 0) && (s.y == 0)) && inB s.x 1 F.vars) = (s.b == 0 && (inB s.x 1 F.vars && s.y == 0)) := by
              cases s.b == 0 <;> cases s.y == 0 <;> cases inB s.x 1 F.vars <;> rfl
            rw [e]
            cases hc : s.b == 0 && (inB s.x 1 F.vars && s.y == 0) with
            | false => rfl
            | true =>
              have hc1 := (Bool.and_eq_true _ _).mp ((Bool.and_eq_true _ _).mp hc).2
              have b1 := inB_iff.1 hc1.1
              obtain ⟨y, y1, y2, y3⟩ := preB_ok h hi ha
              simp only [cond_true, y1, bd_some, y3, spec_l20Times_eq h y2 b1.1 b1.2, spec_l20Same_eq, Bool.true_and]
theorem dense_Equal_eq (a b : List Int) : slices_Equal_impl_dense_int a b = some (a == b) := spec_l1Same_eq a b
open Classical in
theorem eq_dense {p v : Int} (h : PV p v) {a : List Int} {A : List Term} (ha : Dn p (nN v) a) (hA : polyB p v A = true) : (a == dnT p v A) = decide (A = sp a) := by
  obtain ⟨d1, d2⟩ := dnT_ok h hA
  rw [Bool.eq_iff_iff, beq_iff_eq, decide_eq_true_eq]
  exact ⟨fun e => by rw [e, d2], fun e => sp_inj h ha d1 (by rw [d2, e])⟩
theorem alg_q2 {p : Int} {F : Cnf} {k : Int} {c : List Int} (h1 : ix F.clauses k = some c) : ix (alg p F).q k = some (clD p (nN F.vars) c) := by
  obtain ⟨h0, h2, h3⟩ := ix_some h1
  unfold ix; rw [if_pos h0]
  show (F.clauses.map fun c => clD p (nN F.vars) c)[k.toNat]? = _
  rw [List.getElem?_map, h3]; rfl
theorem impl_pcCorrect_eq {p : Int} {F : Cnf} (h : PV p F.vars) (hF : cnfB F = true) {S : List PcStep} (hS : okPs S) {i : Nat} {s : PcStep} (hx : S[i]? = some s) : impl_algebra_pcCorrect (alg p F) S (i : Int) = some (pcB p F S i s) := by
  have hi := (List.getElem?_eq_some_iff.1 hx).1
  have hp := h.pos
  have hl := (cnf_bds hF).1
  have hr : (alg p F).ring = ⟨p, F.vars⟩ := rfl
  have hql : len (alg p F).q = (F.clauses.length : Int) := by rw [len_eq]; show ((F.clauses.map _).length : Int) = _; rw [List.length_map]
  -- what a due polynomial comes to
  have key : ∀ (d : List Int) (b : Bool), impl_algebra_pcDue (alg p F) S (i : Int) = some (bif b then (d, true) else ([], false)) → (b = true → Dn p (nN F.vars) d) → ∀ (f : List Term → Bool), (b = true → ∀ A, polyB p F.vars A = true → (d == dnT p F.vars A) = f A) →
      impl_algebra_pcCorrect (alg p F) S (i : Int) = some (polyB p F.vars s.poly && (b && f s.poly)) := fun d b hd hdn f hf => by
    unfold impl_algebra_pcCorrect
    rw [hd, bd_some]
    cases b with
    | false => simp
    | true =>
      simp only [cond_true, ix_get, hx, bd_some, hr, impl_ring_is_eq h (hS.2 s (List.mem_of_getElem? hx)), Bool.true_and]
      cases hg : polyB p F.vars s.poly with
      | false => rfl
      | true =>
        obtain ⟨d1, d2⟩ := dnT_ok h hg
        have hd := impl_ring_dense_eq h d1
        rw [d2] at hd
        simp only [cond_true, hd, bd_some, dense_Equal_eq, hf rfl s.poly hg, Bool.true_and]
  have due : impl_algebra_pcDue (alg p F) S (i : Int) = bd (some s) fun x => (bif (bif (bif (bif (bif (x.kind == 1) then inB x.a 0 ((F.clauses.length : Int) - 1) else false) then (x.b == 0) else false) then (x.x == 0) else false) then (x.y == 0) else false) then bd (ix (alg p F).q x.a) (fun q => some (q, true)) else
      (bif (bif (bif (bif (bif (x.kind == 2) then preB p F.vars S i x.a else false) then preB p F.vars S i x.b else false) then inB x.x 0 (p - 1) else false) then inB x.y 0 (p - 1) else false) then some (sumD p (nN F.vars) (dnT p F.vars (pAt S x.a)) x.x (dnT p F.vars (pAt S x.b)) x.y, true) else
      (bif (bif (bif (bif (bif (x.kind == 3) then preB p F.vars S i x.a else false) then (x.b == 0) else false) then inB x.x 1 F.vars else false) then (x.y == 0) else false) then some (mulT p (nN F.vars) (sp (dnT p F.vars (pAt S x.a))) (sp (litD p (nN F.vars) x.x)), true) else some ([], false)))) := by
    unfold impl_algebra_pcDue
    rw [ix_get, hx, bd_some, impl_polyBefore_eq h hS hi, bd_some, impl_polyBefore_eq h hS hi, bd_some, bd_some]
    have hrp : (alg p F).ring.p = p := rfl
    have hrv : (alg p F).ring.vars = F.vars := rfl
    simp only [impl_within_eq, impl_isVar_eq, hql, hrp, hrv, bif_ff]
    rw [wr_of ((F.clauses.length : Int) - 1) (by omega) (by omega), wr_of (p - 1) (by omega) (by omega)]
    have e2 : ∀ (c : Bool) (d : List Int), (bif c then (d, true) else ([], false)).2 = c := fun c d => by cases c <;> rfl
    simp only [e2]
    refine bif_congr3 rfl rfl ?_
    cases ha : preB p F.vars S i s.a with
    | false => simp
    | true =>
      obtain ⟨y, y1, y2, y3⟩ := preB_ok h hi ha
      refine bif_congr4 (fun hc => ?_) (bif_congr4 (fun hc => ?_) rfl)
      · simp only [Bool.and_eq_true] at hc
        obtain ⟨⟨⟨⟨_, _⟩, hb⟩, hx0⟩, hy0⟩ := hc
        have b1 := inB_iff.1 hx0; have b2 := inB_iff.1 hy0
        obtain ⟨z, z1, z2, z3⟩ := preB_ok h hi hb
        rw [hb]
        simp only [cond_true, hr]
        rw [impl_zero_eq (r := ⟨p, F.vars⟩) h, bd_some, impl_plus_eq (r := ⟨p, F.vars⟩) h ⟨by omega, by omega⟩ (zs_Dn hp.1) y2, bd_some,
          impl_plus_eq (r := ⟨p, F.vars⟩) h ⟨by omega, by omega⟩ (vadd_Dn hp.1 (zs_Dn hp.1).len y2.len) z2, bd_some]
        rfl
      · simp only [Bool.and_eq_true] at hc
        obtain ⟨⟨⟨⟨_, _⟩, hb⟩, hx0⟩, hy0⟩ := hc
        have b1 := inB_iff.1 hx0
        simp only [cond_true, hr]
        rw [impl_literal_eq (r := ⟨p, F.vars⟩) h (l := s.x) (by omega) (by show -F.vars ≤ _; omega) b1.2, bd_some, impl_times_eq (r := ⟨p, F.vars⟩) h y2 (litD_Dn hp.1 _), bd_some]
  rw [bd_some] at due
  unfold pcB
  cases h1 : s.kind == 1 with
  | true =>
    have h2 : (s.kind == 2) = false := by have : s.kind = 1 := by simpa using h1
                                          rw [this]; rfl
    have h3 : (s.kind == 3) = false := by have : s.kind = 1 := by simpa using h1
                                          rw [this]; rfl
    rw [h1, h2, h3] at due
    simp only [bif_ff, Bool.true_and, cond_false] at due
    simp only [cond_true]
    have e : (((inB s.a 0 ((F.clauses.length : Int) - 1) && (s.b == 0)) && (s.x == 0)) && (s.y == 0)) = (inB s.a 0 ((F.clauses.length : Int) - 1) && (s.b == 0 && (s.x == 0 && s.y == 0))) := by
      cases s.b == 0 <;> cases s.x == 0 <;> cases s.y == 0 <;> cases inB s.a 0 ((F.clauses.length : Int) - 1) <;> rfl
    rw [e] at due
    refine key (clD p (nN F.vars) ((F.clauses[s.a.toNat]?).getD [])) _ ?_ (fun _ => clD_Dn hp.1 _) _ (fun _ A hA => eq_dense h (clD_Dn hp.1 _) hA)
    rw [due]
    cases hc : inB s.a 0 ((F.clauses.length : Int) - 1) && (s.b == 0 && (s.x == 0 && s.y == 0)) with
    | false => rfl
    | true =>
      obtain ⟨c, c1, c2, c3⟩ := cnf_at hF ((Bool.and_eq_true _ _).mp hc).1
      simp only [cond_true, alg_q2 c1, bd_some, c2, Option.getD_some]
  | false =>
    rw [h1] at due
    simp only [bif_ff, cond_false] at due
    simp only [cond_false]
    cases h2 : s.kind == 2 with
    | true =>
      have h3 : (s.kind == 3) = false := by have : s.kind = 2 := by simpa using h2
                                            rw [this]; rfl
      rw [h2, h3] at due
      simp only [Bool.true_and, Bool.false_and, cond_false] at due
      simp only [cond_true]
      rw [Bool.and_assoc, Bool.and_assoc] at due
      rw [show (preB p F.vars S i s.a && (preB p F.vars S i s.b && (inB s.x 0 (p - 1) && inB s.y 0 (p - 1)))) = (preB p F.vars S i s.a && (preB p F.vars S i s.b && (inB s.x 0 (p - 1) && inB s.y 0 (p - 1)))) from rfl]
      have hdn : (preB p F.vars S i s.a && (preB p F.vars S i s.b && (inB s.x 0 (p - 1) && inB s.y 0 (p - 1)))) = true → Dn p (nN F.vars) (sumD p (nN F.vars) (dnT p F.vars (pAt S s.a)) s.x (dnT p F.vars (pAt S s.b)) s.y) := fun hc => by
        simp only [Bool.and_eq_true] at hc
        obtain ⟨y, y1, y2, y3⟩ := preB_ok h hi hc.1
        obtain ⟨z, z1, z2, z3⟩ := preB_ok h hi hc.2.1
        exact sumD_Dn hp.1 y2 z2
      refine key _ _ ?_ hdn _ (fun hc A hA => eq_dense h (hdn hc) hA)
      rw [due]
      cases preB p F.vars S i s.a <;> cases preB p F.vars S i s.b <;> cases inB s.x 0 (p - 1) <;> cases inB s.y 0 (p - 1) <;> rfl
    | false =>
      rw [h2] at due
      simp only [Bool.false_and, cond_false] at due
      simp only [cond_false]
      cases h3 : s.kind == 3 with
      | true =>
        rw [h3] at due
        simp only [Bool.true_and] at due
        simp only [cond_true]
        have hdn : (preB p F.vars S i s.a && (s.b == 0 && (inB s.x 1 F.vars && s.y == 0))) = true → Dn p (nN F.vars) (mulT p (nN F.vars) (sp (dnT p F.vars (pAt S s.a))) (sp (litD p (nN F.vars) s.x))) := fun _ => mulT_Dn hp.1 _ _
        refine key _ _ ?_ hdn _ (fun hc A hA => eq_dense h (hdn hc) hA)
        rw [due]
        cases preB p F.vars S i s.a <;> cases s.b == 0 <;> cases inB s.x 1 F.vars <;> cases s.y == 0 <;> rfl
      | false =>
        rw [h3] at due
        simp only [Bool.false_and, cond_false] at due
        have := key [] false due nofun (fun _ => false) nofun
        rw [this]; rfl
end Go.PF
namespace Go.PF
open Go.Pu
noncomputable def pcdB (p : Int) (F : Cnf) (S : List PcStep) : Bool := decide (len S ≤ 300) && !anyI (fun i s => !pcB p F S i s) S 0
theorem spec_l20Wrong_eq {p : Int} {F : Cnf} (h : PV p F.vars) (hF : cnfB F = true) {S : List PcStep} (hS : okPs S) : ∃ r, spec_l20Wrong p F S = some r ∧ decide (r < 0) = !anyI (fun i s => !pcB p F S i s) S 0 := by
  unfold spec_l20Wrong
  rw [forL_find (p := fun i s => !pcB p F S i s) (v := fun i _ => (i : Int)) (fun i y hy => by rw [spec_l20Correct_eq h hF hS hy, bd_some])]
  cases hf : findI (fun i s => !pcB p F S i s) S 0 with
  | none => exact ⟨-1, rfl, by rw [findI_none.1 hf]; rfl⟩
  | some z =>
    obtain ⟨_, _, _, h4⟩ := findI_some hf
    exact ⟨_, rfl, by rw [h4]; simp⟩
theorem spec_l20Good_eq {p : Int} {F : Cnf} {S : List PcStep} (hF : okCnf F) (hS : okPs S) : spec_l20Good p F S = some (algB p F && pcdB p F S) := by
  unfold spec_l20Good pcdB
  rw [spec_l20Asked_eq hF, bd_some]
  cases ha : algB p F with
  | false => rfl
  | true =>
    unfold algB at ha
    have ha1 := (Bool.and_eq_true _ _).mp ha
    have h := pvB_iff.1 ha1.1
    obtain ⟨r, r1, r2⟩ := spec_l20Wrong_eq h ha1.2 hS
    simp only [cond_true, Bool.true_and]
    cases decide (len S ≤ 300) with
    | false => rfl
    | true => simp only [cond_true, r1, bd_some, r2, Bool.true_and]
theorem impl_firstWrongPc_eq {p : Int} {F : Cnf} (h : PV p F.vars) (hF : cnfB F = true) {S : List PcStep} (hS : okPs S) : ∃ r, impl_algebra_firstWrongPc (alg p F) S = some r ∧ decide (r < 0) = !anyI (fun i s => !pcB p F S i s) S 0 := by
  unfold impl_algebra_firstWrongPc
  rw [forL_find (p := fun i s => !pcB p F S i s) (v := fun i _ => (i : Int)) (fun i y hy => by rw [impl_pcCorrect_eq h hF hS hy, bd_some])]
  cases hf : findI (fun i s => !pcB p F S i s) S 0 with
  | none => exact ⟨-1, rfl, by rw [findI_none.1 hf]; rfl⟩
  | some z =>
    obtain ⟨_, _, _, h4⟩ := findI_some hf
    exact ⟨_, rfl, by rw [h4]; simp⟩
theorem impl_pcDerivation_eq {p : Int} {F : Cnf} (ha : algB p F = true) {S : List PcStep} (hS : okPs S) : impl_algebra_pcDerivation (alg p F) S = some (pcdB p F S) := by
  unfold algB at ha
  have ha1 := (Bool.and_eq_true _ _).mp ha
  have h := pvB_iff.1 ha1.1
  obtain ⟨r, r1, r2⟩ := impl_firstWrongPc_eq h ha1.2 hS
  unfold impl_algebra_pcDerivation pcdB
  cases decide (len S ≤ 300) with
  | false => rfl
  | true => simp only [cond_true, r1, bd_some, r2, Bool.true_and]
end Go.PF
namespace Go.PF
open Go.Pu
open Go.La (vadd co V Ctx)
def pc (m : Nat) : Nat := m % 2 + m / 2 % 2 + m / 4 % 2 + m / 8 % 2 + m / 16 % 2 + m / 32 % 2
def ky (m : Nat) : Nat := if m < 64 then pc m * 64 + m else m + 1000
theorem pc_le (m : Nat) : pc m ≤ 6 := by unfold pc; omega
theorem ky_inj {m n : Nat} (h : ky m = ky n) : m = n := by
  have h1 := pc_le m; have h2 := pc_le n
  unfold ky at h
  generalize pc m = x at *; generalize pc n = y at *
  split at h <;> split at h <;> omega
def best (a : List Int) : Nat → Option Nat
  | 0 => none
  | n + 1 => if co a n = 0 then best a n else match best a n with
    | none => some n
    | some m => if ky m < ky n then some n else some m
def bst (a : List Int) : Option Nat := best a a.length
def bstT (o : Option Nat) (t : Term) : Option Nat := match o with
  | none => some t.mono.toNat
  | some m => if ky m < ky t.mono.toNat then some t.mono.toNat else some m
theorem co_app {a : List Int} {x : Int} {b : List Int} : co (a ++ x :: b) a.length = x := by unfold co; simp
theorem best_sp (b : List Int) : ∀ (a : List Int), (spF a.length b).foldl bstT (best (a ++ b) a.length) = best (a ++ b) (a ++ b).length := by
  induction b with
  | nil => intro a; simp [spF]
  | cons x b ih =>
    intro a
    have h1 := ih (a ++ [x])
    simp only [List.append_assoc, List.singleton_append, List.length_append, List.length_singleton] at h1
    have h2 : best (a ++ x :: b) (a.length + 1) = bif x == 0 then best (a ++ x :: b) a.length else bstT (best (a ++ x :: b) a.length) ⟨((a.length : Nat) : Int), x⟩ := by
      conv => lhs; unfold best
      rw [co_app]
      by_cases h0 : x = 0
      · rw [if_pos h0, h0]; rfl
      · rw [if_neg h0, show (x == 0) = false by simp [h0]]
        unfold bstT
        simp only [cond_false, Int.toNat_natCast]
    rw [h2] at h1
    unfold spF
    cases hx : x == 0 with
    | true =>
      rw [hx] at h1
      simp only [cond_true] at h1 ⊢
      rw [h1]; simp
    | false =>
      rw [hx] at h1
      simp only [cond_false, List.foldl_cons] at h1 ⊢
      rw [h1]; simp
theorem bst_sp (a : List Int) : (sp a).foldl bstT none = bst a := by
  have := best_sp a []
  simpa [best, sp, bst] using this
def dgI (a : List Int) : Int := match bst a with | none => -1 | some m => ((pc m : Nat) : Int)
theorem ky_lt {m n : Nat} (hm : m < 64) (hn : n < 64) : ky m < ky n ↔ pc m < pc n ∨ (pc m = pc n ∧ m < n) := by
  unfold ky
  rw [if_pos hm, if_pos hn]
  generalize pc m = x; generalize pc n = y
  omega
end Go.PF
namespace Go.PF
open Go.Pu
open Go.La (vadd co V Ctx)
theorem pc_half (m : Nat) (h : m < 64) : pc m = m % 2 + pc (m / 2) := by unfold pc; omega
theorem l14_iter {body : Int × Int → Option (Lp (Int × Int) Empty)} (hb : ∀ s, body s = bif decide (0 < s.1) then some (.nx (wr (s.1.tdiv 2), wr (s.2 + s.1.tmod 2))) else some (.bk (s.1, s.2))) :
    ∀ (n m c : Nat), n ≤ 6 → m < 2 ^ n → c + n ≤ 100 → iter body (((m : Nat) : Int), ((c : Nat) : Int)) = some (.go (0, ((c + pc m : Nat) : Int))) := by
  intro n
  induction n with
  | zero =>
    intro m c _ hm _
    have e : m = 0 := by simpa using hm
    subst e
    refine iter_bk ?_
    rw [hb]; rfl
  | succ n ih =>
    intro m c hn hm hc
    by_cases h0 : m = 0
    · subst h0
      refine iter_bk ?_
      rw [hb]; rfl
    · have h64 : m < 64 := Nat.lt_of_lt_of_le hm (Nat.pow_le_pow_right (by omega) (show n + 1 ≤ 6 by omega))
      have h2 : m / 2 < 2 ^ n := by rw [Nat.pow_succ] at hm; omega
      have e1 : wr (((m : Nat) : Int).tdiv 2) = ((m / 2 : Nat) : Int) := by
        have : ((m : Nat) : Int).tdiv 2 = ((m / 2 : Nat) : Int) := by rw [Int.tdiv_eq_ediv_of_nonneg (by omega)]; omega
        rw [this]; exact wr_of _ (by omega) (by omega)
      have e2 : wr (((c : Nat) : Int) + ((m : Nat) : Int).tmod 2) = ((c + m % 2 : Nat) : Int) := by
        have : ((m : Nat) : Int).tmod 2 = ((m % 2 : Nat) : Int) := by rw [Int.tmod_eq_emod_of_nonneg (by omega)]; omega
        rw [this]; rw [wr_of _ (by omega) (by omega)]; omega
      rw [iter_nx (s' := (((m / 2 : Nat) : Int), ((c + m % 2 : Nat) : Int))) (by rw [hb, show decide (0 < (((m : Nat) : Int), ((c : Nat) : Int)).1) = true by simp; omega, cond_true, e1, e2])]
      rw [ih (m / 2) (c + m % 2) (by omega) h2 (by omega), pc_half m h64]
      rw [Nat.add_assoc]
theorem spec_l14Count_eq {m : Nat} (h : m < 64) : spec_l14Count ((m : Nat) : Int) = some ((pc m : Nat) : Int) := by
  unfold spec_l14Count
  have := l14_iter (body := (fun s21 => (bif (decide (0 < s21.1)) then some (Lp.nx ((wr (s21.1.tdiv 2)), (wr (s21.2 + (s21.1.tmod 2))))) else some (Lp.bk (s21.1, s21.2))))) (fun _ => rfl) 6 m 0 (Nat.le_refl _) h (by omega)
  rw [show (((0 : Nat) : Int)) = 0 from rfl] at this
  rw [this, bdR_go]; simp
theorem deg_tab : (List.range 64).all (fun m => impl_degreeOf ((m : Nat) : Int) == ((pc m : Nat) : Int)) = true := by decide +kernel
theorem impl_degreeOf_eq {m : Nat} (h : m < 64) : impl_degreeOf ((m : Nat) : Int) = ((pc m : Nat) : Int) := by
  have := (List.all_eq_true.1 deg_tab) m (by simpa using h)
  simpa using this
theorem sp_T64 {a : List Int} (h : a.length ≤ 64) : ∀ t ∈ sp a, ∃ j : Nat, j < 64 ∧ t.mono = ((j : Nat) : Int) := fun t ht => by
  obtain ⟨j, h1, h2, _⟩ := mem_sp ht
  exact ⟨j, by omega, h2⟩
theorem co_loop {S : Type} {f : Nat → Int → S → Option (Lp S Empty)} {g : S → Term → S} (I : S → Prop) {a : List Int} (ha : a.length ≤ 64) {s : S} (h0 : I s)
    (hf : ∀ (i : Nat) (y : Int) (s : S), i < 64 → I s → f i y s = (bif !(y == 0) then some (.nx (g s ⟨((i : Nat) : Int), y⟩)) else some (.nx s)) ∧ (y ≠ 0 → I (g s ⟨((i : Nat) : Int), y⟩))) : forL a f s = some (.go ((sp a).foldl g s)) := by
  have key : ∀ (b : List Int) (i : Nat) (s : S), i + b.length ≤ 64 → I s → forLFrom f b i s = some (.go ((spF i b).foldl g s)) := by
    intro b
    induction b with
    | nil => intro i s _ _; rfl
    | cons y b ih =>
      intro i s hi hs
      simp only [List.length_cons] at hi
      obtain ⟨h1, h2⟩ := hf i y s (by omega) hs
      unfold spF
      cases hy : y == 0 with
      | true =>
        rw [forLFrom_nx (s' := s) (by rw [h1, hy]; rfl)]
        exact ih (i + 1) s (by omega) hs
      | false =>
        rw [forLFrom_nx (s' := g s ⟨((i : Nat) : Int), y⟩) (by rw [h1, hy]; rfl), cond_false, List.foldl_cons]
        exact ih (i + 1) _ (by omega) (h2 (by simpa using hy))
  exact key a 0 s (by omega) h0
def dgO (o : Option Nat) : Int := match o with | none => -1 | some m => ((pc m : Nat) : Int)
def stD (s : Int) (t : Term) : Int := mx s ((pc t.mono.toNat : Nat) : Int)
theorem ky_mono {m n : Nat} (hm : m < 64) (hn : n < 64) (h : ky m < ky n) : pc m ≤ pc n := by have := (ky_lt hm hn).1 h; omega
theorem stD_dgO {o : Option Nat} (ho : ∀ m, o = some m → m < 64) {t : Term} (h : ∃ j : Nat, j < 64 ∧ t.mono = ((j : Nat) : Int)) : stD (dgO o) t = dgO (bstT o t) ∧ (∀ m, bstT o t = some m → m < 64) := by
  obtain ⟨j, h1, h2⟩ := h
  unfold stD bstT dgO mx
  cases o with
  | none =>
    simp only [h2, Int.toNat_natCast]
    refine ⟨if_pos (by omega), fun m e => by cases e; exact h1⟩
  | some m =>
    have hm := ho m rfl
    simp only [h2, Int.toNat_natCast]
    by_cases hk : ky m < ky j
    · have := ky_mono hm h1 hk
      rw [if_pos hk]
      refine ⟨?_, fun k e => by cases e; exact h1⟩
      split <;> simp only <;> omega
    · rw [if_neg hk]
      have : pc j ≤ pc m := by
        by_cases he : ky m = ky j
        · rw [ky_inj he]; exact Nat.le_refl _
        · exact ky_mono h1 hm (by omega)
      refine ⟨?_, fun k e => by cases e; exact hm⟩
      split <;> simp only <;> omega
theorem stD_fold : ∀ {l : List Term} {o : Option Nat}, (∀ m, o = some m → m < 64) → (∀ t ∈ l, ∃ j : Nat, j < 64 ∧ t.mono = ((j : Nat) : Int)) → l.foldl stD (dgO o) = dgO (l.foldl bstT o)
  | [], _, _, _ => rfl
  | t :: l, o, ho, h => by
    obtain ⟨h1, h2⟩ := stD_dgO ho (h t (by simp))
    rw [List.foldl_cons, List.foldl_cons, h1]
    exact stD_fold h2 fun t ht => h t (by simp [ht])
theorem fold_dg {a : List Int} (ha : a.length ≤ 64) : (sp a).foldl stD (-1) = dgI a := by
  have := stD_fold (o := none) nofun (sp_T64 ha)
  rw [bst_sp] at this
  exact this
theorem impl_dense_degree_eq {a : List Int} (ha : a.length ≤ 64) : impl_dense_degree a = some (dgI a) := by
  unfold impl_dense_degree
  rw [co_loop (g := stD) (fun _ => True) ha trivial (fun i y s hi _ => by
    refine ⟨?_, fun _ => trivial⟩
    rw [impl_degreeOf_eq hi]
    unfold stD
    simp only [Int.toNat_natCast]), bdR_go, fold_dg ha]
theorem spec_l18Degree_eq {a : List Int} (ha : a.length ≤ 64) : spec_l18Degree (sp a) = some (dgI a) := by
  unfold spec_l18Degree
  rw [forL_fold stD (fun i t s ht => by
    obtain ⟨j, h1, h2⟩ := sp_T64 ha t (List.mem_of_getElem? ht)
    rw [h2, spec_l14Count_eq h1, bd_some]
    unfold spec_l1Most stD mx
    rw [h2]
    simp only [Int.toNat_natCast]
    by_cases hlt : ((pc j : Nat) : Int) < s
    · rw [if_neg (by omega), show decide (((pc j : Nat) : Int) < s) = true by simpa using hlt]; rfl
    · rw [show decide (((pc j : Nat) : Int) < s) = false by simpa using hlt]
      by_cases h3 : ((pc j : Nat) : Int) > s
      · rw [if_pos h3]; rfl
      · rw [if_neg h3, show s = ((pc j : Nat) : Int) by omega]; rfl), bdR_go, fold_dg ha]
def iv (p c : Int) : Int := bif c == 1 then 1 else bif p == 3 then 2 else bif c == 2 then 3 else bif c == 3 then 2 else 4
end Go.PF
namespace Go.PF
open Go.Pu
theorem trL_To {p : Int} {F : Cnf} {S : List ResStep} (h : PV p F.vars) (hD : IsD F S) : To p F.vars S.length (trL p F.vars S) := by
  have key : ∀ n, n ≤ S.length → To p F.vars n ((S.take n).foldl (trS p F.vars S) ([], [], [])) := by
    intro n
    induction n with
    | zero => intro _; exact To.nil
    | succ n ih =>
      intro hn
      have hx : S[n]? = some S[n] := List.getElem?_eq_getElem (by omega)
      rw [List.take_add_one, hx, List.foldl_append]
      exact trS_ok h hD hx (ih (by omega))
  have := key S.length (Nat.le_refl _)
  rwa [List.take_length] at this
theorem sp_len (a : List Int) : (sp a).length ≤ a.length := by
  unfold sp; rw [spF_filter]
  refine Nat.le_trans (List.length_filter_le _ _) (Nat.le_of_eq ?_)
  have : ∀ (a : List Int) (i : Nat), (fuF i a).length = a.length := by
    intro a; induction a with
    | nil => intro i; rfl
    | cons z a ih => intro i; simp [fuF, ih]
  exact this _ _
def pcV (p : Int) (F : Cnf) (S : List ResStep) : List PcStep × Bool :=
  bif askB p F S then (bif decide (300 < len (trL p F.vars S).2.2) then ([], false) else ((trL p F.vars S).2.2, true)) else ([], false)
theorem impl_ResToPc_eq {p : Int} {F : Cnf} {S : List ResStep} (hF : okCnf F) (hS : okL okResStep S) : impl_ResToPc p F S = some (pcV p F S) := by
  unfold impl_ResToPc pcV
  rw [impl_translate_eq hF hS, bd_some]
  cases askB p F S with
  | false => rfl
  | true =>
    simp only [Bool.not_true, cond_false, cond_true, bd_some]
    cases decide (300 < len (trL p F.vars S).2.2) <;> rfl
end Go.PF
namespace Go.PF
open Go.Pu
theorem dnT_of {p v : Int} {A : List Term} (h : ∃ a, Dn p (nN v) a ∧ sp a = A) : Dn p (nN v) (dnT p v A) ∧ sp (dnT p v A) = A := by
  unfold dnT
  rw [dif_pos h]
  exact h.choose_spec
theorem pcV_ok {p : Int} {F : Cnf} {S : List ResStep} (h : (pcV p F S).2 = true) : algB p F = true ∧ PV p F.vars ∧ (pcV p F S).1.length ≤ 300 ∧ ∀ s ∈ (pcV p F S).1, ∃ a, Dn p (nN F.vars) a ∧ sp a = s.poly := by
  unfold pcV at h ⊢
  cases ha : askB p F S with
  | false => rw [ha] at h; cases h
  | true =>
    rw [ha] at h
    obtain ⟨h1, h2⟩ := askB_iff ha
    have hal : algB p F = true := by unfold askB at ha; rw [Bool.and_eq_true] at ha; exact ha.1
    simp only [cond_true] at h ⊢
    cases hd : decide (300 < len (trL p F.vars S).2.2) with
    | true => rw [hd] at h; cases h
    | false =>
      have hl := of_decide_eq_false hd
      rw [len_eq] at hl
      simp only [cond_false]
      have ps := (trL_To h1 h2).ps
      refine ⟨hal, h1, by omega, fun x hx => ?_⟩
      obtain ⟨j, hj, rfl⟩ := List.getElem_of_mem hx
      have hj2 : j < (trL p F.vars S).2.1.length := by rw [ps.len]; exact hj
      exact ⟨_, ps.dn _ (List.getElem_mem hj2), (ps.sp j _ _ (List.getElem?_eq_getElem hj) (List.getElem?_eq_getElem hj2)).symm⟩
noncomputable def dgS (p v : Int) (s : Int) (y : PcStep) : Int := mx s (dgI (dnT p v y.poly))
noncomputable def tdV (p : Int) (F : Cnf) (S : List ResStep) : Int × Bool :=
  bif (pcV p F S).2 then (bif pcdB p F (pcV p F S).1 then ((pcV p F S).1.foldl (dgS p F.vars) (-1), true) else (0, false)) else (0, false)
theorem most_mx (a b : Int) : spec_l1Most a b = mx a b := by
  unfold spec_l1Most mx
  by_cases h : b < a
  · rw [if_neg (by omega), show decide (b < a) = true by simpa using h]; rfl
  · rw [show decide (b < a) = false by simpa using h]
    by_cases h2 : b > a
    · rw [if_pos h2]; rfl
    · rw [if_neg h2, show a = b by omega]; rfl
theorem dn64 {p v : Int} (h : PV p v) {a : List Int} (ha : Dn p (nN v) a) : a.length ≤ 64 := by rw [ha.len]; exact (nN_le h.v6).2
theorem okPs_pcV {p : Int} {F : Cnf} {S : List ResStep} (h : (pcV p F S).2 = true) : okPs (pcV p F S).1 := by
  obtain ⟨_, hp, h3, h4⟩ := pcV_ok h
  refine ⟨by omega, fun s hs => ?_⟩
  obtain ⟨a, a1, a2⟩ := h4 s hs
  have := sp_len a
  have := dn64 hp a1
  rw [← a2]; omega
theorem spec_l21Pc_eq {p : Int} {F : Cnf} {S : List ResStep} (hF : okCnf F) (hS : okL okResStep S) : spec_l21Pc p F S = some (pcV p F S) := by
  unfold spec_l21Pc pcV
  rw [spec_l21Asked_eq hF hS, bd_some]
  cases h : askB p F S with
  | false => rfl
  | true =>
    obtain ⟨h1, h2⟩ := askB_iff h
    simp only [Bool.not_true, cond_false, cond_true]
    rw [spec_l21Translate_eq h1 h2, bd_some]
    cases decide (300 < len (trL p F.vars S).2.2) <;> rfl
theorem spec_TranslatedDegree_eq {p : Int} {F : Cnf} {S : List ResStep} (hF : okCnf F) (hS : okL okResStep S) : spec_TranslatedDegree p F S = some (tdV p F S) := by
  unfold spec_TranslatedDegree tdV
  rw [spec_l21Pc_eq hF hS, bd_some]
  cases h : (pcV p F S).2 with
  | false => rfl
  | true =>
    obtain ⟨hal, hp, h3, h4⟩ := pcV_ok h
    have ho := okPs_pcV h
    simp only [Bool.not_true, cond_false, cond_true]
    unfold spec_PcDegree
    rw [spec_l20Good_eq hF ho, bd_some, hal, Bool.true_and]
    cases pcdB p F (pcV p F S).1 with
    | false => rfl
    | true =>
      simp only [Bool.not_true, cond_false, cond_true]
      rw [forL_fold (dgS p F.vars) (fun i y s hy => by
        obtain ⟨d1, d2⟩ := dnT_of (h4 y (List.mem_of_getElem? hy))
        have e2 := spec_l18Degree_eq (dn64 hp d1)
        rw [d2] at e2
        rw [e2, bd_some, most_mx]; rfl), bdR_go, bd_some]
theorem impl_TranslatedDegree_eq {p : Int} {F : Cnf} {S : List ResStep} (hF : okCnf F) (hS : okL okResStep S) : impl_TranslatedDegree p F S = some (tdV p F S) := by
  unfold impl_TranslatedDegree tdV
  rw [impl_ResToPc_eq hF hS, bd_some]
  cases h : (pcV p F S).2 with
  | false => rfl
  | true =>
    obtain ⟨hal, hp, h3, h4⟩ := pcV_ok h
    have ho := okPs_pcV h
    simp only [Bool.not_true, cond_false, cond_true]
    unfold impl_PcDegree
    rw [impl_algebraOf_eq hF, bd_some, hal]
    simp only [cond_true, Bool.not_true, cond_false, bd_some]
    rw [impl_pcDerivation_eq hal ho, bd_some, bd_some]
    cases pcdB p F (pcV p F S).1 with
    | false => rfl
    | true =>
      simp only [Bool.not_true, cond_false, cond_true]
      rw [forL_fold (dgS p F.vars) (fun i y s hy => by
        obtain ⟨d1, d2⟩ := dnT_of (h4 y (List.mem_of_getElem? hy))
        have e2 := impl_ring_dense_eq hp d1
        rw [d2] at e2
        rw [show (alg p F).ring = (⟨p, F.vars⟩ : ring) from rfl, e2, bd_some, impl_dense_degree_eq (dn64 hp d1), bd_some]; rfl), bdR_go, bd_some]
theorem plain_TranslatedDegree (a0 : Int) (a1 : Cnf) (a2 : List ResStep) (o : okI a0) (o0 : okCnf a1) (o1 : okL okResStep a2) : laws_FnExactTranslatedDegree a0 a1 a2 = some true := by
  unfold laws_FnExactTranslatedDegree
  obtain ⟨r0, q0, z0⟩ := sz_Cnf o0 (s := 1048576) (by omega) (by omega)
  rw [q0, bd_some]
  by_cases n0 : r0 < 0
  · simp [n0]
  obtain ⟨r1, q1, z1⟩ := sz_ResStepS o1 (s := r0) (by omega) (by omega)
  simp only [n0, decide_false, cond_false]
  rw [q1, bd_some]
  by_cases n1 : r1 < 0
  · simp [n1]
  simp only [n1, decide_false, cond_false]
  have t0 := to_Cnf (a := a1) (by unfold lim; omega)
  have t1 := to_ResStepS (a := a2) (by unfold lim; omega)
  have hs := spec_TranslatedDegree_eq (p := a0) o0 o1
  have hi := impl_TranslatedDegree_eq (p := a0) o0 o1
  simp only [t0, t1, hs, hi, bd_some, eq_ResStepS, eq_Cnf, BEq.rfl, Bool.not_true, cond_false, bif_tt, Bool.or_false]
end Go.PF
