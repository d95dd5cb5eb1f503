/- Polynomials modulo a small prime: by all their coefficients, and by their terms. Products of polynomials, literals and clauses as polynomials. The translation of a derivation into polynomials: the reference and the program put the same steps there. The translation of a derivation: the reference. The translation of a derivation: the program. The graded order of monomials and the leading monomial of a polynomial. Degrees, leading monomials, coefficients and inverses: what the program and the reference compute. The reference's basis of a span: rows that stand in order. The reference's basis of a span, its rounds. The program's echelon: a row more. The program's span. Lists of terms: copies, comparisons and marks. -/
import Derived.Test.YtjpjbfbloplacaaFcPlA
import Derived.Test.YtjpjbfbloplacaaFcLaA
set_option linter.unusedVariables false
namespace Go.PF
open Go.Pu
open Go.La (vadd co)
/-! terms -/
def spF : Nat → List Int → List Term
  | _, [] => []
  | i, x :: xs => bif x == 0 then spF (i + 1) xs else ⟨((i : Nat) : Int), x⟩ :: spF (i + 1) xs
def sp (a : List Int) : List Term := spF 0 a
def fuF : Nat → List Int → List Term
  | _, [] => []
  | i, x :: xs => ⟨((i : Nat) : Int), x⟩ :: fuF (i + 1) xs
def fu (a : List Int) : List Term := fuF 0 a
theorem spF_filter : ∀ {a : List Int} {i : Nat}, spF i a = (fuF i a).filter fun t => !(t.coeff == 0)
  | [], _ => rfl
  | x :: xs, i => by
    simp only [spF, fuF, List.filter_cons]
    rw [spF_filter (a := xs)]
    cases h : x == 0 <;> simp
structure Dn (p : Int) (N : Nat) (a : List Int) : Prop where
  len : a.length = N
  bd : ∀ x ∈ a, 0 ≤ x ∧ x < p
structure PV (p v : Int) : Prop where
  p1 : p = 2 ∨ p = 3 ∨ p = 5
  v0 : 0 ≤ v
  v6 : v ≤ 6
def nN (v : Int) : Nat := 2 ^ v.toNat
theorem PV.pos {p v : Int} (h : PV p v) : 1 < p ∧ p ≤ 5 := by rcases h.p1 with h | h | h <;> omega
theorem nN_le {v : Int} (h6 : v ≤ 6) : 1 ≤ nN v ∧ nN v ≤ 64 := by
  unfold nN
  have h : v.toNat ≤ 6 := by omega
  have h1 : 2 ^ v.toNat ≤ 2 ^ 6 := Nat.pow_le_pow_right (by decide) h
  have h2 : 1 ≤ 2 ^ v.toNat := Nat.one_le_two_pow
  omega
theorem shl_pow {v : Int} (h0 : 0 ≤ v) (h6 : v ≤ 6) : shlK true 64 1 v = ((nN v : Nat) : Int) := by
  have : v = 0 ∨ v = 1 ∨ v = 2 ∨ v = 3 ∨ v = 4 ∨ v = 5 ∨ v = 6 := by omega
  rcases this with rfl | rfl | rfl | rfl | rfl | rfl | rfl <;> decide
theorem orK_nat {i j v : Nat} (hv : v ≤ 6) (hi : i < 2 ^ v) (hj : j < 2 ^ v) : orK true 64 ((i : Nat) : Int) ((j : Nat) : Int) = ((i ||| j : Nat) : Int) ∧ i ||| j < 2 ^ v := by
  have hlt := Nat.or_lt_two_pow hi hj
  refine ⟨?_, hlt⟩
  have h6 : 2 ^ v ≤ 2 ^ 6 := Nat.pow_le_pow_right (by decide) hv
  have e1 : i % 18446744073709551616 = i := Nat.mod_eq_of_lt (by omega)
  have e2 : j % 18446744073709551616 = j := Nat.mod_eq_of_lt (by omega)
  unfold orK
  rw [BitVec.toNat_or]
  simp only [BitVec.ofInt_natCast, BitVec.toNat_ofNat]
  rw [show (2 : Nat) ^ 64 = 18446744073709551616 from rfl, e1, e2]
  generalize i ||| j = m at hlt ⊢
  unfold wrk
  simp only [Bool.true_and]
  have : ((m : Nat) : Int) % (2 ^ 64 : Int) = (m : Int) := Int.emod_eq_of_lt (by omega) (by simp; omega)
  rw [this, if_neg (by simp; omega)]
theorem nn_ok {n : Int} (h : 0 ≤ n) : nn n = some () := by unfold nn; rw [if_neg (by omega)]
theorem nz_ok {n : Int} (h : n ≠ 0) : nz n = some () := by unfold nz; rw [if_neg h]
theorem wr_sm {n : Int} (h1 : -1000000 ≤ n) (h2 : n ≤ 1000000) : wr n = n := wr_of _ (by omega) (by omega)
/-! from all coefficients to terms -/
theorem sp_loop {p : Int} (hp : p ≠ 0) {f : Nat → Int → List Term → Option (Lp (List Term) Empty)}
    (hf : ∀ i y s, f i y s = bif !((y.tmod p) == 0) then bd (app s [(Term.mk ((i : Nat) : Int) (y.tmod p))]) (fun xs => some (Lp.nx xs)) else some (Lp.nx s)) :
    ∀ {a : List Int} {i : Nat} {s : List Term}, s.length + a.length ≤ lim → forLFrom f a i s = some (.go (s ++ spF i (a.map fun y => y.tmod p))) := by
  intro a
  induction a with
  | nil => intro i s _; simp [forLFrom, spF]
  | cons x a ih =>
    intro i s hl
    simp only [List.length_cons] at hl
    simp only [List.map_cons, spF]
    cases h : x.tmod p == 0 with
    | true => rw [forLFrom_nx (s' := s) (by rw [hf, h]; rfl), ih (by omega)]; rfl
    | false =>
      rw [forLFrom_nx (s' := s ++ [⟨(i : Nat), x.tmod p⟩]) (by rw [hf, h]; simp only [Bool.not_false, cond_true]; rw [app_ok (by simp; omega), bd_some]), ih (by simp; omega)]
      simp
theorem spec_l18Sparse_eq {p : Int} (hp : p ≠ 0) {a : List Int} (hl : a.length ≤ lim) : spec_l18Sparse p a = some (sp (a.map fun y => y.tmod p)) := by
  unfold spec_l18Sparse forL
  rw [sp_loop hp (fun i y s => by rw [nz_ok hp, bd_some]) (by simpa using hl)]
  simp [sp]
theorem impl_terms_eq {a : List Int} (hl : a.length ≤ lim) : impl_dense_terms a = some (sp a) := by
  have key : ∀ {a : List Int} {i : Nat} {s : List Term}, s.length + a.length ≤ lim → forLFrom (X := Empty) (fun i22 y21 s22 => (bif (!(y21 == 0)) then bd (app s22 [(Term.mk ((i22 : Nat) : Int) y21)]) (fun xs80 => some (Lp.nx xs80)) else some (Lp.nx s22))) a i s = some (.go (s ++ spF i a)) := by
    intro a
    induction a with
    | nil => intro i s _; simp [forLFrom, spF]
    | cons x a ih =>
      intro i s hl
      simp only [List.length_cons] at hl
      simp only [spF]
      cases h : x == 0 with
      | true => rw [forLFrom_nx (s' := s) (by rw [h]; rfl), ih (by omega)]; rfl
      | false =>
        rw [forLFrom_nx (s' := s ++ [⟨(i : Nat), x⟩]) (by rw [h]; simp only [Bool.not_false, cond_true]; rw [app_ok (by simp; omega), bd_some]), ih (by simp; omega)]
        simp
  unfold impl_dense_terms forL
  rw [key (by simpa using hl)]
  simp [sp]
theorem tmod_small {x p : Int} (h : 0 ≤ x ∧ x < p) : x.tmod p = x := Int.tmod_eq_of_lt h.1 h.2
theorem map_tmod {p : Int} {a : List Int} (h : ∀ x ∈ a, 0 ≤ x ∧ x < p) : (a.map fun y => y.tmod p) = a := by
  conv => rhs; rw [← List.map_id a]
  exact List.map_congr_left fun x hx => tmod_small (h x hx)
/-! from terms to all coefficients -/
theorem dense_fold : ∀ (a pre : List Int), (spF pre.length a).foldl (fun s t => s.set t.mono.toNat t.coeff) (pre ++ List.replicate a.length 0) = pre ++ a
  | [], pre => by simp [spF]
  | x :: xs, pre => by
    simp only [spF, List.length_cons, List.replicate_succ]
    cases h : x == 0 with
    | true =>
      rw [beq_iff_eq] at h; subst h
      have := dense_fold xs (pre ++ [0])
      simp only [List.length_append, List.length_singleton, List.append_assoc, List.singleton_append] at this
      exact this
    | false =>
      have := dense_fold xs (pre ++ [x])
      simp only [List.length_append, List.length_singleton, List.append_assoc, List.singleton_append] at this
      simp only [cond_false, List.foldl_cons]
      have e : List.set (pre ++ (0 : Int) :: List.replicate xs.length 0) (((pre.length : Nat) : Int).toNat) x = pre ++ x :: List.replicate xs.length 0 := by simp
      rw [e]
      exact this
theorem mem_fuF : ∀ {a : List Int} {i : Nat} {t : Term}, t ∈ fuF i a → ∃ j : Nat, i ≤ j ∧ j < i + a.length ∧ t.mono = ((j : Nat) : Int) ∧ t.coeff ∈ a
  | [], _, _, h => by cases h
  | x :: xs, i, t, h => by
    rcases List.mem_cons.1 h with rfl | h
    · exact ⟨i, by omega, by simp, rfl, by simp⟩
    · obtain ⟨j, h1, h2, h3, h4⟩ := mem_fuF h
      exact ⟨j, by omega, by simp; omega, h3, by simp [h4]⟩
theorem mem_sp {a : List Int} {t : Term} (h : t ∈ sp a) : ∃ j : Nat, j < a.length ∧ t.mono = ((j : Nat) : Int) ∧ t.coeff ∈ a := by
  unfold sp at h; rw [spF_filter] at h
  obtain ⟨j, _, h2, h3, h4⟩ := mem_fuF (List.mem_filter.1 h).1
  exact ⟨j, by omega, h3, h4⟩
def zs (N : Nat) : List Int := List.replicate N 0
theorem zs_mk {v : Int} (h0 : 0 ≤ v) (h6 : v ≤ 6) : mk2 (0 : Int) (shlK true 64 1 v) (shlK true 64 1 v) = some (zs (nN v)) := by
  rw [shl_pow h0 h6]; exact mk2_ok (by have := nN_le h6; unfold lim; omega)
theorem spec_l18Dense_eq {v : Int} (h0 : 0 ≤ v) (h6 : v ≤ 6) {a : List Int} (ha : a.length = nN v) : spec_l18Dense v (sp a) = some a := by
  unfold spec_l18Dense
  rw [nn_ok h0, bd_some, zs_mk h0 h6, bd_some]
  refine bdR_foldI (X := Empty) (fun s (t : Term) => s.set t.mono.toNat t.coeff) (fun _ s => s.length = nN v) (by simp [zs]) (fun i t s ht hs => ?_) (fun _ => ?_)
  · obtain ⟨j, h1, h2, _⟩ := mem_sp (List.mem_of_getElem? ht)
    obtain ⟨x, hx⟩ : ∃ x, ix s t.mono = some x := by rw [h2, ix_get]; exact ⟨_, List.getElem?_eq_getElem (by omega)⟩
    rw [hx, bd_some, h2, put_ok (by omega), bd_some]
    exact ⟨by simp, by simp [hs]⟩
  · have := dense_fold a []
    simp only [List.length_nil, List.nil_append, ha] at this
    unfold sp zs
    rw [this]
theorem vadd_Dn {p k : Int} {N : Nat} {a b : List Int} (hp : 1 < p) (ha : a.length = N) (hb : b.length = N) : Dn p N (vadd p k a b) :=
  ⟨by unfold vadd; rw [List.length_zipWith, ha, hb]; omega, fun x hx => by
    unfold vadd at hx
    obtain ⟨i, hi, rfl⟩ := List.getElem_of_mem hx
    rw [List.getElem_zipWith]
    exact ⟨Int.emod_nonneg _ (by omega), Int.emod_lt_of_pos _ (by omega)⟩⟩
theorem mul_sm {k y : Int} (hk : 0 ≤ k ∧ k ≤ 5) (hy : 0 ≤ y ∧ y ≤ 5) : 0 ≤ k * y ∧ k * y ≤ 25 := by
  refine ⟨Int.mul_nonneg hk.1 hy.1, ?_⟩
  have := Int.mul_le_mul hk.2 hy.2 hy.1 (by omega)
  omega
theorem get_zip {f : Int → Int → Int} {a b : List Int} {j : Nat} {x y : Int} (hx : a[j]? = some x) (hy : b[j]? = some y) : (List.zipWith f a b)[j]? = some (f x y) := by
  rw [List.getElem?_zipWith, hx, hy]
@[irreducible] def lin (k x y : Int) : Int := x + k * y
theorem zs_Dn {p : Int} {N : Nat} (hp : 1 < p) : Dn p N (zs N) := ⟨by simp [zs], fun x hx => by unfold zs at hx; rw [List.mem_replicate] at hx; omega⟩
theorem slices_Clone_dense_eq {c : List Int} (hl : c.length ≤ lim) : slices_Clone_impl_dense_int c = some c := by
  unfold slices_Clone_impl_dense_int; rw [app_ok (by simpa using hl)]; rfl
theorem impl_zero_eq {r : ring} (h : PV r.p r.vars) : impl_ring_zero r = some (zs (nN r.vars)) := by
  unfold impl_ring_zero
  rw [nn_ok h.v0, bd_some, zs_mk h.v0 h.v6, bd_some]
theorem impl_plus_eq {r : ring} {k : Int} (h : PV r.p r.vars) (hk : 0 ≤ k ∧ k ≤ 5) {a b : List Int} (ha : Dn r.p (nN r.vars) a) (hb : Dn r.p (nN r.vars) b) : impl_ring_plus r a b k = some (vadd r.p k a b) := by
  have hp := h.pos; have hN := nN_le h.v6
  unfold impl_ring_plus
  rw [slices_Clone_dense_eq (by rw [ha.len]; unfold lim; omega), bd_some]
  obtain ⟨s, h1, h2⟩ := forL_inv (X := Empty) (l := b) (s := a) (body := (fun i40 y39 s40 => bd (ix s40 ((i40 : Nat) : Int)) (fun x117132 => bd (nz r.p) (fun u141127 => bd (ix s40 ((i40 : Nat) : Int)) (fun x144132 => bd (put s40 ((i40 : Nat) : Int) ((wr (x117132 + (wr (k * y39)))).tmod r.p)) (fun xs147129 => some (Lp.nx xs147129)))))))
    (fun i s => s.length = nN r.vars ∧ ∀ j, s[j]? = if j < i then (vadd r.p k a b)[j]? else a[j]?) ⟨ha.len, fun j => by simp⟩ (fun i y s hy hs => by
      have hi := (List.getElem?_eq_some_iff.1 hy).1
      rw [hb.len] at hi
      have hal := ha.len; have hbl := hb.len
      have hxa : a[i]? = some a[i] := List.getElem?_eq_getElem (by rw [ha.len]; exact hi)
      have bx := ha.bd a[i] (List.getElem_mem _); have by_ := hb.bd y (List.mem_of_getElem? hy)
      have hsi : s[i]? = some a[i] := by rw [hs.2, if_neg (Nat.lt_irrefl i), hxa]
      have hm := mul_sm hk (y := y) ⟨by omega, by omega⟩
      have w1 : wr (k * y) = k * y := wr_sm (by omega) (by omega)
      have w2 : wr (a[i] + k * y) = a[i] + k * y := wr_sm (by omega) (by omega)
      have w3 : (a[i] + k * y).tmod r.p = (a[i] + k * y) % r.p := Int.tmod_eq_emod_of_nonneg (by omega)
      have hil : i < s.length := by rw [hs.1]; exact hi
      have hpu : ∀ z, put s (i : Int) z = some (s.set i z) := fun z => put_ok hil
      simp only [ix_get, hsi, bd_some, nz_ok (show r.p ≠ 0 by omega), w1, w2, w3, hpu]
      refine ⟨_, rfl, by simp [hs.1], fun j => ?_⟩
      rw [List.getElem?_set]
      by_cases hij : i = j
      · subst hij
        rw [if_pos rfl, if_pos hil, if_pos (Nat.lt_succ_self i)]
        unfold vadd; rw [get_zip hxa hy]
      · rw [if_neg hij, hs.2]
        by_cases hlt2 : j < i
        · rw [if_pos hlt2, if_pos (Nat.lt_succ_of_lt hlt2)]
        · rw [if_neg hlt2, if_neg (fun h => by rcases Nat.lt_succ_iff_lt_or_eq.1 h with h | h; exact hlt2 h; exact hij h.symm)])
  rw [h1, bdR_go]
  have es : s = vadd r.p k a b := by
    apply List.ext_getElem?
    intro j
    rw [h2.2, hb.len]
    split
    · rfl
    · rw [List.getElem?_eq_none (by rw [ha.len]; omega), List.getElem?_eq_none (by rw [(vadd_Dn hp.1 ha.len hb.len).len]; omega)]
  rw [es]
end Go.PF
namespace Go.PF
open Go.Pu
open Go.La (vadd co)
theorem forL_sim {S X α σ : Type} {body : Nat → α → S → Option (Lp S X)} {F : σ → α → σ} (R : Nat → σ → S → Prop) {l : List α} {s : S} {t0 : σ} (h0 : R 0 t0 s)
    (hb : ∀ i x t s, l[i]? = some x → R i t s → ∃ s', body i x s = some (.nx s') ∧ R (i + 1) (F t x) s') : ∃ s', forL l body s = some (.go s') ∧ R l.length (l.foldl F t0) s' := by
  obtain ⟨s', h1, h2⟩ := forL_inv (X := X) (body := body) (fun i s => R i ((l.take i).foldl F t0) s) (l := l) (s := s) (by simpa using h0) (fun i x s hx hR => by
    obtain ⟨s', h1, h2⟩ := hb i x _ s hx hR
    refine ⟨s', h1, ?_⟩
    rw [List.take_add_one, hx]
    simpa using h2)
  rw [List.take_length] at h2
  exact ⟨s', h1, h2⟩
theorem bdR_sim {S X α σ β : Type} {body : Nat → α → S → Option (Lp S X)} {F : σ → α → σ} (R : Nat → σ → S → Prop) {l : List α} {s : S} {t0 : σ} {k : S → Option β} {lx : X → Option β} {r : Option β} (h0 : R 0 t0 s)
    (hb : ∀ i x t s, l[i]? = some x → R i t s → ∃ s', body i x s = some (.nx s') ∧ R (i + 1) (F t x) s') (hk : ∀ s', R l.length (l.foldl F t0) s' → k s' = r) : bdR (forL l body s) k lx = r := by
  obtain ⟨s', h1, h2⟩ := forL_sim R h0 hb
  rw [h1, bdR_go]; exact hk s' h2
def ms (p : Int) (acc : List Int) (t u : Term) : List Int := acc.set (t.mono.toNat ||| u.mono.toNat) ((co acc (t.mono.toNat ||| u.mono.toNat) + t.coeff * u.coeff) % p)
def mulT (p : Int) (N : Nat) (A B : List Term) : List Int := A.foldl (fun acc t => B.foldl (fun acc u => ms p acc t u) acc) (zs N)
structure TOk (p : Int) (N : Nat) (t : Term) : Prop where
  m : ∃ j : Nat, j < N ∧ t.mono = ((j : Nat) : Int)
  c : 0 ≤ t.coeff ∧ t.coeff < p
theorem sp_TOk {p : Int} {N : Nat} {a : List Int} (h : Dn p N a) : ∀ t ∈ sp a, TOk p N t := fun t ht => by
  obtain ⟨j, h1, h2, h3⟩ := mem_sp ht
  exact ⟨⟨j, by rw [← h.len]; exact h1, h2⟩, h.bd _ h3⟩
theorem fu_TOk {p : Int} {N : Nat} {a : List Int} (h : Dn p N a) : ∀ t ∈ fu a, TOk p N t := fun t ht => by
  obtain ⟨j, _, h2, h3, h4⟩ := mem_fuF ht
  exact ⟨⟨j, by rw [← h.len]; omega, h3⟩, h.bd _ h4⟩
theorem co_bd {p : Int} {N : Nat} {a : List Int} (hp : 1 < p) (h : Dn p N a) (m : Nat) : 0 ≤ co a m ∧ co a m < p := by
  by_cases hm : m < a.length
  · exact h.bd _ (List.mem_of_getElem? (Go.La.co_eq hm))
  · rw [Go.La.co_ge (by omega)]; omega
theorem ms_Dn {p : Int} {N : Nat} {acc : List Int} {t u : Term} (hp : 1 < p) (h : Dn p N acc) : Dn p N (ms p acc t u) :=
  ⟨by unfold ms; rw [List.length_set, h.len], fun x hx => by
    unfold ms at hx
    rcases List.mem_or_eq_of_mem_set hx with hx | rfl
    · exact h.bd x hx
    · exact ⟨Int.emod_nonneg _ (by omega), Int.emod_lt_of_pos _ (by omega)⟩⟩
theorem ms_in {p : Int} {N : Nat} {t : Term} (hp : 1 < p) : ∀ {B : List Term} {acc : List Int}, Dn p N acc → Dn p N (B.foldl (fun acc u => ms p acc t u) acc)
  | [], _, h => h
  | u :: B, acc, h => ms_in hp (B := B) (ms_Dn hp h)
theorem ms_out {p : Int} {N : Nat} {B : List Term} (hp : 1 < p) : ∀ {A : List Term} {acc : List Int}, Dn p N acc → Dn p N (A.foldl (fun acc t => B.foldl (fun acc u => ms p acc t u) acc) acc)
  | [], _, h => h
  | t :: A, acc, h => ms_out hp (A := A) (ms_in hp h)
theorem mulT_Dn {p : Int} {N : Nat} (hp : 1 < p) (A B : List Term) : Dn p N (mulT p N A B) := ms_out hp (zs_Dn hp)
theorem ms_zero {p : Int} {N : Nat} {acc : List Int} {t u : Term} (hp : 1 < p) (h : Dn p N acc) (hz : t.coeff * u.coeff = 0) : ms p acc t u = acc := by
  unfold ms
  generalize t.mono.toNat ||| u.mono.toNat = m
  have hb := co_bd hp h m
  rw [hz, Int.add_zero, Int.emod_eq_of_lt hb.1 hb.2]
  apply List.ext_getElem?
  intro j
  rw [List.getElem?_set]
  by_cases hj : m = j
  · subst hj
    rw [if_pos rfl]
    by_cases hm : m < acc.length
    · rw [if_pos hm, Go.La.co_eq hm]
    · rw [if_neg hm, List.getElem?_eq_none (by omega)]
  · rw [if_neg hj]
theorem foldl_filter_id {α β : Type} {f : β → α → β} {q : α → Bool} {I : β → Prop} (hI : ∀ b a, I b → I (f b a)) : ∀ {l : List α} {b : β}, I b → (∀ b a, I b → a ∈ l → q a = false → f b a = b) → (l.filter q).foldl f b = l.foldl f b
  | [], _, _, _ => rfl
  | a :: l, b, hb, h => by
    rw [List.foldl_cons, List.filter_cons]
    cases hq : q a with
    | true =>
      simp only [if_true, List.foldl_cons]
      exact foldl_filter_id hI (hI b a hb) fun b a hb ha => h b a hb (by simp [ha])
    | false =>
      rw [h b a hb (by simp) hq]
      exact foldl_filter_id hI hb fun b a hb ha => h b a hb (by simp [ha])
theorem mulT_fu {p : Int} {N : Nat} (hp : 1 < p) (a b : List Int) : mulT p N (fu a) (fu b) = mulT p N (sp a) (sp b) := by
  have h1 : ∀ (t : Term) (acc : List Int), Dn p N acc → (sp b).foldl (fun acc u => ms p acc t u) acc = (fu b).foldl (fun acc u => ms p acc t u) acc := fun t acc h => by
    unfold sp; rw [spF_filter]
    exact foldl_filter_id (I := Dn p N) (fun _ _ h => ms_Dn hp h) h fun b u hb _ hq => ms_zero hp hb (by rw [show u.coeff = 0 by simpa using hq, Int.mul_zero])
  have h2 : ∀ (A : List Term) (acc : List Int), Dn p N acc → A.foldl (fun acc t => (sp b).foldl (fun acc u => ms p acc t u) acc) acc = A.foldl (fun acc t => (fu b).foldl (fun acc u => ms p acc t u) acc) acc := by
    intro A
    induction A with
    | nil => intro acc _; rfl
    | cons t A ih => intro acc h; simp only [List.foldl_cons]; rw [h1 t acc h]; exact ih _ (ms_in hp h)
  unfold mulT
  rw [h2 _ _ (zs_Dn hp)]
  conv => rhs; unfold sp; rw [spF_filter]
  refine (foldl_filter_id (I := Dn p N) (fun _ _ h => ms_in hp h) (zs_Dn hp) fun acc t hb _ hq => ?_).symm
  have hz : t.coeff = 0 := by simpa using hq
  have : ∀ (B : List Term), B.foldl (fun acc u => ms p acc t u) acc = acc := by
    intro B
    induction B with
    | nil => rfl
    | cons u B ih => rw [List.foldl_cons, ms_zero hp hb (by rw [hz]; simp)]; exact ih
  exact this _
theorem mul_round {p : Int} {v : Int} (h : PV p v) {t u : Term} (ht : TOk p (nN v) t) (hu : TOk p (nN v) u) {s : List Int} (hs : Dn p (nN v) s) :
    bd (ix s (orK true 64 t.mono u.mono)) (fun x => bd (nz p) (fun _ => bd (ix s (orK true 64 t.mono u.mono)) (fun _ => bd (put s (orK true 64 t.mono u.mono) ((wr (x + (wr (t.coeff * u.coeff)))).tmod p)) (fun xs => some (Lp.nx (X := Empty) xs))))) = some (.nx (ms p s t u)) := by
  have hp := h.pos
  obtain ⟨i, hi, ei⟩ := ht.m; obtain ⟨j, hj, ej⟩ := hu.m
  obtain ⟨o1, o2⟩ := orK_nat (v := v.toNat) (by have := h.v6; omega) hi hj
  have hm : i ||| j < s.length := by rw [hs.len]; exact o2
  have hg : s[i ||| j]? = some (co s (i ||| j)) := Go.La.co_eq hm
  have hb := co_bd hp.1 hs (i ||| j)
  have hc := ht.c; have hd := hu.c
  have hx := mul_sm (k := t.coeff) (y := u.coeff) ⟨by omega, by omega⟩ ⟨by omega, by omega⟩
  have w1 : wr (t.coeff * u.coeff) = t.coeff * u.coeff := wr_sm (by omega) (by omega)
  have w2 : wr (co s (i ||| j) + t.coeff * u.coeff) = co s (i ||| j) + t.coeff * u.coeff := wr_sm (by omega) (by omega)
  have w3 : (co s (i ||| j) + t.coeff * u.coeff).tmod p = (co s (i ||| j) + t.coeff * u.coeff) % p := Int.tmod_eq_emod_of_nonneg (by omega)
  unfold ms
  rw [ei, ej, o1]
  simp only [ix_get, hg, bd_some, nz_ok (show p ≠ 0 by omega), w1, w2, w3, put_ok hm, Int.toNat_natCast]
theorem mul_inner {p v : Int} (h : PV p v) {t : Term} (ht : TOk p (nN v) t) {B : List Term} (hB : ∀ u ∈ B, TOk p (nN v) u) {s : List Int} (hs : Dn p (nN v) s)
    {f : Nat → Term → List Int → Option (Lp (List Int) Empty)} (hf : ∀ i u s, f i u s = bd (ix s (orK true 64 t.mono u.mono)) (fun x => bd (nz p) (fun _ => bd (ix s (orK true 64 t.mono u.mono)) (fun _ => bd (put s (orK true 64 t.mono u.mono) ((wr (x + (wr (t.coeff * u.coeff)))).tmod p)) (fun xs => some (Lp.nx xs)))))) :
    forL B f s = some (.go (B.foldl (fun acc u => ms p acc t u) s)) :=
  (forL_foldI (fun acc u => ms p acc t u) (l := B) (s := s) (fun _ s => Dn p (nN v) s) hs (fun i u s hu hs => ⟨by rw [hf]; exact mul_round h ht (hB u (List.mem_of_getElem? hu)) hs, ms_Dn h.pos.1 hs⟩)).1
theorem spec_l18Mul_eq {p v : Int} (h : PV p v) {A B : List Term} (hA : ∀ t ∈ A, TOk p (nN v) t) (hB : ∀ u ∈ B, TOk p (nN v) u) : spec_l18Mul p v A B = some (sp (mulT p (nN v) A B)) := by
  have hp := h.pos; have hN := nN_le h.v6
  unfold spec_l18Mul
  rw [nn_ok h.v0, bd_some, zs_mk h.v0 h.v6, bd_some]
  refine bdR_foldI (X := Empty) (fun acc t => B.foldl (fun acc u => ms p acc t u) acc) (fun _ s => Dn p (nN v) s) (zs_Dn hp.1) (fun i t s ht hs => ?_) (fun hI => ?_)
  · have htk := hA t (List.mem_of_getElem? ht)
    rw [mul_inner h htk hB hs (fun _ _ _ => rfl), bdR_go]
    exact ⟨rfl, ms_in hp.1 hs⟩
  · rw [spec_l18Sparse_eq (by omega) (by rw [hI.len]; unfold lim; omega), bd_some, map_tmod hI.bd]
    rfl
theorem forL_fu {S X : Type} {F : Int → Int → S → Option (Lp S X)} : ∀ {a : List Int} {i k : Nat} {s : S}, forLFrom (fun i y s => F ((i : Nat) : Int) y s) a i s = forLFrom (fun _ (t : Term) s => F t.mono t.coeff s) (fuF i a) k s
  | [], _, _, _ => rfl
  | x :: a, i, k, s => by
    simp only [fuF, forLFrom]
    cases F ((i : Nat) : Int) x s with
    | none => rfl
    | some q =>
      cases q with
      | nx s' => exact forL_fu
      | bk s' => rfl
      | rt x => rfl
theorem impl_times_eq {r : ring} (h : PV r.p r.vars) {a b : List Int} (ha : Dn r.p (nN r.vars) a) (hb : Dn r.p (nN r.vars) b) : impl_ring_times r a b = some (mulT r.p (nN r.vars) (sp a) (sp b)) := by
  have hp := h.pos
  unfold impl_ring_times
  rw [impl_zero_eq h, bd_some, ← mulT_fu hp.1]
  unfold forL
  refine Eq.trans (congrArg (fun z => bdR z _ _) (forL_fu (X := Empty) (k := 0) (F := fun m y s40 => bdR (forLFrom (S := (List Int)) (X := Empty) (fun i252331 y252330 s252331 => bd (ix s252331 (orK true 64 m ((i252331 : Nat) : Int))) (fun x405448 => bd (nz r.p) (fun u429443 => bd (ix s252331 (orK true 64 m ((i252331 : Nat) : Int))) (fun x432448 => bd (put s252331 (orK true 64 m ((i252331 : Nat) : Int)) ((wr (x405448 + (wr (y * y252330)))).tmod r.p)) (fun xs435445 => some (Lp.nx xs435445)))))) b 0 s40) (fun s252331 => some (Lp.nx s252331)) (fun x252331 => nomatch x252331)))) ?_
  refine bdR_foldI (X := Empty) (fun acc t => (fu b).foldl (fun acc u => ms r.p acc t u) acc) (l := fu a) (fun _ s => Dn r.p (nN r.vars) s) (zs_Dn hp.1) (fun i t s ht hs => ?_) (fun hI => rfl)
  have htk := fu_TOk ha t (List.mem_of_getElem? ht)
  have e2 := forL_fu (X := Empty) (a := b) (i := 0) (s := s) (k := 0) (F := fun m y s252331 => bd (ix s252331 (orK true 64 t.mono m)) (fun x405448 => bd (nz r.p) (fun u429443 => bd (ix s252331 (orK true 64 t.mono m)) (fun x432448 => bd (put s252331 (orK true 64 t.mono m) ((wr (x405448 + (wr (t.coeff * y)))).tmod r.p)) (fun xs435445 => some (Lp.nx xs435445))))))
  have := mul_inner h htk (fu_TOk hb) hs (f := fun _ (u : Term) s252331 => bd (ix s252331 (orK true 64 t.mono u.mono)) (fun x405448 => bd (nz r.p) (fun u429443 => bd (ix s252331 (orK true 64 t.mono u.mono)) (fun x432448 => bd (put s252331 (orK true 64 t.mono u.mono) ((wr (x405448 + (wr (t.coeff * u.coeff)))).tmod r.p)) (fun xs435445 => some (Lp.nx xs435445)))))) (fun _ _ _ => rfl)
  unfold forL at this
  have e3 := e2.trans this
  refine ⟨?_, ms_in hp.1 hs⟩
  exact (congrArg (fun z => bdR z _ _) e3).trans rfl
/-! literals -/
def eD (N k : Nat) : List Int := (zs N).set k 1
def bt (u : Int) : Nat := nN (u - 1)
theorem bt_lt {u v : Int} (h1 : 1 ≤ u) (h2 : u ≤ v) : 1 ≤ bt u ∧ bt u < nN v := by
  unfold bt nN
  exact ⟨Nat.one_le_two_pow, Nat.pow_lt_pow_right (by decide) (by omega)⟩
theorem eD_Dn {p : Int} {N k : Nat} (hp : 1 < p) : Dn p N (eD N k) :=
  ⟨by simp [eD, zs], fun x hx => by
    unfold eD at hx
    rcases List.mem_or_eq_of_mem_set hx with hx | rfl
    · exact (zs_Dn hp).bd x hx
    · omega⟩
theorem spF_zero : ∀ {n i : Nat}, spF i (List.replicate n 0) = []
  | 0, _ => rfl
  | n + 1, i => by rw [List.replicate_succ]; simp only [spF, BEq.rfl, cond_true]; exact spF_zero
theorem spF_set {x : Int} (hx : x ≠ 0) : ∀ {n i k : Nat}, k < n → spF i ((List.replicate n 0).set k x) = [⟨((i + k : Nat) : Int), x⟩]
  | 0, _, _, h => by omega
  | n + 1, i, 0, _ => by
    rw [List.replicate_succ, List.set_cons_zero]
    simp only [spF, show (x == 0) = false by rw [beq_eq_false_iff_ne]; exact hx, cond_false, spF_zero, Nat.add_zero]
  | n + 1, i, k + 1, h => by
    rw [List.replicate_succ, List.set_cons_succ]
    simp only [spF, BEq.rfl, cond_true]
    rw [spF_set hx (show k < n by omega), show i + 1 + k = i + (k + 1) by omega]
theorem sp_eD {N k : Nat} (h : k < N) : sp (eD N k) = [⟨((k : Nat) : Int), 1⟩] := by
  unfold sp eD zs
  rw [spF_set (by decide) h, Nat.zero_add]
def litD (p : Int) (N : Nat) (l : Int) : List Int := bif decide (0 < l) then eD N (bt l) else vadd p (p - 1) (eD N 0) (eD N (bt (-l)))
theorem litD_Dn {p : Int} {N : Nat} (hp : 1 < p) (l : Int) : Dn p N (litD p N l) := by
  unfold litD
  cases decide (0 < l)
  · exact vadd_Dn hp (eD_Dn hp).len (eD_Dn hp).len
  · exact eD_Dn hp
theorem zip_set {p k : Int} (hp : 1 < p) (hk : 0 ≤ k ∧ k < p) : ∀ {n m : Nat}, List.zipWith (fun x y => (x + k * y) % p) (List.replicate n 0) ((List.replicate n 0).set m 1) = (List.replicate n 0).set m k
  | 0, m => by simp
  | n + 1, 0 => by
    rw [List.replicate_succ, List.set_cons_zero, List.set_cons_zero, List.zipWith_cons_cons]
    have e : (0 + k * 1) % p = k := by rw [Int.zero_add, Int.mul_one]; exact Int.emod_eq_of_lt hk.1 hk.2
    rw [e]
    congr 1
    rw [List.zipWith_replicate]
    simp
  | n + 1, m + 1 => by
    rw [List.replicate_succ, List.set_cons_succ, List.set_cons_succ, List.zipWith_cons_cons, zip_set hp hk]
    simp
theorem sp_lit_pos {p v u : Int} (h1 : 1 ≤ u) (h2 : u ≤ v) : sp (litD p (nN v) u) = [⟨((bt u : Nat) : Int), 1⟩] := by
  unfold litD
  rw [show decide (0 < u) = true from decide_eq_true (by omega), cond_true]
  exact sp_eD (bt_lt h1 h2).2
theorem sp_lit_neg {p v u : Int} (hp : 1 < p) (h1 : 1 ≤ u) (h2 : u ≤ v) : sp (litD p (nN v) (-u)) = [⟨0, 1⟩, ⟨((bt u : Nat) : Int), p - 1⟩] := by
  unfold litD
  rw [show decide (0 < -u) = false from decide_eq_false (by omega), cond_false, Int.neg_neg]
  obtain ⟨b1, b2⟩ := bt_lt h1 h2
  generalize nN v = N at b2 ⊢
  obtain ⟨n, rfl⟩ : ∃ n, N = n + 1 := ⟨N - 1, by omega⟩
  obtain ⟨m, hm⟩ : ∃ m, bt u = m + 1 := ⟨bt u - 1, by omega⟩
  rw [hm]
  have e : vadd p (p - 1) (eD (n + 1) 0) (eD (n + 1) (m + 1)) = 1 :: (List.replicate n 0).set m (p - 1) := by
    unfold vadd eD zs
    rw [List.replicate_succ, List.set_cons_zero, List.set_cons_succ, List.zipWith_cons_cons, zip_set hp ⟨by omega, by omega⟩]
    congr 1
    rw [Int.mul_zero, Int.add_zero]; exact Int.emod_eq_of_lt (by omega) hp
  rw [e]
  unfold sp
  simp only [spF, show ((1 : Int) == 0) = false from rfl, cond_false]
  rw [spF_set (by omega) (by omega), show 0 + 1 + m = m + 1 by omega]
  rfl
theorem impl_mono_eq {r : ring} (h : PV r.p r.vars) {k : Nat} (hk : k < nN r.vars) : impl_ring_mono r ((k : Nat) : Int) = some (eD (nN r.vars) k) := by
  unfold impl_ring_mono
  rw [impl_zero_eq h, bd_some, ix_get, show (zs (nN r.vars))[k]? = some 0 by unfold zs; rw [List.getElem?_replicate, if_pos hk], bd_some, put_ok (by simp [zs]; exact hk), bd_some]
  rfl
theorem shl_bt {u : Int} (h1 : 1 ≤ u) (h2 : u ≤ 6) : shlK true 64 1 (wr (u - 1)) = ((bt u : Nat) : Int) := by
  rw [wr_sm (by omega) (by omega)]
  exact shl_pow (by omega) (by omega)
theorem impl_literal_eq {r : ring} (h : PV r.p r.vars) {l : Int} (h0 : l ≠ 0) (h1 : -r.vars ≤ l) (h2 : l ≤ r.vars) : impl_ring_literal r l = some (litD r.p (nN r.vars) l) := by
  have hp := h.pos; have h6 := h.v6
  unfold impl_ring_literal litD
  cases hd : decide (0 < l) with
  | true =>
    have hl := of_decide_eq_true hd
    simp only [cond_true]
    rw [nn_ok (by rw [wr_sm (by omega) (by omega)]; omega), bd_some, shl_bt (by omega) (by omega), impl_mono_eq h (bt_lt (by omega) h2).2, bd_some]
  | false =>
    have hl := of_decide_eq_false hd
    have e : wr (-l) = -l := wr_sm (by omega) (by omega)
    have m0 : impl_ring_mono r 0 = some (eD (nN r.vars) 0) := impl_mono_eq h (k := 0) (by have := nN_le h.v6; omega)
    simp only [cond_false]
    rw [m0, bd_some, e, nn_ok (by rw [wr_sm (by omega) (by omega)]; omega), bd_some, shl_bt (u := -l) (by omega) (by omega), impl_mono_eq h (bt_lt (u := -l) (by omega) (by omega)).2, bd_some,
      wr_sm (show -1000000 ≤ r.p - 1 by omega) (by omega), impl_plus_eq h ⟨by omega, by omega⟩ (eD_Dn hp.1) (eD_Dn hp.1), bd_some]
/-! clauses -/
def clD (p : Int) (N : Nat) (c : List Int) : List Int := c.foldl (fun acc l => mulT p N (sp acc) (sp (litD p N (-l)))) (eD N 0)
theorem clD_Dn {p : Int} {N : Nat} (hp : 1 < p) (c : List Int) : Dn p N (clD p N c) := by
  unfold clD
  have : ∀ (c : List Int) (a : List Int), Dn p N a → Dn p N (c.foldl (fun acc l => mulT p N (sp acc) (sp (litD p N (-l)))) a) := by
    intro c
    induction c with
    | nil => intro a h; exact h
    | cons l c ih => intro a h; exact ih _ (mulT_Dn hp _ _)
  exact this c _ (eD_Dn hp)
theorem IsC.lits {V : Int} {c : List Int} (h : IsC V c) : ∀ l ∈ c, -V ≤ l ∧ l ≤ V ∧ l ≠ 0 := fun l hl => by have := h.lit l hl; omega
theorem vr_nat {l : Int} (h1 : -12 ≤ l) (h2 : l ≤ 12) : vr l = bif decide (l < 0) then -l else l := by
  unfold vr
  rw [wr_sm (n := -l) (by omega) (by omega)]
theorem spec_l18Clause_eq {p v : Int} (h : PV p v) {c : List Int} (hc : IsC v c) : spec_l18Clause p v c = some (sp (clD p (nN v) c)) := by
  have hp := h.pos; have h6 := h.v6; have hN := nN_le h.v6
  unfold spec_l18Clause
  refine bdR_sim (X := Empty) (F := fun acc l => mulT p (nN v) (sp acc) (sp (litD p (nN v) (-l)))) (t0 := eD (nN v) 0) (fun _ t s => s = sp t ∧ Dn p (nN v) t) ⟨by rw [sp_eD (N := nN v) (k := 0) (by omega)]; rfl, eD_Dn hp.1⟩ (fun i l t s hl hs => ?_) (fun s' hs' => ?_)
  · obtain ⟨rfl, hD⟩ := hs
    have hlt := hc.lits l (List.mem_of_getElem? hl)
    have hv := vr_nat (l := l) (by omega) (by omega)
    refine ⟨_, ?_, rfl, mulT_Dn hp.1 _ _⟩
    simp only [spec_l2Var_eq]
    cases hd : decide (l < 0) with
    | true =>
      have hn := of_decide_eq_true hd
      rw [hd, cond_true] at hv
      rw [hv, nn_ok (by rw [wr_sm (by omega) (by omega)]; omega), bd_some, shl_bt (u := -l) (by omega) (by omega)]
      simp only [cond_true]
      rw [← sp_lit_pos (p := p) (v := v) (u := -l) (by omega) (by omega), spec_l18Mul_eq h (sp_TOk hD) (sp_TOk (litD_Dn hp.1 _)), bd_some]
    | false =>
      have hn := of_decide_eq_false hd
      rw [hd, cond_false] at hv
      rw [hv, nn_ok (by rw [wr_sm (by omega) (by omega)]; omega), bd_some, shl_bt (u := l) (by omega) (by omega), wr_sm (show -1000000 ≤ p - 1 by omega) (by omega)]
      simp only [cond_false]
      rw [← sp_lit_neg (p := p) (v := v) (u := l) hp.1 (by omega) (by omega), spec_l18Mul_eq h (sp_TOk hD) (sp_TOk (litD_Dn hp.1 _)), bd_some]
  · rw [hs'.1]; rfl
theorem impl_ring_clause_eq {r : ring} (h : PV r.p r.vars) {c : List Int} (hc : IsC r.vars c) : impl_ring_clause r c = some (clD r.p (nN r.vars) c) := by
  have hp := h.pos; have h6 := h.v6; have hN := nN_le h.v6
  unfold impl_ring_clause
  have m0 : impl_ring_mono r 0 = some (eD (nN r.vars) 0) := impl_mono_eq h (k := 0) (by omega)
  rw [m0, bd_some]
  refine bdR_foldI (X := Empty) (fun acc l => mulT r.p (nN r.vars) (sp acc) (sp (litD r.p (nN r.vars) (-l)))) (fun _ t => Dn r.p (nN r.vars) t) (eD_Dn hp.1) (fun i l t hl hD => ?_) (fun _ => rfl)
  have hlt := hc.lits l (List.mem_of_getElem? hl)
  rw [wr_sm (n := -l) (by omega) (by omega), impl_literal_eq h (by omega) (by omega) (by omega), bd_some, impl_times_eq h hD (litD_Dn hp.1 _), bd_some]
  exact ⟨rfl, mulT_Dn hp.1 _ _⟩
end Go.PF
namespace Go.PF
open Go.Pu
open Go.La (vadd co)
end Go.PF
namespace Go.PF
open Go.Pu
open Go.La (vadd co)
end Go.PF
namespace Go.PF
open Go.Pu
open Go.La (vadd co)
def pvB (p v : Int) : Bool := (p == 2 || p == 3 || p == 5) && inB v 0 6
theorem pvB_iff {p v : Int} : pvB p v = true ↔ PV p v := by
  unfold pvB
  rw [Bool.and_eq_true, Bool.or_eq_true, Bool.or_eq_true, beq_iff_eq, beq_iff_eq, beq_iff_eq, inB_iff]
  constructor
  · rintro ⟨h1, h2, h3⟩; exact ⟨by rcases h1 with (h | h) | h <;> omega, h2, h3⟩
  · rintro ⟨h1, h2, h3⟩; exact ⟨by rcases h1 with h | h | h <;> simp [h], h2, h3⟩
theorem bif_or (a b : Bool) : (bif a then true else b) = (a || b) := by cases a <;> rfl
theorem bif_and (a b : Bool) : (bif a then b else false) = (a && b) := by cases a <;> rfl
theorem spec_l18Prime_eq (p v : Int) : spec_l18Prime p v = pvB p v := by
  unfold spec_l18Prime pvB
  rw [spec_l1In_eq, bif_or, bif_or, bif_and]
theorem impl_ringOf_eq (p v : Int) : impl_ringOf p v = (⟨p, v⟩, pvB p v) := by
  unfold impl_ringOf pvB
  rw [impl_within_eq, bif_or, bif_or, bif_and]
def alg (p : Int) (F : Cnf) : algebra := ⟨⟨p, F.vars⟩, ⟨F.vars, F.clauses⟩, F.clauses.map fun c => clD p (nN F.vars) c⟩
def algB (p : Int) (F : Cnf) : Bool := pvB p F.vars && cnfB F
theorem cnf_bds {F : Cnf} (h : cnfB F = true) : F.clauses.length ≤ 60 ∧ ∀ c ∈ F.clauses, IsC F.vars c := by
  unfold cnfB at h
  rw [Bool.and_eq_true, Bool.and_eq_true, decide_eq_true_eq, List.all_eq_true, len_eq] at h
  exact ⟨by omega, fun c hc => clauseB_iff.1 (h.2 c hc)⟩
theorem impl_algebraOf_eq {p : Int} {F : Cnf} (hF : okCnf F) : impl_algebraOf p F = some (bif algB p F then (some (alg p F), true) else (none, false)) := by
  unfold impl_algebraOf algB
  rw [impl_ringOf_eq]
  cases h1 : pvB p F.vars with
  | false => rfl
  | true =>
    simp only [Bool.not_true, cond_false]
    rw [impl_IsCnf_eq hF, bd_some]
    cases h2 : cnfB F with
    | false => rfl
    | true =>
      have h := pvB_iff.1 h1
      obtain ⟨b1, b2⟩ := cnf_bds h2
      simp only [Bool.not_true, cond_false, bd_some, Bool.and_self, cond_true]
      refine bdR_sim (X := Empty) (F := fun (t : List (List Int)) c => t ++ [clD p (nN F.vars) c]) (t0 := []) (fun i t s => s = (t, p, F.vars, F.vars, F.clauses) ∧ t.length ≤ i ∧ t = (F.clauses.take i).map fun c => clD p (nN F.vars) c) ⟨rfl, Nat.le_refl _, rfl⟩ (fun i c t s hc hs => ?_) (fun s' hs' => ?_)
      · obtain ⟨rfl, hl, ht⟩ := hs
        have hi := (List.getElem?_eq_some_iff.1 hc).1
        refine ⟨(t ++ [clD p (nN F.vars) c], p, F.vars, F.vars, F.clauses), ?_, rfl, by simp; omega, ?_⟩
        · rw [impl_ring_clause_eq (r := ⟨p, F.vars⟩) h (b2 c (List.mem_of_getElem? hc)), bd_some]
          simp only
          rw [app_ok (by simp; unfold lim; omega), bd_some]
        · rw [List.take_add_one, hc, List.map_append, ← ht]; rfl
      · obtain ⟨rfl, _, ht⟩ := hs'
        rw [ht, List.take_length]; rfl
end Go.PF
namespace Go.PF
open Go.Pu
open Go.La (vadd co V Ctx)
def pc (m : Nat) : Nat := m % 2 + m / 2 % 2 + m / 4 % 2 + m / 8 % 2 + m / 16 % 2 + m / 32 % 2
def ky (m : Nat) : Nat := if m < 64 then pc m * 64 + m else m + 1000
theorem pc_le (m : Nat) : pc m ≤ 6 := by unfold pc; omega
theorem ky_inj {m n : Nat} (h : ky m = ky n) : m = n := by
  have h1 := pc_le m; have h2 := pc_le n
  unfold ky at h
  generalize pc m = x at *; generalize pc n = y at *
  split at h <;> split at h <;> omega
def best (a : List Int) : Nat → Option Nat
  | 0 => none
  | n + 1 => if co a n = 0 then best a n else match best a n with
    | none => some n
    | some m => if ky m < ky n then some n else some m
theorem best_spec (a : List Int) : ∀ n, (best a n = none → ∀ k, k < n → co a k = 0) ∧ (∀ m, best a n = some m → m < n ∧ co a m ≠ 0 ∧ ∀ k, k < n → co a k ≠ 0 → ky k ≤ ky m) := by
  intro n
  induction n with
  | zero => exact ⟨fun _ k hk => by omega, fun m h => by simp [best] at h⟩
  | succ n ih =>
    unfold best
    by_cases h0 : co a n = 0
    · rw [if_pos h0]
      refine ⟨fun h k hk => ?_, fun m h => ?_⟩
      · by_cases hk' : k = n
        · rw [hk']; exact h0
        · exact ih.1 h k (by omega)
      · obtain ⟨h1, h2, h3⟩ := ih.2 m h
        refine ⟨by omega, h2, fun k hk hne => ?_⟩
        by_cases hk' : k = n
        · rw [hk'] at hne; exact absurd h0 hne
        · exact h3 k (by omega) hne
    · rw [if_neg h0]
      cases hb : best a n with
      | none =>
        refine ⟨nofun, fun m h => ?_⟩
        cases h
        refine ⟨by omega, h0, fun k hk hne => ?_⟩
        by_cases hk' : k = n
        · rw [hk']; exact Nat.le_refl _
        · exact absurd (ih.1 hb k (by omega)) hne
      | some m =>
        obtain ⟨h1, h2, h3⟩ := ih.2 m hb
        simp only
        by_cases hlt : ky m < ky n
        · rw [if_pos hlt]
          refine ⟨nofun, fun q h => ?_⟩
          cases h
          refine ⟨by omega, h0, fun k hk hne => ?_⟩
          by_cases hk' : k = n
          · rw [hk']; exact Nat.le_refl _
          · have := h3 k (by omega) hne; omega
        · rw [if_neg hlt]
          refine ⟨nofun, fun q h => ?_⟩
          cases h
          refine ⟨by omega, h2, fun k hk hne => ?_⟩
          by_cases hk' : k = n
          · rw [hk']; omega
          · exact h3 k (by omega) hne
def bst (a : List Int) : Option Nat := best a a.length
def ldP (a : List Int) : Nat := (bst a).getD 0
theorem bst_none {a : List Int} (h : bst a = none) (m : Nat) : co a m = 0 := by
  by_cases hm : m < a.length
  · exact (best_spec a a.length).1 h m hm
  · exact Go.La.co_ge (by omega)
theorem bst_some {a : List Int} {m : Nat} (h : bst a = some m) : m < a.length ∧ co a m ≠ 0 ∧ ∀ k, co a k ≠ 0 → ky k ≤ ky m := by
  obtain ⟨h1, h2, h3⟩ := (best_spec a a.length).2 m h
  refine ⟨h1, h2, fun k hne => h3 k ?_ hne⟩
  exact Classical.byContradiction fun hno => hne (Go.La.co_ge (by omega))
theorem bst_ld {a : List Int} {m : Nat} (h : co a m ≠ 0) : bst a = some (ldP a) := by
  cases hb : bst a with
  | none => exact absurd (bst_none hb m) h
  | some k => unfold ldP; rw [hb]; rfl
def ctx (p : Int) (N : Nat) (hp : 1 < p) : Ctx where
  p := p
  N := N
  key := ky
  ld := ldP
  hp := hp
  inj := fun _ _ h => ky_inj h
  nz := fun a m h => (bst_some (bst_ld h)).2.1
  mx := fun a m h => (bst_some (bst_ld h)).2.2 m h
theorem Dn.v {p : Int} {N : Nat} {a : List Int} (h : Dn p N a) (hp : 1 < p) : V p N a := ⟨h.len, fun n => co_bd hp h n⟩
theorem dn_of_v {p : Int} {N : Nat} {a : List Int} (h : V p N a) : Dn p N a := ⟨h.len, fun x hx => by
  obtain ⟨n, hn⟩ := List.getElem?_of_mem hx
  have := Go.La.co_eq (List.getElem?_eq_some_iff.1 hn).1
  rw [hn] at this; cases this; exact h.bd n⟩
/-! over the terms -/
def bstT (o : Option Nat) (t : Term) : Option Nat := match o with
  | none => some t.mono.toNat
  | some m => if ky m < ky t.mono.toNat then some t.mono.toNat else some m
theorem co_app {a : List Int} {x : Int} {b : List Int} : co (a ++ x :: b) a.length = x := by unfold co; simp
theorem best_sp (b : List Int) : ∀ (a : List Int), (spF a.length b).foldl bstT (best (a ++ b) a.length) = best (a ++ b) (a ++ b).length := by
  induction b with
  | nil => intro a; simp [spF]
  | cons x b ih =>
    intro a
    have h1 := ih (a ++ [x])
    simp only [List.append_assoc, List.singleton_append, List.length_append, List.length_singleton] at h1
    have h2 : best (a ++ x :: b) (a.length + 1) = bif x == 0 then best (a ++ x :: b) a.length else bstT (best (a ++ x :: b) a.length) ⟨((a.length : Nat) : Int), x⟩ := by
      conv => lhs; unfold best
      rw [co_app]
      by_cases h0 : x = 0
      · rw [if_pos h0, h0]; rfl
      · rw [if_neg h0, show (x == 0) = false by simp [h0]]
        unfold bstT
        simp only [cond_false, Int.toNat_natCast]
    rw [h2] at h1
    unfold spF
    cases hx : x == 0 with
    | true =>
      rw [hx] at h1
      simp only [cond_true] at h1 ⊢
      rw [h1]; simp
    | false =>
      rw [hx] at h1
      simp only [cond_false, List.foldl_cons] at h1 ⊢
      rw [h1]; simp
theorem bst_sp (a : List Int) : (sp a).foldl bstT none = bst a := by
  have := best_sp a []
  simpa [best, sp, bst] using this
def ldI (a : List Int) : Int := match bst a with | none => -1 | some m => ((m : Nat) : Int)
def dgI (a : List Int) : Int := match bst a with | none => -1 | some m => ((pc m : Nat) : Int)
theorem isz_bst {a : List Int} : Go.La.isz a = (bst a).isNone := by
  cases hb : bst a with
  | none => exact Go.La.isz_iff.2 (bst_none hb)
  | some m =>
    cases hz : Go.La.isz a with
    | false => rfl
    | true => exact absurd (Go.La.isz_iff.1 hz m) (bst_some hb).2.1
theorem ldI_neg {a : List Int} : decide (ldI a < 0) = Go.La.isz a := by
  rw [isz_bst]; unfold ldI
  cases bst a with
  | none => rfl
  | some m => simp
theorem ldI_pos {a : List Int} (h : Go.La.isz a = false) : ldI a = ((ldP a : Nat) : Int) ∧ ldP a < a.length := by
  rw [isz_bst] at h
  cases hb : bst a with
  | none => rw [hb] at h; cases h
  | some m =>
    have e : ldP a = m := by unfold ldP; rw [hb]; rfl
    refine ⟨by unfold ldI; rw [hb, e], ?_⟩
    rw [e]; exact (bst_some hb).1
theorem ky_lt {m n : Nat} (hm : m < 64) (hn : n < 64) : ky m < ky n ↔ pc m < pc n ∨ (pc m = pc n ∧ m < n) := by
  unfold ky
  rw [if_pos hm, if_pos hn]
  generalize pc m = x; generalize pc n = y
  omega
end Go.PF
namespace Go.PF
open Go.Pu
open Go.La (vadd co V Ctx)
/-! degrees of monomials -/
theorem pc_half (m : Nat) (h : m < 64) : pc m = m % 2 + pc (m / 2) := by unfold pc; omega
theorem l14_iter {body : Int × Int → Option (Lp (Int × Int) Empty)} (hb : ∀ s, body s = bif decide (0 < s.1) then some (.nx (wr (s.1.tdiv 2), wr (s.2 + s.1.tmod 2))) else some (.bk (s.1, s.2))) :
    ∀ (n m c : Nat), n ≤ 6 → m < 2 ^ n → c + n ≤ 100 → iter body (((m : Nat) : Int), ((c : Nat) : Int)) = some (.go (0, ((c + pc m : Nat) : Int))) := by
  intro n
  induction n with
  | zero =>
    intro m c _ hm _
    have e : m = 0 := by simpa using hm
    subst e
    refine iter_bk ?_
    rw [hb]; rfl
  | succ n ih =>
    intro m c hn hm hc
    by_cases h0 : m = 0
    · subst h0
      refine iter_bk ?_
      rw [hb]; rfl
    · have h64 : m < 64 := Nat.lt_of_lt_of_le hm (Nat.pow_le_pow_right (by omega) (show n + 1 ≤ 6 by omega))
      have h2 : m / 2 < 2 ^ n := by rw [Nat.pow_succ] at hm; omega
      have e1 : wr (((m : Nat) : Int).tdiv 2) = ((m / 2 : Nat) : Int) := by
        have : ((m : Nat) : Int).tdiv 2 = ((m / 2 : Nat) : Int) := by rw [Int.tdiv_eq_ediv_of_nonneg (by omega)]; omega
        rw [this]; exact wr_of _ (by omega) (by omega)
      have e2 : wr (((c : Nat) : Int) + ((m : Nat) : Int).tmod 2) = ((c + m % 2 : Nat) : Int) := by
        have : ((m : Nat) : Int).tmod 2 = ((m % 2 : Nat) : Int) := by rw [Int.tmod_eq_emod_of_nonneg (by omega)]; omega
        rw [this]; rw [wr_of _ (by omega) (by omega)]; omega
      rw [iter_nx (s' := (((m / 2 : Nat) : Int), ((c + m % 2 : Nat) : Int))) (by rw [hb, show decide (0 < (((m : Nat) : Int), ((c : Nat) : Int)).1) = true by simp; omega, cond_true, e1, e2])]
      rw [ih (m / 2) (c + m % 2) (by omega) h2 (by omega), pc_half m h64]
      rw [Nat.add_assoc]
theorem spec_l14Count_eq {m : Nat} (h : m < 64) : spec_l14Count ((m : Nat) : Int) = some ((pc m : Nat) : Int) := by
  unfold spec_l14Count
  have := l14_iter (body := (fun s21 => (bif (decide (0 < s21.1)) then some (Lp.nx ((wr (s21.1.tdiv 2)), (wr (s21.2 + (s21.1.tmod 2))))) else some (Lp.bk (s21.1, s21.2))))) (fun _ => rfl) 6 m 0 (Nat.le_refl _) h (by omega)
  rw [show (((0 : Nat) : Int)) = 0 from rfl] at this
  rw [this, bdR_go]; simp
theorem deg_tab : (List.range 64).all (fun m => impl_degreeOf ((m : Nat) : Int) == ((pc m : Nat) : Int)) = true := by decide +kernel
theorem impl_degreeOf_eq {m : Nat} (h : m < 64) : impl_degreeOf ((m : Nat) : Int) = ((pc m : Nat) : Int) := by
  have := (List.all_eq_true.1 deg_tab) m (by simpa using h)
  simpa using this
/-! the order -/
def cmI (m n : Nat) : Int := if ky m < ky n then -1 else if ky n < ky m then 1 else 0
theorem cmp_int_eq (x y : Int) : cmp_Compare_int x y = if x < y then -1 else if y < x then 1 else 0 := by
  unfold cmp_Compare_int cmp_isNaN_int
  by_cases h1 : x < y <;> by_cases h2 : y < x <;> simp [h1, h2]
theorem cmp_or_eq (x y : Int) : cmp_Or_int [x, y] = some (if x = 0 then y else x) := by
  unfold cmp_Or_int forL
  by_cases hx : x = 0
  · subst hx
    by_cases hy : y = 0
    · subst hy; rfl
    · have : (!(y == 0)) = true := by simp [hy]
      simp only [forLFrom, beq_self_eq_true, Bool.not_true, cond_false, this, cond_true, bdR_rt, if_pos]
  · have : (!(x == 0)) = true := by simp [hx]
    simp only [forLFrom, this, cond_true, bdR_rt, if_neg hx]
theorem impl_compareMonos_eq {m n : Nat} (hm : m < 64) (hn : n < 64) : impl_compareMonos ((m : Nat) : Int) ((n : Nat) : Int) = some (cmI m n) := by
  unfold impl_compareMonos
  rw [impl_degreeOf_eq hm, impl_degreeOf_eq hn, cmp_int_eq, cmp_int_eq, cmp_or_eq]
  simp only [bd_some]
  congr 1
  unfold cmI
  have e1 := ky_lt hm hn; have e2 := ky_lt hn hm
  generalize pc m = x at *; generalize pc n = y at *
  generalize ky m = k at *; generalize ky n = l at *
  by_cases a1 : x < y
  · have : k < l := by omega
    simp [a1, this]
  · by_cases a2 : y < x
    · have h1 : ¬ k < l := by omega
      have h2 : l < k := by omega
      simp [h1, h2, a1, a2]
    · have hxy : x = y := by omega
      subst hxy
      by_cases b1 : m < n
      · have : k < l := by omega
        simp [b1, this]
      · by_cases b2 : n < m
        · have h1 : ¬ k < l := by omega
          have h2 : l < k := by omega
          simp [b1, b2, h1, h2]
        · have h1 : ¬ k < l := by omega
          have h2 : ¬ l < k := by omega
          simp [b1, b2, h1, h2]
/-! loops over all coefficients -/
theorem sp_T64 {a : List Int} (h : a.length ≤ 64) : ∀ t ∈ sp a, ∃ j : Nat, j < 64 ∧ t.mono = ((j : Nat) : Int) := fun t ht => by
  obtain ⟨j, h1, h2, _⟩ := mem_sp ht
  exact ⟨j, by omega, h2⟩
theorem co_loop {S : Type} {f : Nat → Int → S → Option (Lp S Empty)} {g : S → Term → S} (I : S → Prop) {a : List Int} (ha : a.length ≤ 64) {s : S} (h0 : I s)
    (hf : ∀ (i : Nat) (y : Int) (s : S), i < 64 → I s → f i y s = (bif !(y == 0) then some (.nx (g s ⟨((i : Nat) : Int), y⟩)) else some (.nx s)) ∧ (y ≠ 0 → I (g s ⟨((i : Nat) : Int), y⟩))) : forL a f s = some (.go ((sp a).foldl g s)) := by
  have key : ∀ (b : List Int) (i : Nat) (s : S), i + b.length ≤ 64 → I s → forLFrom f b i s = some (.go ((spF i b).foldl g s)) := by
    intro b
    induction b with
    | nil => intro i s _ _; rfl
    | cons y b ih =>
      intro i s hi hs
      simp only [List.length_cons] at hi
      obtain ⟨h1, h2⟩ := hf i y s (by omega) hs
      unfold spF
      cases hy : y == 0 with
      | true =>
        rw [forLFrom_nx (s' := s) (by rw [h1, hy]; rfl)]
        exact ih (i + 1) s (by omega) hs
      | false =>
        rw [forLFrom_nx (s' := g s ⟨((i : Nat) : Int), y⟩) (by rw [h1, hy]; rfl), cond_false, List.foldl_cons]
        exact ih (i + 1) _ (by omega) (h2 (by simpa using hy))
  exact key a 0 s (by omega) h0
def ldO (o : Option Nat) : Int := match o with | none => -1 | some m => ((m : Nat) : Int)
def dgO (o : Option Nat) : Int := match o with | none => -1 | some m => ((pc m : Nat) : Int)
def stL (s : Int) (t : Term) : Int := if s < 0 then t.mono else if ky s.toNat < ky t.mono.toNat then t.mono else s
def stD (s : Int) (t : Term) : Int := mx s ((pc t.mono.toNat : Nat) : Int)
theorem stL_ldO {o : Option Nat} {t : Term} (h : ∃ j : Nat, j < 64 ∧ t.mono = ((j : Nat) : Int)) : stL (ldO o) t = ldO (bstT o t) := by
  obtain ⟨j, h1, h2⟩ := h
  unfold stL bstT ldO
  cases o with
  | none => simp [h2]
  | some m =>
    simp only [h2, Int.toNat_natCast]
    rw [if_neg (by omega)]
    by_cases hk : ky m < ky j
    · rw [if_pos hk, if_pos hk]
    · rw [if_neg hk, if_neg hk]
theorem ky_mono {m n : Nat} (hm : m < 64) (hn : n < 64) (h : ky m < ky n) : pc m ≤ pc n := by have := (ky_lt hm hn).1 h; omega
theorem stD_dgO {o : Option Nat} (ho : ∀ m, o = some m → m < 64) {t : Term} (h : ∃ j : Nat, j < 64 ∧ t.mono = ((j : Nat) : Int)) : stD (dgO o) t = dgO (bstT o t) ∧ (∀ m, bstT o t = some m → m < 64) := by
  obtain ⟨j, h1, h2⟩ := h
  unfold stD bstT dgO mx
  cases o with
  | none =>
    simp only [h2, Int.toNat_natCast]
    refine ⟨if_pos (by omega), fun m e => by cases e; exact h1⟩
  | some m =>
    have hm := ho m rfl
    simp only [h2, Int.toNat_natCast]
    by_cases hk : ky m < ky j
    · have := ky_mono hm h1 hk
      rw [if_pos hk]
      refine ⟨?_, fun k e => by cases e; exact h1⟩
      split <;> simp only <;> omega
    · rw [if_neg hk]
      have : pc j ≤ pc m := by
        by_cases he : ky m = ky j
        · rw [ky_inj he]; exact Nat.le_refl _
        · exact ky_mono h1 hm (by omega)
      refine ⟨?_, fun k e => by cases e; exact hm⟩
      split <;> simp only <;> omega
theorem stL_fold : ∀ {l : List Term} {o : Option Nat}, (∀ t ∈ l, ∃ j : Nat, j < 64 ∧ t.mono = ((j : Nat) : Int)) → l.foldl stL (ldO o) = ldO (l.foldl bstT o)
  | [], _, _ => rfl
  | t :: l, o, h => by
    rw [List.foldl_cons, List.foldl_cons, stL_ldO (h t (by simp))]
    exact stL_fold fun t ht => h t (by simp [ht])
theorem stD_fold : ∀ {l : List Term} {o : Option Nat}, (∀ m, o = some m → m < 64) → (∀ t ∈ l, ∃ j : Nat, j < 64 ∧ t.mono = ((j : Nat) : Int)) → l.foldl stD (dgO o) = dgO (l.foldl bstT o)
  | [], _, _, _ => rfl
  | t :: l, o, ho, h => by
    obtain ⟨h1, h2⟩ := stD_dgO ho (h t (by simp))
    rw [List.foldl_cons, List.foldl_cons, h1]
    exact stD_fold h2 fun t ht => h t (by simp [ht])
theorem fold_ld {a : List Int} (ha : a.length ≤ 64) : (sp a).foldl stL (-1) = ldI a := by
  have := stL_fold (o := none) (sp_T64 ha)
  rw [bst_sp] at this
  exact this
theorem fold_dg {a : List Int} (ha : a.length ≤ 64) : (sp a).foldl stD (-1) = dgI a := by
  have := stD_fold (o := none) nofun (sp_T64 ha)
  rw [bst_sp] at this
  exact this
theorem impl_leading_eq {a : List Int} (ha : a.length ≤ 64) : impl_leading a = some (ldI a) := by
  unfold impl_leading
  rw [co_loop (g := stL) (fun s => s = -1 ∨ ∃ m : Nat, m < 64 ∧ s = ((m : Nat) : Int)) ha (.inl rfl) (fun i y s hi hs => by
    constructor
    · cases hy : !(y == 0) with
      | false => rfl
      | true =>
        simp only [cond_true]
        rcases hs with rfl | ⟨m, hm, rfl⟩
        · rfl
        · have : decide ((((m : Nat)) : Int) < 0) = false := by simp
          rw [this, cond_false, impl_compareMonos_eq hi hm]
          simp only [bd_some]
          unfold stL
          rw [if_neg (by omega)]
          simp only [Int.toNat_natCast]
          unfold cmI
          by_cases h1 : ky i < ky m
          · rw [if_pos h1, if_neg (by omega)]; rfl
          · rw [if_neg h1]
            by_cases h2 : ky m < ky i
            · rw [if_pos h2, if_pos h2]; rfl
            · rw [if_neg h2, if_neg h2]; rfl
    · intro _
      unfold stL
      rcases hs with rfl | ⟨m, hm, rfl⟩
      · exact .inr ⟨i, hi, by simp⟩
      · rw [if_neg (by omega)]
        split
        · exact .inr ⟨i, hi, rfl⟩
        · exact .inr ⟨m, hm, rfl⟩), bdR_go, fold_ld ha]
theorem impl_dense_degree_eq {a : List Int} (ha : a.length ≤ 64) : impl_dense_degree a = some (dgI a) := by
  unfold impl_dense_degree
  rw [co_loop (g := stD) (fun _ => True) ha trivial (fun i y s hi _ => by
    refine ⟨?_, fun _ => trivial⟩
    rw [impl_degreeOf_eq hi]
    unfold stD
    simp only [Int.toNat_natCast]), bdR_go, fold_dg ha]
/-! over the terms -/
def iv (p c : Int) : Int := bif c == 1 then 1 else bif p == 3 then 2 else bif c == 2 then 3 else bif c == 3 then 2 else 4
theorem pc_cases {p c : Int} (hp : p = 2 ∨ p = 3 ∨ p = 5) (h0 : 0 < c) (h1 : c < p) : (p = 2 ∧ c = 1) ∨ (p = 3 ∧ c = 1) ∨ (p = 3 ∧ c = 2) ∨ (p = 5 ∧ c = 1) ∨ (p = 5 ∧ c = 2) ∨ (p = 5 ∧ c = 3) ∨ (p = 5 ∧ c = 4) := by omega
theorem iv_inv {p : Int} {N : Nat} (hp : p = 2 ∨ p = 3 ∨ p = 5) (h1 : 1 < p) : Go.La.Inv (ctx p N h1) (iv p) := by
  intro c h0 hlt
  rcases pc_cases hp h0 hlt with ⟨rfl, rfl⟩ | ⟨rfl, rfl⟩ | ⟨rfl, rfl⟩ | ⟨rfl, rfl⟩ | ⟨rfl, rfl⟩ | ⟨rfl, rfl⟩ | ⟨rfl, rfl⟩
  · exact (by decide : (2 : Int) ∣ iv 2 1 * 1 - 1)
  · exact (by decide : (3 : Int) ∣ iv 3 1 * 1 - 1)
  · exact (by decide : (3 : Int) ∣ iv 3 2 * 2 - 1)
  · exact (by decide : (5 : Int) ∣ iv 5 1 * 1 - 1)
  · exact (by decide : (5 : Int) ∣ iv 5 2 * 2 - 1)
  · exact (by decide : (5 : Int) ∣ iv 5 3 * 3 - 1)
  · exact (by decide : (5 : Int) ∣ iv 5 4 * 4 - 1)
theorem impl_ring_inverse_eq {p v c : Int} (hp : p = 2 ∨ p = 3 ∨ p = 5) (h0 : 0 < c) (h1 : c < p) : impl_ring_inverse ⟨p, v⟩ c = some (iv p c) := by
  unfold impl_ring_inverse
  rcases pc_cases hp h0 h1 with ⟨rfl, rfl⟩ | ⟨rfl, rfl⟩ | ⟨rfl, rfl⟩ | ⟨rfl, rfl⟩ | ⟨rfl, rfl⟩ | ⟨rfl, rfl⟩ | ⟨rfl, rfl⟩
  · rw [iter_rt (x := 1) (by rfl)]; rfl
  · rw [iter_rt (x := 1) (by rfl)]; rfl
  · rw [iter_nx (s' := 2) (by rfl), iter_rt (x := 2) (by rfl)]; rfl
  · rw [iter_rt (x := 1) (by rfl)]; rfl
  · rw [iter_nx (s' := 2) (by rfl), iter_nx (s' := 3) (by rfl), iter_rt (x := 3) (by rfl)]; rfl
  · rw [iter_nx (s' := 2) (by rfl), iter_rt (x := 2) (by rfl)]; rfl
  · rw [iter_nx (s' := 2) (by rfl), iter_nx (s' := 3) (by rfl), iter_nx (s' := 4) (by rfl), iter_rt (x := 4) (by rfl)]; rfl
end Go.PF
namespace Go.PF
open Go.Pu
open Go.La (vadd co V Ctx Red redL red1 row1 monic isz putS putAll ins Srt lk fixG)
abbrev cx {p v : Int} (h : PV p v) : Ctx := ctx p (nN v) h.pos.1
theorem iter_sim {σ α T X : Type} {xs : List α} {body : T → Option (Lp T X)} {F : σ → α → σ} (P : Nat → σ → T → Prop) (Q : σ → T → Prop) {s0 : σ} {t0 : T} (h0 : P 0 s0 t0)
    (h : ∀ i x s t, xs[i]? = some x → P i s t → ∃ t', body t = some (.nx t') ∧ P (i + 1) (F s x) t') (he : ∀ s t, P xs.length s t → ∃ t', body t = some (.bk t') ∧ Q s t') :
    ∃ t', iter body t0 = some (.go t') ∧ Q (xs.foldl F s0) t' := by
  have key : ∀ (m : List α) (k : Nat) (s : σ) (t : T), k + m.length = xs.length → (∀ i y, m[i]? = some y → xs[k + i]? = some y) → P k s t → ∃ t', iter body t = some (.go t') ∧ Q (m.foldl F s) t' := by
    intro m
    induction m with
    | nil =>
      intro k s t hk _ hI
      simp only [List.length_nil, Nat.add_zero] at hk
      subst hk
      obtain ⟨t', h1, h2⟩ := he s t hI
      exact ⟨t', iter_bk h1, h2⟩
    | cons y m ih =>
      intro k s t hk hm hI
      obtain ⟨t', h1, h2⟩ := h k y s t (by have := hm 0 y rfl; simpa using this) hI
      rw [iter_nx h1]
      exact ih (k + 1) (F s y) t' (by simp at hk; omega) (fun i z hz => by have := hm (i + 1) z (by simpa using hz); rwa [show k + (i + 1) = k + 1 + i by omega] at this) h2
  exact key xs 0 s0 t0 (by simp) (by simp) h0
theorem Red.nz {C : Ctx} {R : List (List Int)} (hR : Red C R) {r : List Int} (hr : r ∈ R) : isz r = false := by
  cases hz : isz r with
  | false => rfl
  | true => exact absurd (Go.La.isz_iff.1 hz _) (hR.nzr hr)
theorem cx_ld {p v : Int} (h : PV p v) (a : List Int) : (cx h).ld a = ldP a := rfl
theorem v64 {p v : Int} (h : PV p v) {a : List Int} (ha : V p (nN v) a) : a.length ≤ 64 := by rw [ha.len]; exact (nN_le h.v6).2
theorem wr_pc {p c : Int} (hp : 1 < p ∧ p ≤ 5) (hc : 0 ≤ c ∧ c < p) : wr (p - c) = p - c ∧ 0 ≤ p - c ∧ p - c ≤ 5 := ⟨wr_sm (by omega) (by omega), by omega, by omega⟩
end Go.PF
namespace Go.PF
open Go.Pu
open Go.La (vadd co V Ctx Red redL isz putS putAll Srt fixG)
theorem sp_len {a : List Int} : (sp a).length ≤ a.length := by
  have : ∀ (a : List Int) (i : Nat), (spF i a).length ≤ a.length := by
    intro a
    induction a with
    | nil => intro i; simp [spF]
    | cons x a ih =>
      intro i
      unfold spF
      cases x == 0 with
      | true => have := ih (i + 1); simp only [cond_true, List.length_cons]; omega
      | false => have := ih (i + 1); simp only [cond_false, List.length_cons]; omega
  exact this a 0
end Go.PF
namespace Go.PF
open Go.Pu
open Go.La (vadd co V Ctx Red redL red1 row1 monic isz add1 addR addAll fixG)
theorem forR_sim {S X α σ : Type} {xs : List α} {body : Nat → S → Option (Lp S X)} {F : σ → α → σ} (P : Nat → σ → S → Prop) {t0 : σ} {s0 : S} (h0 : P 0 t0 s0)
    (h : ∀ i x t s, xs[i]? = some x → P i t s → ∃ s', body i s = some (.nx s') ∧ P (i + 1) (F t x) s') : ∃ s', forR 0 xs.length body s0 = some (.go s') ∧ P xs.length (xs.foldl F t0) s' := by
  have key : ∀ (m : List α) (k : Nat) (t : σ) (s : S), k + m.length = xs.length → (∀ i y, m[i]? = some y → xs[k + i]? = some y) → P k t s → ∃ s', forFrom body m.length k s = some (.go s') ∧ P xs.length (m.foldl F t) s' := by
    intro m
    induction m with
    | nil =>
      intro k t s hk _ hP
      simp only [List.length_nil, Nat.add_zero] at hk
      subst hk
      exact ⟨s, rfl, hP⟩
    | cons y m ih =>
      intro k t s hk hm hP
      obtain ⟨s', h1, h2⟩ := h k y t s (by have := hm 0 y rfl; simpa using this) hP
      simp only [List.length_cons, forFrom, h1, List.foldl_cons]
      exact ih (k + 1) _ s' (by simp at hk; omega) (fun i z hz => by have := hm (i + 1) z (by simpa using hz); rwa [show k + (i + 1) = k + 1 + i by omega] at this) h2
  unfold forR
  exact key xs 0 t0 s0 (by simp) (by simp) h0
theorem chk_ok {A : Type} {xs : List A} (h : xs.length ≤ 1000000) : chk (len xs) = some xs.length := by
  unfold chk; rw [if_pos (by rw [len_eq]; omega), len_eq]; simp
def Mk (p : Int) (n : Nat) (M : List (List Int)) : Prop := M.length = n ∧ ∀ m ∈ M, m.length ≤ n ∧ Dn p m.length m
theorem set_Dn {p : Int} {n : Nat} {s : List Int} (hs : Dn p n s) {i : Nat} {x : Int} (hx : 0 ≤ x ∧ x < p) : Dn p n (s.set i x) :=
  ⟨by rw [List.length_set, hs.len], fun y hy => by
    rcases List.mem_or_eq_of_mem_set hy with hy | rfl
    · exact hs.bd y hy
    · exact hx⟩
theorem tm_bd {p x : Int} (hp : 1 < p) (hx : 0 ≤ x) : 0 ≤ x.tmod p ∧ x.tmod p < p := by
  rw [Int.tmod_eq_emod_of_nonneg hx]
  exact ⟨Int.emod_nonneg _ (by omega), Int.emod_lt_of_pos _ (by omega)⟩
theorem lin_bd {p c x y : Int} (hp : 1 < p ∧ p ≤ 5) (hc : 0 ≤ c ∧ c ≤ 5) (hx : 0 ≤ x ∧ x < p) (hy : 0 ≤ y ∧ y < p) : 0 ≤ (wr (x + wr (c * y))).tmod p ∧ (wr (x + wr (c * y))).tmod p < p := by
  have := mul_sm hc (y := y) ⟨by omega, by omega⟩
  rw [wr_sm (n := c * y) (by omega) (by omega), wr_sm (by omega) (by omega)]
  exact tm_bd hp.1 (by omega)
theorem dn_get {p : Int} {n : Nat} {s : List Int} (hs : Dn p n s) {i : Nat} (hi : i < n) : ∃ x, ix s ((i : Nat) : Int) = some x ∧ (0 ≤ x ∧ x < p) ∧ i < s.length := by
  have hl : i < s.length := by rw [hs.len]; exact hi
  exact ⟨s[i], ix_nat (List.getElem?_eq_getElem hl), hs.bd _ (List.getElem_mem _), hl⟩
theorem rep_Dn {p : Int} (hp : 1 < p) {n : Nat} : Dn p n (List.replicate n 0) := zs_Dn (N := n) hp
theorem iv_lt {p c : Int} (hp : p = 2 ∨ p = 3 ∨ p = 5) (h0 : 0 < c) (h1 : c < p) : 0 ≤ iv p c ∧ iv p c < p := by
  rcases pc_cases hp h0 h1 with ⟨rfl, rfl⟩ | ⟨rfl, rfl⟩ | ⟨rfl, rfl⟩ | ⟨rfl, rfl⟩ | ⟨rfl, rfl⟩ | ⟨rfl, rfl⟩ | ⟨rfl, rfl⟩ <;> decide
theorem app_Dn {p : Int} (hp : 1 < p) {m : List Int} (hm : Dn p m.length m) {k : Nat} : Dn p (m.length + k) (m ++ List.replicate k 0) :=
  ⟨by simp, fun x hx => by
    rcases List.mem_append.1 hx with hx | hx
    · exact hm.bd x hx
    · rw [List.mem_replicate] at hx; omega⟩
end Go.PF
namespace Go.PF
open Go.Pu
open Go.La (vadd co V Ctx Red redL isz add1 addAll fixG lk)
theorem cmI_neg {m n : Nat} : cmI m n < 0 ↔ ky m < ky n := by
  unfold cmI
  by_cases h1 : ky m < ky n
  · simp [h1]
  · by_cases h2 : ky n < ky m <;> simp [h1, h2]
end Go.PF
namespace Go.PF
open Go.Pu
theorem eq_Term (a : Term) : laws_eqTerm a a = true := by unfold laws_eqTerm; simp
theorem eq_TermS (a : List Term) : laws_eqTermS a a = some true :=
  eq_list (eq := fun x y => some (laws_eqTerm x y)) (fun _ _ _ => rfl) (fun y _ => by rw [eq_Term])
theorem eq_TermSS (a : List (List Term)) : laws_eqTermSS a a = some true := eq_list (eq := laws_eqTermS) (fun _ _ _ => rfl) (fun y _ => eq_TermS y)
theorem tot_two {A : Type} (l : List A) : tot (fun _ => 2) l = 2 * l.length := by induction l with
  | nil => rfl
  | cons _ l ih => simp [tot, ih]; omega
theorem wr2 {k : Int} (h0 : 0 ≤ k) (h1 : k + 2 ≤ 9223372036854775807) : wr (k + 1) = k + 1 ∧ wr (k + 1 + 1) = k + 2 := by
  exact ⟨wr_of _ (by omega) (by omega), by rw [wr_of _ (by omega) (by omega)]; omega⟩
def wTs (a : List Term) : Nat := 2 * a.length
theorem mark_TermS {a : List Term} {k : Int} (h0 : 0 ≤ k) (h1 : k + wTs a ≤ 9223372036854775807) : (laws_markTermS a k).2 = k + wTs a := by
  unfold wTs at *
  have := mark_end (F := fun (_ : Term) m => (Term.mk m (wr (m + 1)), wr (wr (m + 1) + 1))) (wt := fun _ => 2) (l := a) (k := k) (fun y _ k h0 h1 => by
    obtain ⟨a1, a2⟩ := wr2 h0 h1
    simp only [a1, a2]; rfl) h0 (by rw [tot_two]; omega)
  rw [tot_two] at this
  unfold laws_markTermS
  rw [this]
theorem held_TermS {a : List Term} {k : Int} (h0 : 0 ≤ k) (h1 : k + wTs a ≤ 9223372036854775807) : laws_heldTermS (laws_markTermS a k).1 k = some (laws_markTermS a k).2 := by
  unfold wTs at *
  unfold laws_heldTermS forL laws_markTermS
  rw [held_list (wt := fun _ => 2) (fun y _ k h0 h1 => ?_) h0 (by rw [tot_two]; omega)]
  · rfl
  · obtain ⟨a1, a2⟩ := wr2 h0 h1
    refine ⟨by simp only [a1, a2]; rfl, fun i => ?_⟩
    simp only [a1, a2, BEq.rfl, Bool.not_true, cond_false]
theorem mark_TermSS {a : List (List Term)} {k : Int} (h0 : 0 ≤ k) (h1 : k + tot wTs a ≤ 9223372036854775807) : (laws_markTermSS a k).2 = k + tot wTs a :=
  mark_end (wt := wTs) (fun _ _ _ h0 h1 => mark_TermS h0 h1) h0 h1
theorem held_TermSS {a : List (List Term)} {k : Int} (h0 : 0 ≤ k) (h1 : k + tot wTs a ≤ 9223372036854775807) : laws_heldTermSS (laws_markTermSS a k).1 k = some (laws_markTermSS a k).2 := by
  unfold laws_heldTermSS forL laws_markTermSS
  rw [held_list (wt := wTs) (fun y _ k h0 h1 => ?_) h0 h1]
  · rfl
  · have e := mark_TermS (a := y) h0 h1
    have hh := held_TermS (a := y) h0 h1
    refine ⟨e, fun i => ?_⟩
    rw [hh, bd_some]
    have hd : decide ((laws_markTermS y k).2 < 0) = false := by rw [decide_eq_false_iff_not, e]; omega
    rw [hd]; rfl
end Go.PF
