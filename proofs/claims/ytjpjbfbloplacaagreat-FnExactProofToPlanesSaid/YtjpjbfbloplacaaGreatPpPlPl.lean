/- Planes: the inequalities of clauses and literals, sums, halves: the reference's and the program's. -/
import Derived.Test.YtjpjbfbloplacaaGreatPpPl8
set_option linter.unusedVariables false
namespace Go.PF
open Go.Pu
def plI (V : Nat) (φ : Nat → Int) (b : Int) : Inequality := ⟨(List.range V).map φ, b⟩
theorem pl_at {V k : Nat} (φ : Nat → Int) (h : k < V) : ((List.range V).map φ)[k]? = some (φ k) := by
  rw [List.getElem?_map, List.getElem?_range h]; rfl
theorem pl_ext {V : Nat} {φ : Nat → Int} {xs : List Int} (hl : xs.length = V) (h : ∀ k, k < V → xs[k]? = some (φ k)) : xs = (List.range V).map φ := by
  refine List.ext_getElem? fun k => ?_
  by_cases hk : k < V
  · rw [h k hk, pl_at φ hk]
  · rw [List.getElem?_eq_none (by omega), List.getElem?_eq_none (by simp; omega)]
def cfA (c : List Int) (j : Nat) : Int := if ((j : Int) + 1) ∈ c then 1 else if -((j : Int) + 1) ∈ c then -1 else 0
def negs : List Int → Int
  | [] => 0
  | l :: c => (if l < 0 then 1 else 0) + negs c
theorem negs_bd : ∀ c : List Int, 0 ≤ negs c ∧ negs c ≤ c.length
  | [] => ⟨Int.le_refl _, Int.le_refl _⟩
  | l :: c => by
    have := negs_bd c
    simp only [negs, List.length_cons]
    split <;> omega
def ofC (V : Nat) (s : List Int × Int) (y : Int) : List Int × Int := if 0 < y then (s.1.set (y - 1).toNat 1, s.2) else (s.1.set (-y - 1).toNat (-1), s.2 - 1)
theorem ofC_fold {V : Nat} : ∀ (c pre : List Int) (b : Int), (∀ l ∈ pre ++ c, l ≠ 0 ∧ l.natAbs ≤ V) → (pre ++ c).Pairwise (fun a b => a.natAbs < b.natAbs) →
    c.foldl (ofC V) ((List.range V).map (cfA pre), b) = ((List.range V).map (cfA (pre ++ c)), b - negs c)
  | [], pre, b, _, _ => by simp [negs]
  | y :: c, pre, b, h, hp => by
    have hy := h y (by simp)
    have hpre : ∀ a ∈ pre, a.natAbs < y.natAbs := fun a ha => (List.pairwise_append.1 hp).2.2 a ha y (by simp)
    have e : ofC V ((List.range V).map (cfA pre), b) y = ((List.range V).map (cfA (pre ++ [y])), if y < 0 then b - 1 else b) := by
      have key : ∀ (j : Nat) (s : Int), (j : Int) + 1 = y.natAbs → cfA (pre ++ [y]) j = s → ((List.range V).map (cfA pre)).set j s = (List.range V).map (cfA (pre ++ [y])) := fun j s hj hs => by
        refine pl_ext (by simp) fun k hk => ?_
        rw [List.getElem?_set]
        by_cases hjk : j = k
        · subst hjk; rw [if_pos rfl, if_pos (by simpa using hk), hs]
        · rw [if_neg hjk, pl_at _ hk]
          congr 1
          unfold cfA
          simp only [List.mem_append, List.mem_singleton]
          have n1 : (k : Int) + 1 ≠ y := by omega
          have n2 : -((k : Int) + 1) ≠ y := by omega
          simp only [n1, n2, or_false]
      unfold ofC
      by_cases h0 : 0 < y
      · rw [if_pos h0, if_neg (by omega)]
        rw [key (y - 1).toNat 1 (by omega) ?_]
        unfold cfA
        rw [if_pos (by rw [show (((y - 1).toNat : Nat) : Int) + 1 = y by omega]; simp)]
      · rw [if_neg h0, if_pos (by omega)]
        rw [key (-y - 1).toNat (-1) (by omega) ?_]
        unfold cfA
        rw [if_neg, if_pos (by rw [show -((((-y - 1).toNat : Nat) : Int) + 1) = y by omega]; simp)]
        rw [show (((-y - 1).toNat : Nat) : Int) + 1 = -y by omega, List.mem_append, List.mem_singleton]
        rintro (h | h)
        · have := hpre _ h; omega
        · omega
    rw [List.foldl_cons, e, ofC_fold c (pre ++ [y]) _ (by simpa using h) (by simpa using hp)]
    simp only [List.append_assoc, List.singleton_append, negs]
    congr 1
    split <;> omega
theorem zs_pl (V : Nat) : List.replicate V (0 : Int) = (List.range V).map (cfA []) := by
  refine pl_ext (by simp) fun k hk => ?_
  rw [List.getElem?_replicate, if_pos hk]
  simp [cfA]
def bC (c : List Int) : Int := 1 - negs c
theorem planeOf_bdR {V : Int} {c : List Int} (hc : IsC V c) {lx : Empty → Option Inequality} {body : Nat → Int → List Int × Int → Option (Lp (List Int × Int) Empty)}
    (hb : ∀ i y s, body i y s = bif decide (0 < y) then bd (ix s.1 (wr (y - 1))) (fun _ => bd (put s.1 (wr (y - 1)) 1) fun xs => some (Lp.nx (xs, s.2))) else bd (ix s.1 (wr (wr (-y) - 1))) (fun _ => bd (put s.1 (wr (wr (-y) - 1)) (-1)) fun xs => some (Lp.nx (xs, wr (s.2 - 1))))) :
    bd (mk2 (0 : Int) V V) (fun xs => bdR (forL c body (xs, 1)) (fun s => some (Inequality.mk s.1 s.2)) lx) = some (plI V.toNat (cfA c) (bC c)) := by
  have h0 := hc.lo; have h12 := hc.hi
  have hlim : lim = 4294967296 := rfl
  have e : V = ((V.toNat : Nat) : Int) := by omega
  have hm : mk2 (0 : Int) V V = some (List.replicate V.toNat 0) := by
    have := mk2_ok (z := (0 : Int)) (n := V.toNat) (by omega)
    rw [← e] at this; exact this
  have hlen := hc.len
  rw [hm, bd_some]
  obtain ⟨h1, _⟩ := forL_foldI (X := Empty) (body := body) (ofC V.toNat) (l := c) (s := (List.replicate V.toNat 0, 1)) (fun i t => t.1.length = V.toNat ∧ 1 - (i : Int) ≤ t.2 ∧ t.2 ≤ 1) (by simp) (fun i y t hx ht => by
    obtain ⟨t1, t2, t3⟩ := ht
    have hy := hc.lit y (List.mem_of_getElem? hx)
    have hi := (List.getElem?_eq_some_iff.1 hx).1
    rw [hb]
    unfold ofC
    by_cases hp : 0 < y
    · rw [if_pos hp, show decide (0 < y) = true from decide_eq_true hp, cond_true, wr_of _ (by omega) (by omega), show y - 1 = (((y - 1).toNat : Nat) : Int) by omega]
      obtain ⟨u, hu⟩ : ∃ u, t.1[(y - 1).toNat]? = some u := ⟨_, List.getElem?_eq_getElem (by omega)⟩
      rw [ix_get, hu, bd_some, put_ok (by omega), bd_some]
      exact ⟨rfl, by simp [t1], by simp; omega, by simpa using t3⟩
    · have w1 : wr (-y) = -y := wr_of _ (by omega) (by omega)
      rw [if_neg hp, show decide (0 < y) = false from decide_eq_false hp, cond_false, w1, wr_of (-y - 1) (by omega) (by omega), show -y - 1 = (((-y - 1).toNat : Nat) : Int) by omega]
      obtain ⟨u, hu⟩ : ∃ u, t.1[(-y - 1).toNat]? = some u := ⟨_, List.getElem?_eq_getElem (by omega)⟩
      rw [ix_get, hu, bd_some, put_ok (by omega), bd_some, wr_of (t.2 - 1) (by omega) (by omega)]
      exact ⟨rfl, by simp [t1], by simp; omega, by simp; omega⟩)
  rw [h1, bdR_go, zs_pl, ofC_fold c [] 1 (fun l hl => by have := hc.lit l (by simpa using hl); omega) (by simpa using hc.srt)]
  rfl
theorem spec_l16OfClause_eq {V : Int} {c : List Int} (hc : IsC V c) : spec_l16OfClause V c = some (plI V.toNat (cfA c) (bC c)) := planeOf_bdR hc fun _ _ _ => rfl
theorem impl_planeOf_eq {V : Int} {c : List Int} (hc : IsC V c) : impl_planeOf V c = some (plI V.toNat (cfA c) (bC c)) := planeOf_bdR hc fun _ _ _ => rfl
/-! literals -/
def bL (l : Int) : Int := if 0 < l then 0 else -1
theorem single_eq {V v n b : Int} (h0 : 0 ≤ V ∧ V ≤ 12) (hv : 1 ≤ v ∧ v ≤ V) : (bd (mk2 (0 : Int) V V) fun xs => bd (ix xs (wr (v - 1))) fun _ => bd (put xs (wr (v - 1)) n) fun ys => some (Inequality.mk ys b)) = some ⟨(List.replicate V.toNat 0).set (v - 1).toNat n, b⟩ := by
  have hlim : lim = 4294967296 := rfl
  have e : V = ((V.toNat : Nat) : Int) := by omega
  have hm : mk2 (0 : Int) V V = some (List.replicate V.toNat 0) := by
    have := mk2_ok (z := (0 : Int)) (n := V.toNat) (by omega)
    rw [← e] at this; exact this
  rw [hm, bd_some, wr_of _ (by omega) (by omega), show v - 1 = (((v - 1).toNat : Nat) : Int) by omega, ix_get]
  obtain ⟨u, hu⟩ : ∃ u, (List.replicate V.toNat (0 : Int))[(v - 1).toNat]? = some u := ⟨_, List.getElem?_eq_getElem (by simp; omega)⟩
  rw [hu, bd_some, put_ok (by simp; omega), bd_some]
  rfl
theorem lit_set {V : Nat} {l : Int} (h : l ≠ 0) (hl : l.natAbs ≤ V) : (List.replicate V (0 : Int)).set (l.natAbs - 1) (if 0 < l then 1 else -1) = (List.range V).map (cfA [l]) := by
  have := ofC_fold (V := V) [l] [] 0 (fun x hx => by rw [List.nil_append, List.mem_singleton] at hx; subst hx; exact ⟨h, hl⟩) (by simp)
  simp only [List.foldl_cons, List.foldl_nil, List.nil_append] at this
  refine Eq.trans ?_ (congrArg Prod.fst this)
  rw [← zs_pl]
  unfold ofC
  by_cases h0 : 0 < l
  · rw [if_pos h0, if_pos h0, show (l - 1).toNat = l.natAbs - 1 by omega]
  · rw [if_neg h0, if_neg h0, show (-l - 1).toNat = l.natAbs - 1 by omega]
theorem literal_eq {V l : Int} (h0 : 0 ≤ V ∧ V ≤ 12) (h1 : -V ≤ l) (h2 : l ≤ V) (h3 : l ≠ 0) {f : Int → Int → Int → Int → Option Inequality}
    (hf : ∀ v n b, f V v n b = bd (mk2 (0 : Int) V V) fun xs => bd (ix xs (wr (v - 1))) fun _ => bd (put xs (wr (v - 1)) n) fun ys => some (Inequality.mk ys b)) :
    (bif decide (0 < l) then bd (f V l 1 0) (fun r => some r) else bd (f V (wr (-l)) (-1) (-1)) (fun r => some r)) = some (plI V.toNat (cfA [l]) (bL l)) := by
  unfold plI bL
  rw [← lit_set (V := V.toNat) h3 (by omega)]
  by_cases hp : 0 < l
  · rw [show decide (0 < l) = true from decide_eq_true hp, cond_true, hf, single_eq h0 ⟨by omega, h2⟩, bd_some, if_pos hp, if_pos hp, show (l - 1).toNat = l.natAbs - 1 by omega]
  · have w1 : wr (-l) = -l := wr_of _ (by omega) (by omega)
    rw [show decide (0 < l) = false from decide_eq_false hp, cond_false, w1, hf, single_eq h0 ⟨by omega, by omega⟩, bd_some, if_neg hp, if_neg hp, show (-l - 1).toNat = l.natAbs - 1 by omega]
theorem spec_l17Literal_eq {V l : Int} (h0 : 0 ≤ V ∧ V ≤ 12) (h1 : -V ≤ l) (h2 : l ≤ V) (h3 : l ≠ 0) : spec_l17Literal V l = some (plI V.toNat (cfA [l]) (bL l)) := literal_eq h0 h1 h2 h3 (f := spec_l16Single) fun _ _ _ => rfl
theorem impl_planeOfLiteral_eq {V l : Int} (h0 : 0 ≤ V ∧ V ≤ 12) (h1 : -V ≤ l) (h2 : l ≤ V) (h3 : l ≠ 0) : impl_planeOfLiteral V l = some (plI V.toNat (cfA [l]) (bL l)) := literal_eq h0 h1 h2 h3 (f := impl_varPlane) fun _ _ _ => rfl
/-! sums -/
theorem iter_range {X : Type} {n : Nat} (hn : n ≤ 100000) {f : Nat → Int} {b : Int} {body : List Int × Int × Int → Option (Lp (List Int × Int × Int) X)}
    (hb : ∀ (acc : List Int) (k : Nat), k < n → acc.length = k → body (acc, b, (k : Int)) = some (.nx (acc ++ [f k], b, wr ((k : Int) + 1)))) (he : ∀ acc, body (acc, b, (n : Int)) = some (.bk (acc, b, (n : Int)))) :
    iter body ([], b, 0) = some (.go ((List.range n).map f, b, (n : Int))) := by
  have key : ∀ (m k : Nat), k + m = n → iter body ((List.range k).map f, b, (k : Int)) = some (.go ((List.range n).map f, b, (n : Int))) := by
    intro m
    induction m with
    | zero => intro k hk; obtain rfl : k = n := by omega
              exact iter_bk (he _)
    | succ m ih =>
      intro k hk
      have := hb ((List.range k).map f) k (by omega) (by simp)
      rw [wr_of _ (by omega) (by omega), show ((k : Int) + 1) = ((k + 1 : Nat) : Int) by omega] at this
      rw [iter_nx this]
      have e := ih (k + 1) (by omega)
      rw [List.range_succ, List.map_append] at e
      exact e
  exact key n 0 (by omega)
theorem spec_l16Add_eq {V : Nat} (hV : V ≤ 12) {φ ψ : Nat → Int} {b d : Int} (hφ : ∀ k, k < V → -1000000 ≤ φ k ∧ φ k ≤ 1000000) (hψ : ∀ k, k < V → -1000000 ≤ ψ k ∧ ψ k ≤ 1000000) (hb : -1000000 ≤ b ∧ b ≤ 1000000) (hd : -1000000 ≤ d ∧ d ≤ 1000000) :
    spec_l16Add (plI V φ b) (plI V ψ d) = some (plI V (fun k => φ k + ψ k) (b + d)) := by
  have hlim : lim = 4294967296 := rfl
  unfold spec_l16Add
  rw [show wr ((plI V φ b).bound + (plI V ψ d).bound) = b + d from wr_of _ (by show _ ≤ b + d; omega) (by show b + d ≤ _; omega)]
  have hl : len (plI V φ b).coeffs = (V : Int) := by rw [len_eq]; show (((List.range V).map φ).length : Int) = _; simp
  rw [iter_range (n := V) (by omega) (f := fun k => φ k + ψ k) (b := b + d) (fun acc k hk ha => by
      have := hφ k hk; have := hψ k hk
      simp only [hl, show decide ((k : Int) < (V : Int)) = true by rw [decide_eq_true_eq]; omega, cond_true]
      rw [ix_get, show (plI V φ b).coeffs[k]? = some (φ k) from pl_at φ hk, bd_some, ix_get, show (plI V ψ d).coeffs[k]? = some (ψ k) from pl_at ψ hk, bd_some, app_ok (by simp; omega), bd_some, wr_of (φ k + ψ k) (by omega) (by omega)])
    (fun acc => by simp only [hl, show decide ((V : Int) < (V : Int)) = false by rw [decide_eq_false_iff_not]; omega, cond_false])]
  rfl
theorem combined_eq {V : Nat} (hV : V ≤ 12) {φ ψ : Nat → Int} {b d : Int} {f : Int → Int → Option Int} {g : Nat → Int} {e : Int} (hb : f b d = some e) (hf : ∀ k, k < V → f (φ k) (ψ k) = some (g k)) :
    impl_combined (plI V φ b) (plI V ψ d) f = some (plI V g e) := by
  have hlim : lim = 4294967296 := rfl
  unfold impl_combined
  rw [show f (plI V φ b).bound (plI V ψ d).bound = some e from hb, bd_some]
  obtain ⟨s, h1, h2, h3⟩ := forL_inv (X := Empty) (l := (plI V φ b).coeffs) (s := (([] : List Int), e)) (body := fun i y s => bd (ix (plI V ψ d).coeffs ((i : Nat) : Int)) fun x => bd (f y x) fun r => bd (app s.1 [r]) fun xs => some (Lp.nx (xs, s.2)))
    (fun i t => t.1 = (List.range i).map g ∧ t.2 = e) ⟨rfl, rfl⟩ (fun i y t hx ht => by
      obtain ⟨t1, t2⟩ := ht
      have hi : i < V := by have := (List.getElem?_eq_some_iff.1 hx).1; simpa [plI] using this
      have hy : y = φ i := by
        have : (plI V φ b).coeffs[i]? = some (φ i) := pl_at φ hi
        rw [this] at hx; exact (Option.some.inj hx).symm
      subst hy
      refine ⟨(t.1 ++ [g i], t.2), ?_, ?_, t2⟩
      · rw [ix_get, show (plI V ψ d).coeffs[i]? = some (ψ i) from pl_at ψ hi, bd_some, hf i hi, bd_some, app_ok (by rw [t1]; simp; omega), bd_some]
      · rw [t1, List.range_succ, List.map_append]; rfl)
  rw [h1, bdR_go, h2, h3]
  simp [plI]
theorem impl_addPlanes_eq {V : Nat} (hV : V ≤ 12) {φ ψ : Nat → Int} {b d : Int} (hφ : ∀ k, k < V → -1000000 ≤ φ k ∧ φ k ≤ 1000000) (hψ : ∀ k, k < V → -1000000 ≤ ψ k ∧ ψ k ≤ 1000000) (hb : -1000000 ≤ b ∧ b ≤ 1000000) (hd : -1000000 ≤ d ∧ d ≤ 1000000) :
    impl_addPlanes (plI V φ b) (plI V ψ d) = some (plI V (fun k => φ k + ψ k) (b + d)) := by
  unfold impl_addPlanes
  rw [combined_eq hV (g := fun k => φ k + ψ k) (e := b + d) (by unfold impl_addPlanes_1; rw [wr_of _ (by omega) (by omega)]) (fun k hk => by have := hφ k hk; have := hψ k hk; unfold impl_addPlanes_1; rw [wr_of _ (by omega) (by omega)]), bd_some]
/-! halves -/
def upH (b : Int) : Int := -((-b) / 2)
theorem tdiv2 (a : Int) : a.tdiv 2 = if 0 ≤ a then a / 2 else -((-a) / 2) := by
  split
  · exact Int.tdiv_eq_ediv_of_nonneg (by omega)
  · rw [← Int.neg_neg a, Int.neg_tdiv, Int.tdiv_eq_ediv_of_nonneg (by omega), Int.neg_neg]
theorem tmod2 (a : Int) : a.tmod 2 = if 0 ≤ a then a % 2 else -((-a) % 2) := by
  split
  · exact Int.tmod_eq_emod_of_nonneg (by omega)
  · rw [← Int.neg_neg a, Int.neg_tmod, Int.tmod_eq_emod_of_nonneg (by omega), Int.neg_neg]
theorem spec_l16Up_eq {b : Int} (hb : -1000000 ≤ b ∧ b ≤ 1000000) : spec_l16Up b 2 = some (upH b) := by
  unfold spec_l16Up upH
  by_cases h : 0 < b
  · rw [show decide (0 < b) = true from decide_eq_true h, cond_true, show nz 2 = some () from rfl, bd_some, wr_of (b + 2) (by omega) (by omega), wr_of (b + 2 - 1) (by omega) (by omega), tdiv2, if_pos (by omega), wr_of _ (by omega) (by omega)]
    congr 1; omega
  · rw [show decide (0 < b) = false from decide_eq_false h, cond_false, show nz 2 = some () from rfl, bd_some, wr_of (-b) (by omega) (by omega), tdiv2, if_pos (by omega), wr_of (-b / 2) (by omega) (by omega), wr_of _ (by omega) (by omega)]
theorem impl_divideUp_eq {b : Int} (hb : -1000000 ≤ b ∧ b ≤ 1000000) : impl_divideUp b 2 = some (upH b) := by
  unfold impl_divideUp upH
  rw [show nz 2 = some () from rfl, bd_some, bd_some, tdiv2, tmod2]
  by_cases h : 0 ≤ b
  · rw [if_pos h, if_pos h, wr_of (b / 2) (by omega) (by omega)]
    by_cases h2 : 0 < b % 2
    · rw [show decide (0 < b % 2) = true from decide_eq_true h2, cond_true, wr_of _ (by omega) (by omega)]; congr 1; omega
    · rw [show decide (0 < b % 2) = false from decide_eq_false h2, cond_false]; congr 1; omega
  · rw [if_neg h, if_neg h, show decide (0 < -(-b % 2)) = false by rw [decide_eq_false_iff_not]; omega, cond_false, wr_of _ (by omega) (by omega)]
theorem spec_l16Divide_eq {V : Nat} (hV : V ≤ 12) {φ : Nat → Int} {b : Int} (hφ : ∀ k, k < V → -500000 ≤ φ k ∧ φ k ≤ 500000) (hb : -1000000 ≤ b ∧ b ≤ 1000000) :
    spec_l16Divide (plI V (fun k => 2 * φ k) b) 2 = some (plI V φ (upH b), true) := by
  have hlim : lim = 4294967296 := rfl
  unfold spec_l16Divide
  rw [show spec_l16Up (plI V (fun k => 2 * φ k) b).bound 2 = some (upH b) from spec_l16Up_eq hb, bd_some]
  have hl : len (plI V (fun k => 2 * φ k) b).coeffs = (V : Int) := by rw [len_eq]; show (((List.range V).map _).length : Int) = _; simp
  rw [iter_range (n := V) (by omega) (f := φ) (b := upH b) (fun acc k hk ha => by
      have := hφ k hk
      simp only [hl, show decide ((k : Int) < (V : Int)) = true by rw [decide_eq_true_eq]; omega, cond_true]
      have h2 : (plI V (fun k => 2 * φ k) b).coeffs[k]? = some (2 * φ k) := pl_at (fun k => 2 * φ k) hk
      have hm : ((2 * φ k).tmod 2 == 0) = true := by rw [beq_iff_eq, tmod2]; split <;> omega
      have hdv : wr ((2 * φ k).tdiv 2) = φ k := by rw [tdiv2]; split <;> (rw [wr_of _ (by omega) (by omega)]; omega)
      rw [ix_get, h2, bd_some, show nz 2 = some () from rfl, bd_some, hm, Bool.not_true, cond_false, bd_some, bd_some, hdv, app_ok (by simp; omega), bd_some])
    (fun acc => by simp only [hl, show decide ((V : Int) < (V : Int)) = false by rw [decide_eq_false_iff_not]; omega, cond_false])]
  rfl
theorem impl_dividePlane_eq {V : Nat} (hV : V ≤ 12) {φ : Nat → Int} {b : Int} (hφ : ∀ k, k < V → -500000 ≤ φ k ∧ φ k ≤ 500000) (hb : -1000000 ≤ b ∧ b ≤ 1000000) :
    impl_dividePlane (plI V (fun k => 2 * φ k) b) 2 = some (plI V φ (upH b), true) := by
  unfold impl_dividePlane
  rw [slices_ContainsFunc_int_int_eq (g := fun _ => false) (fun y hy => by
    obtain ⟨k, hk, rfl⟩ := List.mem_map.1 hy
    rw [List.mem_range] at hk
    unfold impl_dividePlane_1
    rw [show nz 2 = some () from rfl, bd_some, show ((2 * φ k).tmod 2 == 0) = true by rw [beq_iff_eq, tmod2]; split <;> omega]; rfl), bd_some,
    show ((plI V (fun k => 2 * φ k) b).coeffs.any fun _ => false) = false by simp, cond_false,
    combined_eq hV (g := φ) (e := upH b) (by unfold impl_dividePlane_2; rw [impl_divideUp_eq hb]; rfl) (fun k hk => by
      have := hφ k hk
      unfold impl_dividePlane_2; rw [impl_divideUp_eq (by omega), bd_some]
      unfold upH; congr 1; omega), bd_some]
end Go.PF
