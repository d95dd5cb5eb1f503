/- Products of polynomials, literals and clauses as polynomials. -/
import Derived.Test.YtjpjbfbloplacaaGreatDoPlPo
set_option linter.unusedVariables false
namespace Go.PF
open Go.Pu
open Go.La (vadd co)
theorem forL_sim {S X α σ : Type} {body : Nat → α → S → Option (Lp S X)} {F : σ → α → σ} (R : Nat → σ → S → Prop) {l : List α} {s : S} {t0 : σ} (h0 : R 0 t0 s)
    (hb : ∀ i x t s, l[i]? = some x → R i t s → ∃ s', body i x s = some (.nx s') ∧ R (i + 1) (F t x) s') : ∃ s', forL l body s = some (.go s') ∧ R l.length (l.foldl F t0) s' := by
  obtain ⟨s', h1, h2⟩ := forL_inv (X := X) (body := body) (fun i s => R i ((l.take i).foldl F t0) s) (l := l) (s := s) (by simpa using h0) (fun i x s hx hR => by
    obtain ⟨s', h1, h2⟩ := hb i x _ s hx hR
    refine ⟨s', h1, ?_⟩
    rw [List.take_add_one, hx]
    simpa using h2)
  rw [List.take_length] at h2
  exact ⟨s', h1, h2⟩
theorem bdR_sim {S X α σ β : Type} {body : Nat → α → S → Option (Lp S X)} {F : σ → α → σ} (R : Nat → σ → S → Prop) {l : List α} {s : S} {t0 : σ} {k : S → Option β} {lx : X → Option β} {r : Option β} (h0 : R 0 t0 s)
    (hb : ∀ i x t s, l[i]? = some x → R i t s → ∃ s', body i x s = some (.nx s') ∧ R (i + 1) (F t x) s') (hk : ∀ s', R l.length (l.foldl F t0) s' → k s' = r) : bdR (forL l body s) k lx = r := by
  obtain ⟨s', h1, h2⟩ := forL_sim R h0 hb
  rw [h1, bdR_go]; exact hk s' h2
theorem bd_of {α β : Type} {x : Option α} {k : α → Option β} {r : Option β} (y : α) (h : x = some y) (hk : k y = r) : bd x k = r := by rw [h]; exact hk
/-! products -/
def ms (p : Int) (acc : List Int) (t u : Term) : List Int := acc.set (t.mono.toNat ||| u.mono.toNat) ((co acc (t.mono.toNat ||| u.mono.toNat) + t.coeff * u.coeff) % p)
def mulT (p : Int) (N : Nat) (A B : List Term) : List Int := A.foldl (fun acc t => B.foldl (fun acc u => ms p acc t u) acc) (zs N)
structure TOk (p : Int) (N : Nat) (t : Term) : Prop where
  m : ∃ j : Nat, j < N ∧ t.mono = ((j : Nat) : Int)
  c : 0 ≤ t.coeff ∧ t.coeff < p
theorem sp_TOk {p : Int} {N : Nat} {a : List Int} (h : Dn p N a) : ∀ t ∈ sp a, TOk p N t := fun t ht => by
  obtain ⟨j, h1, h2, h3⟩ := mem_sp ht
  exact ⟨⟨j, by rw [← h.len]; exact h1, h2⟩, h.bd _ h3⟩
theorem fu_TOk {p : Int} {N : Nat} {a : List Int} (h : Dn p N a) : ∀ t ∈ fu a, TOk p N t := fun t ht => by
  obtain ⟨j, _, h2, h3, h4⟩ := mem_fuF ht
  exact ⟨⟨j, by rw [← h.len]; omega, h3⟩, h.bd _ h4⟩
theorem co_bd {p : Int} {N : Nat} {a : List Int} (hp : 1 < p) (h : Dn p N a) (m : Nat) : 0 ≤ co a m ∧ co a m < p := by
  by_cases hm : m < a.length
  · exact h.bd _ (List.mem_of_getElem? (Go.La.co_eq hm))
  · rw [Go.La.co_ge (by omega)]; omega
theorem ms_Dn {p : Int} {N : Nat} {acc : List Int} {t u : Term} (hp : 1 < p) (h : Dn p N acc) : Dn p N (ms p acc t u) :=
  ⟨by unfold ms; rw [List.length_set, h.len], fun x hx => by
    unfold ms at hx
    rcases List.mem_or_eq_of_mem_set hx with hx | rfl
    · exact h.bd x hx
    · exact ⟨Int.emod_nonneg _ (by omega), Int.emod_lt_of_pos _ (by omega)⟩⟩
theorem ms_in {p : Int} {N : Nat} {t : Term} (hp : 1 < p) : ∀ {B : List Term} {acc : List Int}, Dn p N acc → Dn p N (B.foldl (fun acc u => ms p acc t u) acc)
  | [], _, h => h
  | u :: B, acc, h => ms_in hp (B := B) (ms_Dn hp h)
theorem ms_out {p : Int} {N : Nat} {B : List Term} (hp : 1 < p) : ∀ {A : List Term} {acc : List Int}, Dn p N acc → Dn p N (A.foldl (fun acc t => B.foldl (fun acc u => ms p acc t u) acc) acc)
  | [], _, h => h
  | t :: A, acc, h => ms_out hp (A := A) (ms_in hp h)
theorem mulT_Dn {p : Int} {N : Nat} (hp : 1 < p) (A B : List Term) : Dn p N (mulT p N A B) := ms_out hp (zs_Dn hp)
theorem ms_zero {p : Int} {N : Nat} {acc : List Int} {t u : Term} (hp : 1 < p) (h : Dn p N acc) (hz : t.coeff * u.coeff = 0) : ms p acc t u = acc := by
  unfold ms
  generalize t.mono.toNat ||| u.mono.toNat = m
  have hb := co_bd hp h m
  rw [hz, Int.add_zero, Int.emod_eq_of_lt hb.1 hb.2]
  apply List.ext_getElem?
  intro j
  rw [List.getElem?_set]
  by_cases hj : m = j
  · subst hj
    rw [if_pos rfl]
    by_cases hm : m < acc.length
    · rw [if_pos hm, Go.La.co_eq hm]
    · rw [if_neg hm, List.getElem?_eq_none (by omega)]
  · rw [if_neg hj]
theorem foldl_filter_id {α β : Type} {f : β → α → β} {q : α → Bool} {I : β → Prop} (hI : ∀ b a, I b → I (f b a)) : ∀ {l : List α} {b : β}, I b → (∀ b a, I b → a ∈ l → q a = false → f b a = b) → (l.filter q).foldl f b = l.foldl f b
  | [], _, _, _ => rfl
  | a :: l, b, hb, h => by
    rw [List.foldl_cons, List.filter_cons]
    cases hq : q a with
    | true =>
      simp only [if_true, List.foldl_cons]
      exact foldl_filter_id hI (hI b a hb) fun b a hb ha => h b a hb (by simp [ha])
    | false =>
      rw [h b a hb (by simp) hq]
      exact foldl_filter_id hI hb fun b a hb ha => h b a hb (by simp [ha])
theorem mulT_fu {p : Int} {N : Nat} (hp : 1 < p) (a b : List Int) : mulT p N (fu a) (fu b) = mulT p N (sp a) (sp b) := by
  have h1 : ∀ (t : Term) (acc : List Int), Dn p N acc → (sp b).foldl (fun acc u => ms p acc t u) acc = (fu b).foldl (fun acc u => ms p acc t u) acc := fun t acc h => by
    unfold sp; rw [spF_filter]
    exact foldl_filter_id (I := Dn p N) (fun _ _ h => ms_Dn hp h) h fun b u hb _ hq => ms_zero hp hb (by rw [show u.coeff = 0 by simpa using hq, Int.mul_zero])
  have h2 : ∀ (A : List Term) (acc : List Int), Dn p N acc → A.foldl (fun acc t => (sp b).foldl (fun acc u => ms p acc t u) acc) acc = A.foldl (fun acc t => (fu b).foldl (fun acc u => ms p acc t u) acc) acc := by
    intro A
    induction A with
    | nil => intro acc _; rfl
    | cons t A ih => intro acc h; simp only [List.foldl_cons]; rw [h1 t acc h]; exact ih _ (ms_in hp h)
  unfold mulT
  rw [h2 _ _ (zs_Dn hp)]
  conv => rhs; unfold sp; rw [spF_filter]
  refine (foldl_filter_id (I := Dn p N) (fun _ _ h => ms_in hp h) (zs_Dn hp) fun acc t hb _ hq => ?_).symm
  have hz : t.coeff = 0 := by simpa using hq
  have : ∀ (B : List Term), B.foldl (fun acc u => ms p acc t u) acc = acc := by
    intro B
    induction B with
    | nil => rfl
    | cons u B ih => rw [List.foldl_cons, ms_zero hp hb (by rw [hz]; simp)]; exact ih
  exact this _
theorem mul_round {p : Int} {v : Int} (h : PV p v) {t u : Term} (ht : TOk p (nN v) t) (hu : TOk p (nN v) u) {s : List Int} (hs : Dn p (nN v) s) :
    bd (ix s (orK true 64 t.mono u.mono)) (fun x => bd (nz p) (fun _ => bd (ix s (orK true 64 t.mono u.mono)) (fun _ => bd (put s (orK true 64 t.mono u.mono) ((wr (x + (wr (t.coeff * u.coeff)))).tmod p)) (fun xs => some (Lp.nx (X := Empty) xs))))) = some (.nx (ms p s t u)) := by
  have hp := h.pos
  obtain ⟨i, hi, ei⟩ := ht.m; obtain ⟨j, hj, ej⟩ := hu.m
  obtain ⟨o1, o2⟩ := orK_nat (v := v.toNat) (by have := h.v6; omega) hi hj
  have hm : i ||| j < s.length := by rw [hs.len]; exact o2
  have hg : s[i ||| j]? = some (co s (i ||| j)) := Go.La.co_eq hm
  have hb := co_bd hp.1 hs (i ||| j)
  have hc := ht.c; have hd := hu.c
  have hx := mul_sm (k := t.coeff) (y := u.coeff) ⟨by omega, by omega⟩ ⟨by omega, by omega⟩
  have w1 : wr (t.coeff * u.coeff) = t.coeff * u.coeff := wr_sm (by omega) (by omega)
  have w2 : wr (co s (i ||| j) + t.coeff * u.coeff) = co s (i ||| j) + t.coeff * u.coeff := wr_sm (by omega) (by omega)
  have w3 : (co s (i ||| j) + t.coeff * u.coeff).tmod p = (co s (i ||| j) + t.coeff * u.coeff) % p := Int.tmod_eq_emod_of_nonneg (by omega)
  unfold ms
  rw [ei, ej, o1]
  simp only [ix_get, hg, bd_some, nz_ok (show p ≠ 0 by omega), w1, w2, w3, put_ok hm, Int.toNat_natCast]
theorem mul_inner {p v : Int} (h : PV p v) {t : Term} (ht : TOk p (nN v) t) {B : List Term} (hB : ∀ u ∈ B, TOk p (nN v) u) {s : List Int} (hs : Dn p (nN v) s)
    {f : Nat → Term → List Int → Option (Lp (List Int) Empty)} (hf : ∀ i u s, f i u s = bd (ix s (orK true 64 t.mono u.mono)) (fun x => bd (nz p) (fun _ => bd (ix s (orK true 64 t.mono u.mono)) (fun _ => bd (put s (orK true 64 t.mono u.mono) ((wr (x + (wr (t.coeff * u.coeff)))).tmod p)) (fun xs => some (Lp.nx xs)))))) :
    forL B f s = some (.go (B.foldl (fun acc u => ms p acc t u) s)) :=
  (forL_foldI (fun acc u => ms p acc t u) (l := B) (s := s) (fun _ s => Dn p (nN v) s) hs (fun i u s hu hs => ⟨by rw [hf]; exact mul_round h ht (hB u (List.mem_of_getElem? hu)) hs, ms_Dn h.pos.1 hs⟩)).1
theorem spec_l18Mul_eq {p v : Int} (h : PV p v) {A B : List Term} (hA : ∀ t ∈ A, TOk p (nN v) t) (hB : ∀ u ∈ B, TOk p (nN v) u) : spec_l18Mul p v A B = some (sp (mulT p (nN v) A B)) := by
  have hp := h.pos; have hN := nN_le h.v6
  unfold spec_l18Mul
  rw [nn_ok h.v0, bd_some, zs_mk h.v0 h.v6, bd_some]
  refine bdR_foldI (X := Empty) (fun acc t => B.foldl (fun acc u => ms p acc t u) acc) (fun _ s => Dn p (nN v) s) (zs_Dn hp.1) (fun i t s ht hs => ?_) (fun hI => ?_)
  · have htk := hA t (List.mem_of_getElem? ht)
    rw [mul_inner h htk hB hs (fun _ _ _ => rfl), bdR_go]
    exact ⟨rfl, ms_in hp.1 hs⟩
  · rw [spec_l18Sparse_eq (by omega) (by rw [hI.len]; unfold lim; omega), bd_some, map_tmod hI.bd]
    rfl
theorem forL_fu {S X : Type} {F : Int → Int → S → Option (Lp S X)} : ∀ {a : List Int} {i k : Nat} {s : S}, forLFrom (fun i y s => F ((i : Nat) : Int) y s) a i s = forLFrom (fun _ (t : Term) s => F t.mono t.coeff s) (fuF i a) k s
  | [], _, _, _ => rfl
  | x :: a, i, k, s => by
    simp only [fuF, forLFrom]
    cases F ((i : Nat) : Int) x s with
    | none => rfl
    | some q =>
      cases q with
      | nx s' => exact forL_fu
      | bk s' => rfl
      | rt x => rfl
theorem impl_times_eq {r : ring} (h : PV r.p r.vars) {a b : List Int} (ha : Dn r.p (nN r.vars) a) (hb : Dn r.p (nN r.vars) b) : impl_ring_times r a b = some (mulT r.p (nN r.vars) (sp a) (sp b)) := by
  have hp := h.pos
  unfold impl_ring_times
  rw [impl_zero_eq h, bd_some, ← mulT_fu hp.1]
  unfold forL
  refine Eq.trans (congrArg (fun z => bdR z _ _) (forL_fu (X := Empty) (k := 0) (F := fun m y s40 => bdR (forLFrom (S := (List Int)) (X := Empty) (fun i252331 y252330 s252331 => bd (ix s252331 (orK true 64 m ((i252331 : Nat) : Int))) (fun x405448 => bd (nz r.p) (fun u429443 => bd (ix s252331 (orK true 64 m ((i252331 : Nat) : Int))) (fun x432448 => bd (put s252331 (orK true 64 m ((i252331 : Nat) : Int)) ((wr (x405448 + (wr (y * y252330)))).tmod r.p)) (fun xs435445 => some (Lp.nx xs435445)))))) b 0 s40) (fun s252331 => some (Lp.nx s252331)) (fun x252331 => nomatch x252331)))) ?_
  refine bdR_foldI (X := Empty) (fun acc t => (fu b).foldl (fun acc u => ms r.p acc t u) acc) (l := fu a) (fun _ s => Dn r.p (nN r.vars) s) (zs_Dn hp.1) (fun i t s ht hs => ?_) (fun hI => rfl)
  have htk := fu_TOk ha t (List.mem_of_getElem? ht)
  have e2 := forL_fu (X := Empty) (a := b) (i := 0) (s := s) (k := 0) (F := fun m y s252331 => bd (ix s252331 (orK true 64 t.mono m)) (fun x405448 => bd (nz r.p) (fun u429443 => bd (ix s252331 (orK true 64 t.mono m)) (fun x432448 => bd (put s252331 (orK true 64 t.mono m) ((wr (x405448 + (wr (t.coeff * y)))).tmod r.p)) (fun xs435445 => some (Lp.nx xs435445))))))
  have := mul_inner h htk (fu_TOk hb) hs (f := fun _ (u : Term) s252331 => bd (ix s252331 (orK true 64 t.mono u.mono)) (fun x405448 => bd (nz r.p) (fun u429443 => bd (ix s252331 (orK true 64 t.mono u.mono)) (fun x432448 => bd (put s252331 (orK true 64 t.mono u.mono) ((wr (x405448 + (wr (t.coeff * u.coeff)))).tmod r.p)) (fun xs435445 => some (Lp.nx xs435445)))))) (fun _ _ _ => rfl)
  unfold forL at this
  have e3 := e2.trans this
  refine ⟨?_, ms_in hp.1 hs⟩
  exact (congrArg (fun z => bdR z _ _) e3).trans rfl
/-! literals -/
def eD (N k : Nat) : List Int := (zs N).set k 1
def bt (u : Int) : Nat := nN (u - 1)
theorem bt_lt {u v : Int} (h1 : 1 ≤ u) (h2 : u ≤ v) : 1 ≤ bt u ∧ bt u < nN v := by
  unfold bt nN
  exact ⟨Nat.one_le_two_pow, Nat.pow_lt_pow_right (by decide) (by omega)⟩
theorem eD_Dn {p : Int} {N k : Nat} (hp : 1 < p) : Dn p N (eD N k) :=
  ⟨by simp [eD, zs], fun x hx => by
    unfold eD at hx
    rcases List.mem_or_eq_of_mem_set hx with hx | rfl
    · exact (zs_Dn hp).bd x hx
    · omega⟩
theorem spF_zero : ∀ {n i : Nat}, spF i (List.replicate n 0) = []
  | 0, _ => rfl
  | n + 1, i => by rw [List.replicate_succ]; simp only [spF, BEq.rfl, cond_true]; exact spF_zero
theorem spF_set {x : Int} (hx : x ≠ 0) : ∀ {n i k : Nat}, k < n → spF i ((List.replicate n 0).set k x) = [⟨((i + k : Nat) : Int), x⟩]
  | 0, _, _, h => by omega
  | n + 1, i, 0, _ => by
    rw [List.replicate_succ, List.set_cons_zero]
    simp only [spF, show (x == 0) = false by rw [beq_eq_false_iff_ne]; exact hx, cond_false, spF_zero, Nat.add_zero]
  | n + 1, i, k + 1, h => by
    rw [List.replicate_succ, List.set_cons_succ]
    simp only [spF, BEq.rfl, cond_true]
    rw [spF_set hx (show k < n by omega), show i + 1 + k = i + (k + 1) by omega]
theorem sp_eD {N k : Nat} (h : k < N) : sp (eD N k) = [⟨((k : Nat) : Int), 1⟩] := by
  unfold sp eD zs
  rw [spF_set (by decide) h, Nat.zero_add]
def litD (p : Int) (N : Nat) (l : Int) : List Int := bif decide (0 < l) then eD N (bt l) else vadd p (p - 1) (eD N 0) (eD N (bt (-l)))
theorem litD_Dn {p : Int} {N : Nat} (hp : 1 < p) (l : Int) : Dn p N (litD p N l) := by
  unfold litD
  cases decide (0 < l)
  · exact vadd_Dn hp (eD_Dn hp).len (eD_Dn hp).len
  · exact eD_Dn hp
theorem zip_set {p k : Int} (hp : 1 < p) (hk : 0 ≤ k ∧ k < p) : ∀ {n m : Nat}, List.zipWith (fun x y => (x + k * y) % p) (List.replicate n 0) ((List.replicate n 0).set m 1) = (List.replicate n 0).set m k
  | 0, m => by simp
  | n + 1, 0 => by
    rw [List.replicate_succ, List.set_cons_zero, List.set_cons_zero, List.zipWith_cons_cons]
    have e : (0 + k * 1) % p = k := by rw [Int.zero_add, Int.mul_one]; exact Int.emod_eq_of_lt hk.1 hk.2
    rw [e]
    congr 1
    rw [List.zipWith_replicate]
    simp
  | n + 1, m + 1 => by
    rw [List.replicate_succ, List.set_cons_succ, List.set_cons_succ, List.zipWith_cons_cons, zip_set hp hk]
    simp
theorem sp_lit_pos {p v u : Int} (h1 : 1 ≤ u) (h2 : u ≤ v) : sp (litD p (nN v) u) = [⟨((bt u : Nat) : Int), 1⟩] := by
  unfold litD
  rw [show decide (0 < u) = true from decide_eq_true (by omega), cond_true]
  exact sp_eD (bt_lt h1 h2).2
theorem sp_lit_neg {p v u : Int} (hp : 1 < p) (h1 : 1 ≤ u) (h2 : u ≤ v) : sp (litD p (nN v) (-u)) = [⟨0, 1⟩, ⟨((bt u : Nat) : Int), p - 1⟩] := by
  unfold litD
  rw [show decide (0 < -u) = false from decide_eq_false (by omega), cond_false, Int.neg_neg]
  obtain ⟨b1, b2⟩ := bt_lt h1 h2
  generalize nN v = N at b2 ⊢
  obtain ⟨n, rfl⟩ : ∃ n, N = n + 1 := ⟨N - 1, by omega⟩
  obtain ⟨m, hm⟩ : ∃ m, bt u = m + 1 := ⟨bt u - 1, by omega⟩
  rw [hm]
  have e : vadd p (p - 1) (eD (n + 1) 0) (eD (n + 1) (m + 1)) = 1 :: (List.replicate n 0).set m (p - 1) := by
    unfold vadd eD zs
    rw [List.replicate_succ, List.set_cons_zero, List.set_cons_succ, List.zipWith_cons_cons, zip_set hp ⟨by omega, by omega⟩]
    congr 1
    rw [Int.mul_zero, Int.add_zero]; exact Int.emod_eq_of_lt (by omega) hp
  rw [e]
  unfold sp
  simp only [spF, show ((1 : Int) == 0) = false from rfl, cond_false]
  rw [spF_set (by omega) (by omega), show 0 + 1 + m = m + 1 by omega]
  rfl
theorem impl_mono_eq {r : ring} (h : PV r.p r.vars) {k : Nat} (hk : k < nN r.vars) : impl_ring_mono r ((k : Nat) : Int) = some (eD (nN r.vars) k) := by
  unfold impl_ring_mono
  rw [impl_zero_eq h, bd_some, ix_get, show (zs (nN r.vars))[k]? = some 0 by unfold zs; rw [List.getElem?_replicate, if_pos hk], bd_some, put_ok (by simp [zs]; exact hk), bd_some]
  rfl
theorem shl_bt {u : Int} (h1 : 1 ≤ u) (h2 : u ≤ 6) : shlK true 64 1 (wr (u - 1)) = ((bt u : Nat) : Int) := by
  rw [wr_sm (by omega) (by omega)]
  exact shl_pow (by omega) (by omega)
theorem impl_literal_eq {r : ring} (h : PV r.p r.vars) {l : Int} (h0 : l ≠ 0) (h1 : -r.vars ≤ l) (h2 : l ≤ r.vars) : impl_ring_literal r l = some (litD r.p (nN r.vars) l) := by
  have hp := h.pos; have h6 := h.v6
  unfold impl_ring_literal litD
  cases hd : decide (0 < l) with
  | true =>
    have hl := of_decide_eq_true hd
    simp only [cond_true]
    rw [nn_ok (by rw [wr_sm (by omega) (by omega)]; omega), bd_some, shl_bt (by omega) (by omega), impl_mono_eq h (bt_lt (by omega) h2).2, bd_some]
  | false =>
    have hl := of_decide_eq_false hd
    have e : wr (-l) = -l := wr_sm (by omega) (by omega)
    have m0 : impl_ring_mono r 0 = some (eD (nN r.vars) 0) := impl_mono_eq h (k := 0) (by have := nN_le h.v6; omega)
    simp only [cond_false]
    rw [m0, bd_some, e, nn_ok (by rw [wr_sm (by omega) (by omega)]; omega), bd_some, shl_bt (u := -l) (by omega) (by omega), impl_mono_eq h (bt_lt (u := -l) (by omega) (by omega)).2, bd_some,
      wr_sm (show -1000000 ≤ r.p - 1 by omega) (by omega), impl_plus_eq h ⟨by omega, by omega⟩ (eD_Dn hp.1) (eD_Dn hp.1), bd_some]
/-! clauses -/
def clD (p : Int) (N : Nat) (c : List Int) : List Int := c.foldl (fun acc l => mulT p N (sp acc) (sp (litD p N (-l)))) (eD N 0)
theorem clD_Dn {p : Int} {N : Nat} (hp : 1 < p) (c : List Int) : Dn p N (clD p N c) := by
  unfold clD
  have : ∀ (c : List Int) (a : List Int), Dn p N a → Dn p N (c.foldl (fun acc l => mulT p N (sp acc) (sp (litD p N (-l)))) a) := by
    intro c
    induction c with
    | nil => intro a h; exact h
    | cons l c ih => intro a h; exact ih _ (mulT_Dn hp _ _)
  exact this c _ (eD_Dn hp)
theorem IsC.lits {V : Int} {c : List Int} (h : IsC V c) : ∀ l ∈ c, -V ≤ l ∧ l ≤ V ∧ l ≠ 0 := fun l hl => by have := h.lit l hl; omega
theorem vr_nat {l : Int} (h1 : -12 ≤ l) (h2 : l ≤ 12) : vr l = bif decide (l < 0) then -l else l := by
  unfold vr
  rw [wr_sm (n := -l) (by omega) (by omega)]
theorem one_TOk {p : Int} {v : Int} (h : PV p v) {j : Nat} (hj : j < nN v) {c : Int} (hc : 0 ≤ c ∧ c < p) : TOk p (nN v) ⟨((j : Nat) : Int), c⟩ := ⟨⟨j, hj, rfl⟩, hc⟩
theorem spec_l18Clause_eq {p v : Int} (h : PV p v) {c : List Int} (hc : IsC v c) : spec_l18Clause p v c = some (sp (clD p (nN v) c)) := by
  have hp := h.pos; have h6 := h.v6; have hN := nN_le h.v6
  unfold spec_l18Clause
  refine bdR_sim (X := Empty) (F := fun acc l => mulT p (nN v) (sp acc) (sp (litD p (nN v) (-l)))) (t0 := eD (nN v) 0) (fun _ t s => s = sp t ∧ Dn p (nN v) t) ⟨by rw [sp_eD (N := nN v) (k := 0) (by omega)]; rfl, eD_Dn hp.1⟩ (fun i l t s hl hs => ?_) (fun s' hs' => ?_)
  · obtain ⟨rfl, hD⟩ := hs
    have hlt := hc.lits l (List.mem_of_getElem? hl)
    have hv := vr_nat (l := l) (by omega) (by omega)
    refine ⟨_, ?_, rfl, mulT_Dn hp.1 _ _⟩
    simp only [spec_l2Var_eq]
    cases hd : decide (l < 0) with
    | true =>
      have hn := of_decide_eq_true hd
      rw [hd, cond_true] at hv
      rw [hv, nn_ok (by rw [wr_sm (by omega) (by omega)]; omega), bd_some, shl_bt (u := -l) (by omega) (by omega)]
      simp only [cond_true]
      rw [← sp_lit_pos (p := p) (v := v) (u := -l) (by omega) (by omega), spec_l18Mul_eq h (sp_TOk hD) (sp_TOk (litD_Dn hp.1 _)), bd_some]
    | false =>
      have hn := of_decide_eq_false hd
      rw [hd, cond_false] at hv
      rw [hv, nn_ok (by rw [wr_sm (by omega) (by omega)]; omega), bd_some, shl_bt (u := l) (by omega) (by omega), wr_sm (show -1000000 ≤ p - 1 by omega) (by omega)]
      simp only [cond_false]
      rw [← sp_lit_neg (p := p) (v := v) (u := l) hp.1 (by omega) (by omega), spec_l18Mul_eq h (sp_TOk hD) (sp_TOk (litD_Dn hp.1 _)), bd_some]
  · rw [hs'.1]; rfl
theorem impl_ring_clause_eq {r : ring} (h : PV r.p r.vars) {c : List Int} (hc : IsC r.vars c) : impl_ring_clause r c = some (clD r.p (nN r.vars) c) := by
  have hp := h.pos; have h6 := h.v6; have hN := nN_le h.v6
  unfold impl_ring_clause
  have m0 : impl_ring_mono r 0 = some (eD (nN r.vars) 0) := impl_mono_eq h (k := 0) (by omega)
  rw [m0, bd_some]
  refine bdR_foldI (X := Empty) (fun acc l => mulT r.p (nN r.vars) (sp acc) (sp (litD r.p (nN r.vars) (-l)))) (fun _ t => Dn r.p (nN r.vars) t) (eD_Dn hp.1) (fun i l t hl hD => ?_) (fun _ => rfl)
  have hlt := hc.lits l (List.mem_of_getElem? hl)
  rw [wr_sm (n := -l) (by omega) (by omega), impl_literal_eq h (by omega) (by omega) (by omega), bd_some, impl_times_eq h hD (litD_Dn hp.1 _), bd_some]
  exact ⟨rfl, mulT_Dn hp.1 _ _⟩
end Go.PF
