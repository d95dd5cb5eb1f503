/- Helpers of the walks and plain laws. -/
import Derived.Test.YtnimmenfdndeoaaGreatNrLC
import Derived.Test.YtnimmenfdndeoaaGreatNrLB
import Derived.Test.YtnimmenfdndeoaaGreatNrPf
set_option linter.unusedVariables false
namespace Go.PF
open Go.Pu
structure Le {A : Type} (x y : Option A) : Prop where
 le : ∀ r, x = some r → y = some r
theorem Le.rfl' {A : Type} (x : Option A) : Le x x := ⟨fun _ h => h⟩
def iterC {S X : Type} : Nat → (S → Option (Lp S X)) → S → Option (Rs S X)
 | 0, _, _ => none
 | n + 1, b, s => match b s with
  | none => none
  | some (.nx s') => iterC n b s'
  | some (.bk s') => some (.go s')
  | some (.rt x) => some (.rt x)
theorem iterC_le {S X : Type} {f g : S → Option (Lp S X)} (h : ∀ s, Le (f s) (g s)) (n : Nat) (s : S) : Le (iterC n f s) (iter g s) := by
 constructor
 induction n generalizing s with
 | zero => intro r e; cases e
 | succ n ih =>
  intro r e
  unfold iterC at e
  split at e
  · cases e
  · rename_i s' hb; rw [iter_nx ((h s).le _ hb)]; exact ih _ _ e
  · rename_i s' hb; cases e; exact iter_bk ((h s).le _ hb)
  · rename_i x hb; cases e; exact iter_rt ((h s).le _ hb)
theorem bd_le {A B : Type} {x y : Option A} {k l : A → Option B} (h : Le x y) (hk : ∀ a, Le (k a) (l a)) : Le (bd x k) (bd y l) := by
 constructor
 intro r e
 obtain ⟨a, h1, h2⟩ := bnd e
 rw [h.le _ h1, bd_some]; exact (hk a).le _ h2
theorem bdR_le {S X B : Type} {x y : Option (Rs S X)} {k k' : S → Option B} {l l' : X → Option B} (h : Le x y) (hk : ∀ a, Le (k a) (k' a)) (hl : ∀ a, Le (l a) (l' a)) : Le (bdR x k l) (bdR y k' l') := by
 unfold bdR
 refine bd_le h fun a => ?_
 cases a with
 | go s => exact hk s
 | rt x => exact hl x
end Go.PF
namespace Go.PF
open Go.Pu
theorem iter_m {S X B : Type} {body : S → Option (Lp S X)} {s0 : S} {k : S → Option B} {lx : X → Option B} {R : B → Prop} (I : S → Prop) (m : S → Nat) (h0 : I s0)
 (h : ∀ s, I s → (∃ s', body s = some (.nx s') ∧ I s' ∧ m s' < m s) ∨ (∃ s', body s = some (.bk s') ∧ ∃ r, k s' = some r ∧ R r) ∨ (∃ x, body s = some (.rt x) ∧ ∃ r, lx x = some r ∧ R r)) :
 ∃ r, bdR (iter body s0) k lx = some r ∧ R r := by
 have key : ∀ (n : Nat) (s : S), m s ≤ n → I s → ∃ r, bdR (iter body s) k lx = some r ∧ R r := by
  intro n
  induction n with
  | zero =>
   intro s hm hI
   rcases h s hI with ⟨s', _, _, h3⟩ | ⟨s', h1, h2⟩ | ⟨x, h1, h2⟩
   · omega
   · rw [iter_bk h1, bdR_go]; exact h2
   · rw [iter_rt h1, bdR_rt]; exact h2
  | succ n ih =>
   intro s hm hI
   rcases h s hI with ⟨s', h1, h2, h3⟩ | ⟨s', h1, h2⟩ | ⟨x, h1, h2⟩
   · rw [iter_nx h1]; exact ih s' (by omega) h2
   · rw [iter_bk h1, bdR_go]; exact h2
   · rw [iter_rt h1, bdR_rt]; exact h2
 exact key _ s0 (Nat.le_refl _) h0
theorem list_m {σ α X B : Type} {xs : List α} {body : Nat → α → σ → Option (Lp σ X)} {k : σ → Option B} {lx : X → Option B} {R : B → Prop} (I : Nat → σ → Prop) {s0 : σ} (h0 : I 0 s0)
 (h : ∀ (i : Nat) x s, xs[i]? = some x → I i s → (∃ s', body i x s = some (.nx s') ∧ I (i + 1) s') ∨ (∃ y, body i x s = some (.rt y) ∧ ∃ r, lx y = some r ∧ R r))
 (hk : ∀ s, I xs.length s → ∃ r, k s = some r ∧ R r) : ∃ r, bdR (forL xs body s0) k lx = some r ∧ R r := by
 have key : ∀ (m : List α) (j : Nat) (s : σ), j + m.length = xs.length → (∀ i y, m[i]? = some y → xs[j + i]? = some y) → I j s → ∃ r, bdR (forLFrom body m j s) k lx = some r ∧ R r := by
  intro m
  induction m with
  | nil =>
   intro j s hj _ hI
   simp only [List.length_nil, Nat.add_zero] at hj
   subst hj
   rw [forLFrom_nil, bdR_go]
   exact hk s hI
  | cons y m ih =>
   intro j s hj hm hI
   rcases h j y s (by have := hm 0 y rfl; simpa using this) hI with ⟨s', h1, h2⟩ | ⟨x, h1, h2⟩
   · rw [forLFrom_nx h1]
     exact ih (j + 1) s' (by simp at hj; omega) (fun i z hz => by have := hm (i + 1) z (by simpa using hz); rwa [show j + (i + 1) = j + 1 + i by omega] at this) h2
   · rw [show forLFrom body (y :: m) j s = some (.rt x) by unfold forLFrom; rw [h1], bdR_rt]
     exact h2
 exact key xs 0 s0 (by simp) (by simp) h0
theorem cnt_m {σ T X B : Type} (mk : σ → Int → T) {n : Nat} {body : T → Option (Lp T X)} {a : Nat} {t0 : T} {k : T → Option B} {lx : X → Option B} {R : B → Prop} (I : Nat → σ → Prop) {s0 : σ} (ht : t0 = mk s0 (a : Int)) (ha : a ≤ n) (h0 : I a s0)
 (h : ∀ (i : Nat) s, a ≤ i → i < n → I i s → (∃ s', body (mk s (i : Int)) = some (.nx (mk s' ((i + 1 : Nat) : Int))) ∧ I (i + 1) s') ∨ (∃ y, body (mk s (i : Int)) = some (.rt y) ∧ ∃ r, lx y = some r ∧ R r))
 (he : ∀ s, I n s → body (mk s (n : Int)) = some (.bk (mk s (n : Int)))) (hk : ∀ s, I n s → ∃ r, k (mk s (n : Int)) = some r ∧ R r) : ∃ r, bdR (iter body t0) k lx = some r ∧ R r := by
 subst ht
 have key : ∀ (d i : Nat) (s : σ), a ≤ i → i + d = n → I i s → ∃ r, bdR (iter body (mk s (i : Int))) k lx = some r ∧ R r := by
  intro d
  induction d with
  | zero =>
   intro i s hi hd hI
   have e : i = n := by omega
   subst e
   rw [iter_bk (he s hI), bdR_go]
   exact hk s hI
  | succ d ih =>
   intro i s hi hd hI
   rcases h i s hi (by omega) hI with ⟨s', h1, h2⟩ | ⟨x, h1, h2⟩
   · rw [iter_nx h1]; exact ih (i + 1) s' (by omega) (by omega) h2
   · rw [iter_rt h1, bdR_rt]; exact h2
 exact key (n - a) a s0 (Nat.le_refl _) (by omega) h0
theorem rng_m {σ X B : Type} {n : Nat} {body : Nat → σ → Option (Lp σ X)} {k : σ → Option B} {lx : X → Option B} {R : B → Prop} (I : Nat → σ → Prop) {s0 : σ} (h0 : I 0 s0)
 (h : ∀ (i : Nat) s, i < n → I i s → (∃ s', body i s = some (.nx s') ∧ I (i + 1) s') ∨ (∃ y, body i s = some (.rt y) ∧ ∃ r, lx y = some r ∧ R r))
 (hk : ∀ s, I n s → ∃ r, k s = some r ∧ R r) : ∃ r, bdR (forR 0 n body s0) k lx = some r ∧ R r := by
 have key : ∀ (d i : Nat) (s : σ), i + d = n → I i s → ∃ r, bdR (forFrom body d i s) k lx = some r ∧ R r := by
  intro d
  induction d with
  | zero =>
   intro i s hd hI
   have e : i = n := by omega
   subst e
   exact hk s hI
  | succ d ih =>
   intro i s hd hI
   rcases h i s (by omega) hI with ⟨s', h1, h2⟩ | ⟨x, h1, h2⟩
   · rw [show forFrom body (d + 1) i s = forFrom body d (i + 1) s' by rw [forFrom]; rw [h1]]
     exact ih (i + 1) s' (by omega) h2
   · rw [show forFrom body (d + 1) i s = some (.rt x) by rw [forFrom]; rw [h1], bdR_rt]
     exact h2
 exact key n 0 s0 (by omega) h0
theorem chk_len {A : Type} {xs : List A} (h : xs.length ≤ 1000000) : chk (len xs) = some xs.length := by
 unfold chk len
 rw [if_pos (by omega)]
 simp
theorem bd_ex {A B : Type} {x : Option A} {k : A → Option B} {Q : A → Prop} {R : B → Prop} (h : ∃ r, x = some r ∧ Q r) (hk : ∀ r, Q r → ∃ q, k r = some q ∧ R q) : ∃ q, bd x k = some q ∧ R q := by
 obtain ⟨r, e, q⟩ := h
 rw [e, bd_some]
 exact hk r q
theorem wr_s {n : Int} (h0 : -1000000000 ≤ n) (h1 : n ≤ 1000000000) : wr n = n := wr_of n (by omega) (by omega)
end Go.PF
namespace Go.PF
open Go.Pu
def big : Int := 9223372036854775807
def wIntS (a : List Int) : Nat := a.length
def wIntSS (a : List (List Int)) : Nat := a.length + tot wIntS a
def wCnf (a : Cnf) : Nat := wIntSS a.clauses
theorem sz_IntS {a : List Int} {s : Int} (ha : okL okI a) (h0 : 0 ≤ s) (h1 : s ≤ 1048576) : laws_szIntS a s < 0 ∨ laws_szIntS a s + wIntS a = s := by
 have := ha.1
 unfold laws_szIntS wIntS
 rw [wr_of _ (by rw [len_eq]; omega) (by rw [len_eq]; omega)]
 by_cases h : s - len a < 0
 · left; simp [h]
 · right; simp only [h, decide_false, cond_false]; rw [len_eq]; omega
theorem sz_IntSS {a : List (List Int)} {s : Int} (ha : okL (okL okI) a) (h0 : 0 ≤ s) (h1 : s ≤ 1048576) : ∃ r, laws_szIntSS a s = some r ∧ (r < 0 ∨ r + wIntSS a = s) :=
 sz_list (sz := fun y s => some (laws_szIntS y s)) (wt := wIntS) (fun _ _ _ => rfl) (fun y hy _ h0 h1 => ⟨_, rfl, sz_IntS (ha.2 y hy) h0 h1⟩) ha.1 h0 h1
theorem sz_Cnf {a : Cnf} {s : Int} (ha : okCnf a) (h0 : 0 ≤ s) (h1 : s ≤ 1048576) : ∃ r, laws_szCnf a s = some r ∧ (r < 0 ∨ r + wCnf a = s) := by
 obtain ⟨r, h2, h3⟩ := sz_IntSS ha.2 h0 h1
 unfold laws_szCnf
 rw [h2, bd_some]
 by_cases h : r < 0
 · exact ⟨-1, by simp [h], .inl (by omega)⟩
 · exact ⟨r, by simp [h], h3⟩
theorem to_IntS {a : List Int} (h : wIntS a ≤ lim) : laws_toIntS a = some a := by
 have := to_list (β := Int) (g := fun y => some y) (h := id) (z := 0) (l := a) (f := fun i y s => bd (ix s (i : Int)) fun _ => bd (put s (i : Int) y) fun xs => some (.nx xs)) (fun _ _ _ => rfl) (fun _ _ => rfl) h
 rw [List.map_id] at this; exact this
theorem to_IntSS {a : List (List Int)} (h : wIntSS a ≤ lim) : laws_toIntSS a = some a := by
 have := to_list (g := laws_toIntS) (h := id) (z := []) (l := a) (fun _ _ _ => rfl) (fun y hy => to_IntS (by have := tot_mem (wt := wIntS) hy; unfold wIntSS at h; omega)) (by unfold wIntSS at h; omega)
 rw [List.map_id] at this; exact this
theorem to_Cnf {a : Cnf} (h : wCnf a ≤ lim) : laws_toCnf a = some a := by
 unfold laws_toCnf; rw [to_IntSS h]; rfl
theorem eq_IntS (a : List Int) : laws_eqIntS a a = some true :=
 eq_list (eq := fun y x => some (y == x)) (fun _ _ _ => rfl) (fun y _ => by simp)
theorem eq_IntSS (a : List (List Int)) : laws_eqIntSS a a = some true := eq_list (eq := laws_eqIntS) (fun _ _ _ => rfl) (fun y _ => eq_IntS y)
theorem eq_Cnf (a : Cnf) : laws_eqCnf a a = some true := by unfold laws_eqCnf; rw [eq_IntSS]; simp
theorem eq_ResStep (a : ResStep) : laws_eqResStep a a = some true := by unfold laws_eqResStep; rw [eq_IntS]; simp
theorem eq_ResStepS (a : List ResStep) : laws_eqResStepS a a = some true := eq_list (eq := laws_eqResStep) (fun _ _ _ => rfl) (fun y _ => eq_ResStep y)
def mResStep (a : ResStep) : Nat := a.clause.length + 3
theorem tot_one {A : Type} (l : List A) : tot (fun _ => 1) l = l.length := by induction l with
 | nil => rfl
 | cons _ l ih => simp [tot, ih]; omega
theorem mark_IntS {a : List Int} {k : Int} (h0 : 0 ≤ k) (h1 : k + a.length ≤ big) : (laws_markIntS a k).2 = k + a.length := by
 have := mark_end (F := fun (_ : Int) m => (m, wr (m + 1))) (wt := fun _ => 1) (l := a) (k := k) (fun y _ k h0 h1 => wr_of _ (by omega) (by omega)) h0 (by rw [tot_one]; exact h1)
 rw [tot_one] at this; exact this
theorem mark_IntSS {a : List (List Int)} {k : Int} (h0 : 0 ≤ k) (h1 : k + tot wIntS a ≤ big) : (laws_markIntSS a k).2 = k + tot wIntS a :=
 mark_end (wt := wIntS) (fun _ _ _ h0 h1 => mark_IntS h0 h1) h0 h1
theorem mark_Cnf {a : Cnf} {k : Int} (h0 : 0 ≤ k) (h1 : k + tot wIntS a.clauses ≤ big) : (laws_markCnf a k).2 = k + tot wIntS a.clauses := mark_IntSS h0 h1
theorem wr3 {k : Int} (h0 : 0 ≤ k) (h1 : k + 3 ≤ big) : wr (k + 1) = k + 1 ∧ wr (k + 1 + 1) = k + 2 ∧ wr (k + 2 + 1) = k + 3 := by
 unfold big at h1
 exact ⟨wr_of _ (by omega) (by omega), by rw [wr_of _ (by omega) (by omega)]; omega, by rw [wr_of _ (by omega) (by omega)]; omega⟩
theorem mark_ResStepS {a : List ResStep} {k : Int} (h0 : 0 ≤ k) (h1 : k + tot mResStep a ≤ big) : (laws_markResStepS a k).2 = k + tot mResStep a := by
 refine mark_end (wt := mResStep) (fun y _ k h0 h1 => ?_) h0 h1
 unfold mResStep at h1 ⊢
 have e := mark_IntS (a := y.clause) h0 (by unfold big; omega)
 obtain ⟨a1, a2, a3⟩ := wr3 (k := k + y.clause.length) (by omega) (by unfold big; omega)
 simp only [e, a1, a2, a3]; omega
theorem held_IntS {a : List Int} {k : Int} (h0 : 0 ≤ k) (h1 : k + a.length ≤ big) : laws_heldIntS (laws_markIntS a k).1 k = some (laws_markIntS a k).2 := by
 have := held_list (F := fun (_ : Int) m => (m, wr (m + 1))) (wt := fun _ => 1) (l := a) (k := k) (i := 0) (f := fun _ y s => bif !(y == s) then some (.rt (-1)) else some (.nx (wr (s + 1)))) (fun y _ k h0 h1 => ⟨wr_of _ (by omega) (by omega), fun i => by simp⟩) h0 (by rw [tot_one]; exact h1)
 unfold laws_heldIntS forL
 unfold laws_markIntS
 rw [this]; rfl
theorem held_ResStepS {a : List ResStep} {k : Int} (h0 : 0 ≤ k) (h1 : k + tot mResStep a ≤ big) : laws_heldResStepS (laws_markResStepS a k).1 k = some (laws_markResStepS a k).2 := by
 unfold laws_heldResStepS forL laws_markResStepS
 rw [held_list (wt := mResStep) (fun y _ k h0 h1 => ?_) h0 h1]
 · rfl
 · unfold mResStep at h1 ⊢
   have e := mark_IntS (a := y.clause) h0 (by unfold big; omega)
   obtain ⟨a1, a2, a3⟩ := wr3 (k := k + y.clause.length) (by omega) (by unfold big; omega)
   refine ⟨by simp only [e, a1, a2, a3]; omega, fun i => ?_⟩
   have hh := held_IntS (a := y.clause) h0 (by unfold big; omega)
   simp only [e] at hh
   simp only [e, a1, a2, a3, hh, bd_some]
   have : ¬ (k + (y.clause.length : Int) < 0) := by omega
   simp [this]
end Go.PF
namespace Go.PF
open Go.Pu
def vr (l : Int) : Int := bif decide (l < 0) then wr (-l) else l
theorem spec_l2Var_eq (l : Int) : spec_l2Var l = vr l := rfl
theorem vr_abs {l : Int} (h1 : -12 ≤ l) (h2 : l ≤ 12) : vr l = l.natAbs := by
 unfold vr
 by_cases h : l < 0
 · simp only [h, decide_true, cond_true]; rw [wr_of _ (by omega) (by omega)]; omega
 · simp only [h, decide_false, cond_false]; omega
theorem impl_abs_eq {l : Int} (h : okI l) : impl_abs l = vr l := by
 obtain ⟨h1, h2⟩ := h
 unfold impl_abs vr mx
 by_cases h0 : l < 0
 · simp only [h0, decide_true, cond_true]
   by_cases hm : l = -9223372036854775808
   · subst hm; decide
   · rw [wr_of _ (by omega) (by omega), if_pos (by omega)]
 · simp only [h0, decide_false, cond_false]
   rw [wr_of _ (by omega) (by omega)]
   by_cases hz : l = 0
   · subst hz; rfl
   · rw [if_neg (by omega)]
def inB (a b c : Int) : Bool := decide (b ≤ a) && decide (a ≤ c)
theorem inB_iff {a b c : Int} : inB a b c = true ↔ b ≤ a ∧ a ≤ c := by simp [inB]
theorem spec_l1In_eq (a b c : Int) : spec_l1In a b c = inB a b c := by simp [spec_l1In, inB]
theorem impl_within_eq (a b c : Int) : impl_within a b c = inB a b c := by simp [impl_within, inB]
def varsB (v : Int) : Bool := inB v 0 12
theorem varsB_iff {v : Int} : varsB v = true ↔ 0 ≤ v ∧ v ≤ 12 := inB_iff
theorem spec_l2Vars_eq (v : Int) : spec_l2Vars v = varsB v := spec_l1In_eq _ _ _
theorem impl_varsOk_eq (v : Int) : impl_varsOk v = varsB v := impl_within_eq _ _ _
def litB (v l : Int) : Bool := inB l (wr (-v)) v && !(l == 0)
theorem spec_l2Lit_eq (v l : Int) : spec_l2Lit v l = litB v l := by simp [spec_l2Lit, litB, spec_l1In_eq]
theorem impl_isLiteral_eq (v l : Int) : impl_isLiteral v l = litB v l := by simp [impl_isLiteral, litB, impl_within_eq, Bool.and_comm]
def clauseB (v : Int) (c : List Int) : Bool := varsB v && (c.all (litB v) && adj (fun a b => decide (vr a < vr b)) c)
theorem spec_l2Clause_eq {v : Int} {c : List Int} (hc : okL okI c) : spec_l2Clause v c = some (clauseB v c) := by
 unfold spec_l2Clause clauseB
 rw [spec_l2Vars_eq]
 cases hv : varsB v with
 | false => rfl
 | true =>
  simp only [Bool.not_true, cond_false, Bool.true_and]
  rw [forL_any (p := fun i y => !litB v y || match i with | 0 => false | i + 1 => match c[i]? with | some x => decide (vr y ≤ vr x) | none => false) (v := false) (fun i y hy => by
   rw [spec_l2Lit_eq]
   cases hl : litB v y with
   | false => simp
   | true =>
    cases i with
    | zero => simp
    | succ i =>
     have hi : i + 1 < c.length := (List.getElem?_eq_some_iff.1 hy).1
     have hp : decide ((0 : Int) < ((i + 1 : Nat) : Int)) = true := by simp
     rw [hp, wr_pred (by omega) hi hc.1, ix_get]
     simp only [Nat.add_sub_cancel]
     rw [List.getElem?_eq_getElem (show i < c.length by omega)]
     simp only [Bool.not_true, cond_false, cond_true, bd_some, Bool.false_or, spec_l2Var_eq]
     rfl)]
  rw [anyI_adj (q := fun y => !litB v y) (r := fun a b => decide (vr a < vr b)) (by intro y _; simp) (by
   intro i x y hx hy
   simp only [hx]
   congr 1
   by_cases h : vr x < vr y
   · simp [h]
   · simp [h]; omega)]
  simp only [Bool.not_not]
  cases (c.all fun y => litB v y) && adj (fun a b => decide (vr a < vr b)) c <;> rfl
theorem impl_IsClause_eq {v : Int} {c : List Int} (hc : okL okI c) : impl_IsClause v c = some (clauseB v c) := by
 unfold impl_IsClause clauseB
 rw [impl_varsOk_eq]
 rw [forL_any (p := fun i y => !litB v y || match i with | 0 => false | i + 1 => match c[i]? with | some x => decide (vr y ≤ vr x) | none => false) (v := false) (fun i y hy => by
  rw [impl_isLiteral_eq]
  cases hl : litB v y with
  | false => simp
  | true =>
   cases i with
   | zero => simp
   | succ i =>
    have hi : i + 1 < c.length := (List.getElem?_eq_some_iff.1 hy).1
    have hp : decide ((0 : Int) < ((i + 1 : Nat) : Int)) = true := by simp
    rw [hp, wr_pred (by omega) hi hc.1, ix_get]
    simp only [Nat.add_sub_cancel]
    rw [List.getElem?_eq_getElem (show i < c.length by omega)]
    simp only [Bool.not_true, cond_false, cond_true, bd_some, Bool.false_or]
    rw [impl_abs_eq (hc.2 _ (List.mem_of_getElem? hy)), impl_abs_eq (hc.2 _ (List.getElem_mem _))])]
 rw [anyI_adj (q := fun y => !litB v y) (r := fun a b => decide (vr a < vr b)) (by intro y _; simp) (by
  intro i x y hx hy
  simp only [hx]
  congr 1
  by_cases h : vr x < vr y
  · simp [h]
  · simp [h]; omega)]
 simp only [Bool.not_not]
 cases (c.all fun y => litB v y) && adj (fun a b => decide (vr a < vr b)) c <;> simp
structure IsC (v : Int) (c : List Int) : Prop where
 lo : 0 ≤ v
 hi : v ≤ 12
 lit : ∀ l ∈ c, -v ≤ l ∧ l ≤ v ∧ l ≠ 0
 srt : c.Pairwise fun a b => a.natAbs < b.natAbs
theorem adj_pairwise {α : Type} {r : α → α → Bool} {R : α → α → Prop} (ht : ∀ a b c, R a b → R b c → R a c) : ∀ {l : List α}, (∀ a b, a ∈ l → b ∈ l → r a b = true → R a b) → adj r l = true → l.Pairwise R := by
 intro l
 induction l with
 | nil => intro _ _; exact .nil
 | cons a l ih =>
  intro hr h
  cases l with
  | nil => simp
  | cons b l =>
   simp only [adj, Bool.and_eq_true] at h
   have hp := ih (fun x y hx hy => hr x y (by simp [hx]) (by simp [hy])) h.2
   have hab := hr a b (by simp) (by simp) h.1
   refine List.pairwise_cons.2 ⟨fun x hx => ?_, hp⟩
   rcases List.mem_cons.1 hx with rfl | hx
   · exact hab
   · exact ht _ _ _ hab ((List.pairwise_cons.1 hp).1 x hx)
theorem adj_of_pairwise {α : Type} {r : α → α → Bool} {l : List α} (h : l.Pairwise fun a b => r a b = true) : adj r l = true := by
 induction l with
 | nil => rfl
 | cons a l ih =>
  cases l with
  | nil => rfl
  | cons b l =>
   obtain ⟨h1, h2⟩ := List.pairwise_cons.1 h
   simp only [adj, Bool.and_eq_true]
   exact ⟨h1 b (by simp), ih h2⟩
theorem litB_iff {v l : Int} (h1 : 0 ≤ v) (h2 : v ≤ 12) : litB v l = true ↔ -v ≤ l ∧ l ≤ v ∧ l ≠ 0 := by
 unfold litB
 rw [wr_of _ (by omega) (by omega)]
 simp [inB]; omega
theorem clauseB_iff {v : Int} {c : List Int} : clauseB v c = true ↔ IsC v c := by
 unfold clauseB
 rw [Bool.and_eq_true, Bool.and_eq_true, varsB_iff, List.all_eq_true]
 constructor
 · rintro ⟨⟨h1, h2⟩, h3, h4⟩
   have hl : ∀ l ∈ c, -v ≤ l ∧ l ≤ v ∧ l ≠ 0 := fun l hl => (litB_iff h1 h2).1 (h3 l hl)
   refine ⟨h1, h2, hl, adj_pairwise (R := fun a b : Int => a.natAbs < b.natAbs) (fun _ _ _ => Nat.lt_trans) (fun a b ha hb hr => ?_) h4⟩
   have := hl a ha; have := hl b hb
   simp only [decide_eq_true_eq] at hr
   rw [vr_abs (by omega) (by omega), vr_abs (by omega) (by omega)] at hr
   omega
 · rintro ⟨h1, h2, h3, h4⟩
   refine ⟨⟨h1, h2⟩, fun l hl => (litB_iff h1 h2).2 (h3 l hl), adj_of_pairwise (List.Pairwise.imp_of_mem ?_ h4)⟩
   intro a b ha hb hr
   have := h3 a ha; have := h3 b hb
   simp only [decide_eq_true_eq]
   rw [vr_abs (by omega) (by omega), vr_abs (by omega) (by omega)]
   omega
theorem srt_len : ∀ {c : List Int} {k n : Nat}, c.Pairwise (fun a b => a.natAbs < b.natAbs) → (∀ l ∈ c, k < l.natAbs ∧ l.natAbs ≤ n) → c.length + k ≤ max k n := by
 intro c
 induction c with
 | nil => intro k n _ _; simp; omega
 | cons a c ih =>
  intro k n h hl
  obtain ⟨h1, h2⟩ := List.pairwise_cons.1 h
  have ha := hl a (by simp)
  have := ih (k := a.natAbs) (n := n) h2 fun l hm => ⟨h1 l hm, (hl l (by simp [hm])).2⟩
  simp only [List.length_cons]; omega
theorem IsC.len {v : Int} {c : List Int} (h : IsC v c) : c.length ≤ 12 := by
 have := srt_len (k := 0) (n := 12) h.srt fun l hl => by have := h.lit l hl; have := h.hi; omega
 omega
def cnfB (f : Cnf) : Bool := varsB f.vars && decide (len f.clauses ≤ 60) && f.clauses.all (clauseB f.vars)
theorem spec_l2Good_eq {f : Cnf} (hf : okCnf f) : spec_l2Good f = some (cnfB f) := by
 unfold spec_l2Good cnfB
 rw [spec_l2Vars_eq]
 cases hv : varsB f.vars with
 | false => rfl
 | true =>
  have e : (decide (60 < len f.clauses)) = !decide (len f.clauses ≤ 60) := by
   by_cases h : len f.clauses ≤ 60
   · simp [h]
   · simp [h]; omega
  simp only [Bool.not_true, cond_false, Bool.true_and]
  rw [e]
  cases hl : decide (len f.clauses ≤ 60) with
  | false => rfl
  | true =>
   have hlen : f.clauses.length ≤ 60 := by have := of_decide_eq_true hl; rw [len_eq] at this; omega
   simp only [Bool.not_true, cond_false, Bool.true_and]
   rw [iter_any (xs := f.clauses) (p := fun _ c => !clauseB f.vars c) (v := false) (fun i y hy => by
    have hi := (List.getElem?_eq_some_iff.1 hy).1
    have hd : decide ((i : Int) < len f.clauses) = true := by rw [len_eq]; simp; omega
    rw [hd, ix_get, hy]
    simp only [cond_true, bd_some]
    rw [spec_l2Clause_eq (hf.2.2 _ (List.mem_of_getElem? hy)), bd_some]
    cases clauseB f.vars y with
    | false => simp only [Bool.not_false, cond_true]
    | true => rw [wr_succ hi (by omega)]) (by
    have hd : decide (((f.clauses.length : Nat) : Int) < len f.clauses) = false := by rw [len_eq]; simp
    rw [hd, cond_false])]
   rw [anyI_any, show (f.clauses.any fun y => !clauseB f.vars y) = !f.clauses.all (clauseB f.vars) by rw [List.all_eq_not_any_not, Bool.not_not]]
   cases f.clauses.all (clauseB f.vars) <;> rfl
theorem impl_IsCnf_eq {f : Cnf} (hf : okCnf f) : impl_IsCnf f = some (cnfB f) := by
 unfold impl_IsCnf cnfB
 rw [impl_varsOk_eq]
 rw [forL_any (p := fun _ c => !clauseB f.vars c) (v := false) (fun i y hy => by
  rw [impl_IsClause_eq (hf.2.2 _ (List.mem_of_getElem? hy)), bd_some])]
 rw [anyI_any, show (f.clauses.any fun y => !clauseB f.vars y) = !f.clauses.all (clauseB f.vars) by rw [List.all_eq_not_any_not, Bool.not_not]]
 cases f.clauses.all (clauseB f.vars) <;> simp
theorem same_eq (a b : List Int) : (bif (!((len a) == (len b))) then some false else bdR (forL (S := Unit) (X := Bool) a (fun i23 y22 s23 => bd (ix b ((i23 : Nat) : Int)) (fun x74 => (bif (!(y22 == x74)) then some (Lp.rt false) else some (Lp.nx ())))) ()) (fun s23 => some true) (fun x23 => some x23)) = some (a == b) := by
 rw [len_eq, len_eq]
 by_cases hl : a.length = b.length
 · have : (((a.length : Nat) : Int) == ((b.length : Nat) : Int)) = true := by simp [hl]
   rw [this]
   simp only [Bool.not_true, cond_false]
   rw [forL_any (p := fun i y => match b[i]? with | some x => !(y == x) | none => false) (v := false) (fun i y hy => by
    have hi := (List.getElem?_eq_some_iff.1 hy).1
    rw [ix_get, List.getElem?_eq_getElem (by omega), bd_some])]
   have e : anyI (fun i y => match b[i]? with | some x => !(y == x) | none => false) a 0 = !(a == b) := by
    by_cases hab : a = b
    · subst hab
      rw [show (a == a) = true by simp]
      rw [anyI_false.2]; rfl
      intro i y hy; rw [Nat.zero_add, hy]; simp
    · rw [show (a == b) = false by simpa using hab]
      cases h : anyI (fun i y => match b[i]? with | some x => !(y == x) | none => false) a 0 with
      | true => rfl
      | false =>
       exfalso; apply hab
       rw [anyI_false] at h
       apply List.ext_getElem hl
       intro i h1 h2
       have := h i a[i] (by simp [h1])
       rw [Nat.zero_add, List.getElem?_eq_getElem h2] at this
       simpa using this
   rw [e]; cases a == b <;> rfl
 · have : (((a.length : Nat) : Int) == ((b.length : Nat) : Int)) = false := by simp; omega
   rw [this]
   have : (a == b) = false := by
    rw [beq_eq_false_iff_ne]; intro e; subst e; exact hl rfl
   rw [this]; rfl
theorem spec_l1Same_eq (a b : List Int) : spec_l1Same a b = some (a == b) := same_eq a b
theorem slices_Equal_int_int_eq (a b : List Int) : slices_Equal_int_int a b = some (a == b) := same_eq a b
theorem spec_l1Has_eq (c : List Int) (l : Int) : spec_l1Has c l = some (c.contains l) := by
 unfold spec_l1Has
 rw [forL_any (p := fun _ y => y == l) (v := true) (fun i y _ => rfl), anyI_any]
 rw [show (c.any fun y => y == l) = c.contains l by induction c with | nil => rfl | cons x c ih => rw [List.any_cons, List.contains_cons, ih, Bool.beq_comm]]
 cases c.contains l <;> rfl
theorem spec_l2Has_eq (c : List Int) (l : Int) : spec_l2Has c l = some (c.contains l) := by unfold spec_l2Has; rw [spec_l1Has_eq]; rfl
def partB (a b : List Int) : Bool := a.all fun y => b.contains y
end Go.PF
namespace Go.PF
open Go.Pu
theorem foldl_filter {α : Type} {p : α → Bool} : ∀ {l s : List α}, l.foldl (fun s y => bif p y then s ++ [y] else s) s = s ++ l.filter p := by
 intro l
 induction l with
 | nil => intro s; simp
 | cons y l ih =>
  intro s
  rw [List.foldl_cons, ih]
  cases h : p y <;> simp [h]
theorem forL_filter {α X : Type} {f : Nat → α → List α → Option (Lp (List α) X)} {p : α → Bool} {l : List α} (hf : ∀ i y s, l[i]? = some y → f i y s = bif p y then bd (app s [y]) fun xs => some (.nx xs) else some (.nx s)) (hl : l.length ≤ lim) :
 forL l f [] = some (.go (l.filter p)) := by
 have := (forL_foldI (X := X) (body := f) (fun s y => bif p y then s ++ [y] else s) (l := l) (s := []) (fun i s => s.length ≤ i) (by simp) (fun i x t hx ht => by
  have hi := (List.getElem?_eq_some_iff.1 hx).1
  rw [hf i x t hx]
  cases p x with
  | false => exact ⟨rfl, by simp only [cond_false]; omega⟩
  | true =>
   simp only [cond_true]
   rw [app_ok (by simp; omega), bd_some]
   exact ⟨rfl, by simp; omega⟩)).1
 rw [this, foldl_filter]; rfl
def without (c : List Int) (v : Int) : List Int := c.filter fun y => !(vr y == v)
theorem spec_l2Without_eq {c : List Int} {v : Int} (hl : c.length ≤ lim) : spec_l2Without c v = some (without c v) := by
 unfold spec_l2Without without
 rw [forL_filter (p := fun y => !(vr y == v)) (fun i y s _ => by rfl) hl]; rfl
theorem filter_take {α : Type} {p : α → Bool} {c : List α} {j : Nat} {x : α} (hx : c[j]? = some x) : (c.take (j + 1)).filter p = (c.take j).filter p ++ bif p x then [x] else [] := by
 rw [List.take_add_one, hx, Option.toList_some, List.filter_append]
 cases h : p x <;> simp [List.filter, h]
theorem del_loop {α : Type} {n : Nat} (hn : n ≤ 9223372036854775806) {c : List α} (hc : c.length = n) {f : α → Option Bool} {g : α → Bool} (h : ∀ y ∈ c, f y = some (g y)) :
 ∀ (m j i : Nat) (s : List α), j + m = n → i ≤ j → s.length = n → s.take i = (c.take j).filter (fun y => !g y) → s.drop j = c.drop j →
  ∃ s' i', iter (S := (List α) × Int × Int) (X := Empty) (fun s32 => (bif (decide (s32.2.2 < (len s32.1))) then bd (ix s32.1 s32.2.2) (fun x143 => bd (f x143) (fun r145 => (bif (!r145) then bd (ix s32.1 s32.2.1) (fun _ => bd (put s32.1 s32.2.1 x143) (fun xs167 => some (Lp.nx (xs167, (wr (s32.2.1 + 1)), (wr (s32.2.2 + 1)))))) else some (Lp.nx (s32.1, s32.2.1, (wr (s32.2.2 + 1))))))) else some (Lp.bk (s32.1, s32.2.1, s32.2.2)))) (s, (i : Int), (j : Int)) =
   some (.go (s', ((i' : Nat) : Int), (n : Int))) ∧ i' ≤ n ∧ s'.length = n ∧ s'.take i' = c.filter (fun y => !g y) := by
 intro m
 induction m with
 | zero =>
  intro j i s hj hi hs ht _
  have : j = n := by omega
  subst this
  refine ⟨s, i, iter_bk ?_, hi, hs, by rw [ht, List.take_of_length_le (by omega)]⟩
  have hd : decide (((j : Nat) : Int) < len s) = false := by rw [len_eq, hs]; simp
  simp only [hd, cond_false]
 | succ m ih =>
  intro j i s hj hi hs ht hd
  have hjn : j < n := by omega
  have hx : s[j]? = some c[j] := by
   have := congrArg (·[0]?) hd
   simp only [List.getElem?_drop, Nat.add_zero] at this
   rw [this]; exact List.getElem?_eq_getElem (by omega)
  have hlt : decide (((j : Nat) : Int) < len s) = true := by rw [len_eq, hs]; simp; omega
  have hg := h c[j] (List.getElem_mem _)
  have e1 : wr ((j : Int) + 1) = ((j + 1 : Nat) : Int) := by rw [wr_of _ (by omega) (by omega)]; simp
  have e2 : wr ((i : Int) + 1) = ((i + 1 : Nat) : Int) := by rw [wr_of _ (by omega) (by omega)]; simp
  cases hgc : g c[j] with
  | true =>
   obtain ⟨s', i', q1, q2⟩ := ih (j + 1) i s (by omega) (by omega) hs (by
    rw [ht, filter_take (List.getElem?_eq_getElem (by omega)), hgc]; simp) (by
    have := congrArg (List.drop 1) hd
    rwa [List.drop_drop, List.drop_drop] at this)
   refine ⟨s', i', ?_, q2⟩
   rw [← q1]
   refine iter_nx ?_
   simp only [hlt, cond_true, ix_get, hx, bd_some, hg, hgc, Bool.not_true, cond_false, e1]
  | false =>
   obtain ⟨s', i', q1, q2⟩ := ih (j + 1) (i + 1) (s.set i c[j]) (by omega) (by omega) (by simpa using hs) (by
    rw [List.take_add_one, List.getElem?_set_self (by omega), List.take_set_of_le (Nat.le_refl _), ht, filter_take (List.getElem?_eq_getElem (show j < c.length by omega)), hgc]; rfl) (by
    rw [List.drop_set_of_lt (by omega)]
    have := congrArg (List.drop 1) hd
    rwa [List.drop_drop, List.drop_drop] at this)
   refine ⟨s', i', ?_, q2⟩
   rw [← q1]
   refine iter_nx ?_
   simp only [hlt, cond_true, ix_get, hx, bd_some, hg, hgc, Bool.not_false, e1, e2]
   rw [List.getElem?_eq_getElem (show i < s.length by omega), bd_some, put_ok (by omega), bd_some]
theorem slices_Clone_int_int_eq {c : List Int} (hl : c.length ≤ lim) : slices_Clone_int_int c = some c := by
 unfold slices_Clone_int_int; rw [app_ok (by simpa using hl)]; rfl
def putL (c : List Int) (l : Int) : List Int := c.takeWhile (fun y => decide (vr y < vr l)) ++ l :: c.dropWhile (fun y => decide (vr y < vr l))
theorem spec_l1Own_eq {c : List Int} (hl : c.length ≤ lim) : spec_l1Own c = some c := by
 unfold spec_l1Own; rw [app_ok (by simpa using hl)]; rfl
theorem takeWhile_le {α : Type} {p : α → Bool} (l : List α) : (l.takeWhile p).length ≤ l.length := (List.takeWhile_prefix p).length_le
theorem take_takeWhile {α : Type} {p : α → Bool} (l : List α) : l.take (l.takeWhile p).length = l.takeWhile p := by
 conv => lhs; rw [← List.takeWhile_append_dropWhile (p := p) (l := l)]
 rw [List.takeWhile_append_dropWhile]
 exact List.prefix_iff_eq_take.1 (List.takeWhile_prefix p) |>.symm
theorem drop_takeWhile {α : Type} {p : α → Bool} (l : List α) : l.drop (l.takeWhile p).length = l.dropWhile p := by
 have h := List.takeWhile_append_dropWhile (p := p) (l := l)
 have h2 : l.drop (l.takeWhile p).length = (l.takeWhile p ++ l.dropWhile p).drop (l.takeWhile p).length := by rw [h]
 rw [h2, List.drop_left]
theorem spec_l2Put_eq {c : List Int} {l : Int} (hl : c.length + 1 ≤ lim) : spec_l2Put c l = some (putL c l) := by
 unfold spec_l2Put putL
 have hl' : c.length + 1 ≤ 4294967296 := hl
 rw [iter_while (xs := c) (p := fun y => decide (vr y < vr l)) (fun i y hy => by
  have hi := (List.getElem?_eq_some_iff.1 hy).1
  have hd : decide ((i : Int) < len c) = true := by rw [len_eq]; simp; omega
  rw [hd, ix_get, hy]
  simp only [cond_true, bd_some, spec_l2Var_eq]
  rw [wr_succ hi (by omega)]; rfl) (by
  have hd : decide (((c.length : Nat) : Int) < len c) = false := by rw [len_eq]; simp
  rw [hd]; rfl), bdR_go]
 have hk := takeWhile_le (p := fun y => decide (vr y < vr l)) c
 rw [show (0 : Int) = ((0 : Nat) : Int) from rfl, cut_ok (Nat.zero_le _) hk, bd_some, List.drop_zero, take_takeWhile, spec_l1Own_eq (by omega), bd_some, app_ok (by simp; omega), bd_some,
  len_eq, cut_ok hk (Nat.le_refl _), bd_some, List.take_length, drop_takeWhile, app_ok, bd_some]
 · simp
 · have := congrArg List.length (List.takeWhile_append_dropWhile (p := fun y => decide (vr y < vr l)) (l := c))
   simp only [List.length_append] at this ⊢
   simp only [List.length_singleton]
   unfold lim; omega
theorem putL_length (c : List Int) (l : Int) : (putL c l).length = c.length + 1 := by
 have := congrArg List.length (List.takeWhile_append_dropWhile (p := fun y => decide (vr y < vr l)) (l := c))
 unfold putL; simp only [List.length_append, List.length_cons] at this ⊢; omega
def joinL : List Int → List Int → Option (List Int)
 | s, [] => some s
 | s, y :: b => bif s.contains (wr (-y)) then none else joinL (bif !s.contains y then putL s y else s) b
theorem spec_l2Join_eq {a b : List Int} (hl : a.length + b.length ≤ lim) : spec_l2Join a b = some (match joinL a b with | some s => (s, true) | none => ([], false)) := by
 unfold spec_l2Join
 rw [spec_l1Own_eq (by omega), bd_some]
 have key : ∀ (F : Nat → Int → List Int → Option (Lp (List Int) (List Int × Bool))), (∀ i y s, F i y s = bd (PF.spec_l2Has s (wr (-y))) (fun r200 => (bif r200 then some (Lp.rt ([], false)) else bd (PF.spec_l2Has s y) (fun r222 => (bif (!r222) then bd (PF.spec_l2Put s y) (fun r239 => some (Lp.nx r239)) else some (Lp.nx s)))))) →
  ∀ (b : List Int) (i : Nat) (s : List Int), s.length + b.length ≤ lim → forLFrom F b i s = some (match joinL s b with | some s => .go s | none => .rt ([], false)) := by
  intro F hF b
  induction b with
  | nil => intro i s _; rfl
  | cons y b ih =>
   intro i s hs
   simp only [List.length_cons] at hs
   rw [forLFrom, hF, spec_l2Has_eq, bd_some, spec_l2Has_eq, bd_some, joinL]
   cases s.contains (wr (-y)) with
   | true => rfl
   | false =>
    simp only [cond_false]
    cases s.contains y with
    | true => simp only [Bool.not_true, cond_false]; exact ih (i + 1) s (by omega)
    | false =>
     simp only [Bool.not_false, cond_true]
     rw [spec_l2Put_eq (c := s) (by omega), bd_some]
     exact ih (i + 1) _ (by rw [putL_length]; omega)
 unfold forL
 rw [key _ (fun _ _ _ => rfl) b 0 a hl]
 cases joinL a b <;> rfl
abbrev Srt (c : List Int) : Prop := c.Pairwise fun a b => a.natAbs < b.natAbs
def Sm (c : List Int) : Prop := ∀ l ∈ c, -12 ≤ l ∧ l ≤ 12 ∧ l ≠ 0
theorem putL_mem {c : List Int} {l x : Int} : x ∈ putL c l ↔ x = l ∨ x ∈ c := by
 have h := List.takeWhile_append_dropWhile (p := fun y => decide (vr y < vr l)) (l := c)
 have : x ∈ c ↔ x ∈ c.takeWhile (fun y => decide (vr y < vr l)) ∨ x ∈ c.dropWhile (fun y => decide (vr y < vr l)) := by rw [← List.mem_append, h]
 unfold putL
 rw [this, List.mem_append, List.mem_cons]
 constructor
 · rintro (h | h | h)
   · exact .inr (.inl h)
   · exact .inl h
   · exact .inr (.inr h)
 · rintro (h | h | h)
   · exact .inr (.inl h)
   · exact .inl h
   · exact .inr (.inr h)
theorem putL_srt {c : List Int} {l : Int} (hc : Srt c) (hs : Sm c) (hl : -12 ≤ l ∧ l ≤ 12) (hn : ∀ x ∈ c, x.natAbs ≠ l.natAbs) : Srt (putL c l) := by
 have hv : ∀ x ∈ c, (decide (vr x < vr l) = true ↔ x.natAbs < l.natAbs) := fun x hx => by
  have := hs x hx
  rw [decide_eq_true_eq, vr_abs (by omega) (by omega), vr_abs hl.1 hl.2]; omega
 unfold putL
 induction c with
 | nil => simp
 | cons y c ih =>
  obtain ⟨h1, h2⟩ := List.pairwise_cons.1 hc
  rw [List.takeWhile_cons, List.dropWhile_cons]
  by_cases hy : decide (vr y < vr l) = true
  · rw [if_pos hy, if_pos hy, List.cons_append]
    have ih := ih h2 (fun x hx => hs x (by simp [hx])) (fun x hx => hn x (by simp [hx])) (fun x hx => hv x (by simp [hx]))
    refine List.pairwise_cons.2 ⟨fun x hx => ?_, ih⟩
    rcases (putL_mem (c := c) (l := l)).1 hx with rfl | hx
    · exact (hv y (by simp)).1 hy
    · exact h1 x hx
  · rw [if_neg hy, if_neg hy, List.nil_append]
    have hly : l.natAbs < y.natAbs := by
     have := hn y (by simp)
     have h3 : ¬ y.natAbs < l.natAbs := fun h => hy ((hv y (by simp)).2 h)
     omega
    refine List.pairwise_cons.2 ⟨fun x hx => ?_, hc⟩
    rcases List.mem_cons.1 hx with rfl | hx
    · exact hly
    · have := h1 x hx; omega
theorem joinL_spec : ∀ {b s : List Int}, Srt s → Sm s → Srt b → Sm b →
 (if ∃ y ∈ b, -y ∈ s then joinL s b = none else ∃ t, joinL s b = some t ∧ Srt t ∧ ∀ x, x ∈ t ↔ x ∈ s ∨ x ∈ b) := by
 intro b
 induction b with
 | nil => intro s hs _ _ _; simp only [List.not_mem_nil, false_and, exists_false, if_false, or_false]; exact ⟨s, rfl, hs, fun _ => Iff.rfl⟩
 | cons y b ih =>
  intro s hs hs2 hb hb2
  obtain ⟨h1, h2⟩ := List.pairwise_cons.1 hb
  have hy := hb2 y (by simp)
  have hw : wr (-y) = -y := wr_of _ (by omega) (by omega)
  simp only [joinL, hw]
  by_cases hn : -y ∈ s
  · rw [if_pos ⟨y, by simp, hn⟩, List.contains_iff_mem.2 hn]; rfl
  · have hnc : s.contains (-y) = false := by rw [Bool.eq_false_iff]; exact fun h => hn (List.contains_iff_mem.1 h)
    rw [hnc, cond_false]
    by_cases hin : y ∈ s
    · rw [List.contains_iff_mem.2 hin]
      simp only [Bool.not_true, cond_false]
      have := ih hs hs2 h2 (fun x hx => hb2 x (by simp [hx]))
      have e1 : (∃ z ∈ y :: b, -z ∈ s) ↔ ∃ z ∈ b, -z ∈ s := by
       constructor
       · rintro ⟨z, hz, hz2⟩
         rcases List.mem_cons.1 hz with rfl | hz
         · exact absurd hz2 hn
         · exact ⟨z, hz, hz2⟩
       · rintro ⟨z, hz, hz2⟩; exact ⟨z, by simp [hz], hz2⟩
      simp only [e1]
      split at this
      · rename_i hex; rw [if_pos hex]; exact this
      · rename_i hex
        rw [if_neg hex]
        obtain ⟨t, t1, t2, t3⟩ := this
        refine ⟨t, t1, t2, fun x => ?_⟩
        rw [t3, List.mem_cons]
        constructor
        · rintro (h | h)
          · exact .inl h
          · exact .inr (.inr h)
        · rintro (h | rfl | h)
          · exact .inl h
          · exact .inl hin
          · exact .inr h
    · have hic : s.contains y = false := by rw [Bool.eq_false_iff]; exact fun h => hin (List.contains_iff_mem.1 h)
      rw [hic]
      simp only [Bool.not_false, cond_true]
      have hne : ∀ x ∈ s, x.natAbs ≠ y.natAbs := fun x hx e => by
       have : x = y ∨ x = -y := by omega
       rcases this with rfl | rfl
       · exact hin hx
       · exact hn hx
      have := ih (putL_srt hs hs2 ⟨hy.1, hy.2.1⟩ hne) (fun x hx => by
       rcases putL_mem.1 hx with rfl | hx
       · exact hy
       · exact hs2 x hx) h2 (fun x hx => hb2 x (by simp [hx]))
      have e1 : (∃ z ∈ y :: b, -z ∈ s) ↔ ∃ z ∈ b, -z ∈ putL s y := by
       constructor
       · rintro ⟨z, hz, hz2⟩
         rcases List.mem_cons.1 hz with rfl | hz
         · exact absurd hz2 hn
         · exact ⟨z, hz, putL_mem.2 (.inr hz2)⟩
       · rintro ⟨z, hz, hz2⟩
         rcases putL_mem.1 hz2 with e | hz2
         · have := h1 z hz; omega
         · exact ⟨z, by simp [hz], hz2⟩
      simp only [e1]
      split at this
      · rename_i hex; rw [if_pos hex]; exact this
      · rename_i hex
        rw [if_neg hex]
        obtain ⟨t, t1, t2, t3⟩ := this
        refine ⟨t, t1, t2, fun x => ?_⟩
        rw [t3, putL_mem, List.mem_cons]
        constructor
        · rintro ((h | h) | h)
          · exact .inr (.inl h)
          · exact .inl h
          · exact .inr (.inr h)
        · rintro (h | h | h)
          · exact .inl (.inr h)
          · exact .inl (.inl h)
          · exact .inr h
end Go.PF
namespace Go.PF
open Go.Pu
theorem srt_unique : ∀ {a b : List Int}, Srt a → Srt b → (∀ x, x ∈ a ↔ x ∈ b) → a = b := by
 intro a
 induction a with
 | nil =>
  intro b _ _ h
  cases b with
  | nil => rfl
  | cons y b => exact absurd ((h y).2 (by simp)) (by simp)
 | cons x a ih =>
  intro b ha hb h
  cases b with
  | nil => exact absurd ((h x).1 (by simp)) (by simp)
  | cons y b =>
   obtain ⟨a1, a2⟩ := List.pairwise_cons.1 ha
   obtain ⟨b1, b2⟩ := List.pairwise_cons.1 hb
   have hxy : x = y := by
    rcases List.mem_cons.1 ((h x).1 (by simp)) with e | e
    · exact e
    · rcases List.mem_cons.1 ((h y).2 (by simp)) with e' | e'
      · exact e'.symm
      · have := b1 x e; have := a1 y e'; omega
   subst hxy
   rw [ih a2 b2 fun z => ?_]
   constructor
   · intro hz
     rcases List.mem_cons.1 ((h z).1 (by simp [hz])) with e | e
     · subst e; have := a1 z hz; omega
     · exact e
   · intro hz
     rcases List.mem_cons.1 ((h z).2 (by simp [hz])) with e | e
     · subst e; have := b1 z hz; omega
     · exact e
def cmpL (x y : Int) : Int := if impl_abs x < impl_abs y then -1 else if impl_abs y < impl_abs x then 1 else if y < x then -1 else if x < y then 1 else 0
theorem impl_compareLiterals_cmpL (x y : Int) : impl_compareLiterals x y = some (cmpL x y) := by
 have hc : ∀ a b : Int, cmp_Compare_int a b = if a < b then -1 else if b < a then 1 else 0 := fun a b => by
  unfold cmp_Compare_int cmp_isNaN_int
  simp only [BEq.rfl, Bool.not_true, cond_false]
  by_cases h1 : a < b
  · simp [h1]
  · by_cases h2 : b < a <;> simp [h1, h2]
 unfold impl_compareLiterals cmp_Or_int cmpL
 rw [hc, hc]
 by_cases h1 : impl_abs x < impl_abs y
 · simp [h1, forL, forLFrom]
 · by_cases h2 : impl_abs y < impl_abs x
   · simp [h1, h2, forL, forLFrom]
   · by_cases h3 : y < x
     · simp [h1, h2, h3, forL, forLFrom]
     · by_cases h4 : x < y <;> simp [h1, h2, h3, h4, forL, forLFrom]
theorem cmpL_neg {x y : Int} : cmpL x y < 0 ↔ impl_abs x < impl_abs y ∨ (impl_abs x = impl_abs y ∧ y < x) := by
 unfold cmpL
 split
 · omega
 · split
   · omega
   · split
     · omega
     · split <;> omega
def joined (a b : List Int) : List Int × Bool := match joinL a b with | some s => (s, true) | none => ([], false)
def res (a b : List Int) (v : Int) : List Int × Bool := bif !a.contains v || !b.contains (wr (-v)) then ([], false) else joined (without a v) (without b v)
theorem without_len (c : List Int) (v : Int) : (without c v).length ≤ c.length := List.length_filter_le _ _
theorem spec_l2Resolve_eq {a b : List Int} {v : Int} (hl : a.length + b.length ≤ lim) : spec_l2Resolve a b v = some (res a b v) := by
 have h1 := without_len a v; have h2 := without_len b v
 unfold spec_l2Resolve res
 rw [spec_l2Has_eq, bd_some]
 cases a.contains v with
 | false => rfl
 | true =>
  simp only [Bool.not_true, cond_false, Bool.false_or]
  rw [spec_l2Has_eq, bd_some, bd_some]
  cases b.contains (wr (-v)) with
  | false => rfl
  | true =>
   simp only [Bool.not_true, cond_false]
   rw [spec_l2Without_eq (by omega), bd_some, spec_l2Without_eq (by omega), bd_some, spec_l2Join_eq (by omega), bd_some]
   unfold joined
   cases joinL (without a v) (without b v) <;> rfl
theorem IsC.sm {V : Int} {c : List Int} (h : IsC V c) : Sm c := fun l hl => by have := h.lit l hl; have := h.hi; omega
end Go.PF
namespace Go.PF
open Go.Pu
theorem mem_without {V : Int} {c : List Int} (hc : IsC V c) {v x : Int} (h1 : 1 ≤ v) : x ∈ without c v ↔ x ∈ c ∧ x.natAbs ≠ v.natAbs := by
 unfold without
 rw [List.mem_filter]
 refine and_congr_right fun hx => ?_
 have := hc.lit x hx; have := hc.hi
 rw [vr_abs (by omega) (by omega)]
 simp only [Bool.not_eq_true', beq_eq_false_iff_ne, ne_eq]
 omega
theorem srt_one {V : Int} {c : List Int} (hc : IsC V c) {x y : Int} (hx : x ∈ c) (hy : y ∈ c) (h : x.natAbs = y.natAbs := by omega) : x = y := by
 have hp := hc.srt
 obtain ⟨i, hi⟩ := List.getElem?_of_mem hx
 obtain ⟨j, hj⟩ := List.getElem?_of_mem hy
 have hij : i = j := by
  rcases Nat.lt_trichotomy i j with g | g | g
  · have := List.pairwise_iff_getElem.1 hp i j (List.getElem?_eq_some_iff.1 hi).1 (List.getElem?_eq_some_iff.1 hj).1 g
    rw [(List.getElem?_eq_some_iff.1 hi).2, (List.getElem?_eq_some_iff.1 hj).2] at this
    omega
  · exact g
  · have := List.pairwise_iff_getElem.1 hp j i (List.getElem?_eq_some_iff.1 hj).1 (List.getElem?_eq_some_iff.1 hi).1 g
    rw [(List.getElem?_eq_some_iff.1 hi).2, (List.getElem?_eq_some_iff.1 hj).2] at this
    omega
 subst hij
 rw [hi] at hj
 exact Option.some.inj hj
theorem res_iff {V : Int} {a b : List Int} (ha : IsC V a) (hb : IsC V b) {v : Int} (h1 : 1 ≤ v) (h2 : v ≤ V) :
 ((res a b v).2 = true ↔ v ∈ a ∧ -v ∈ b ∧ ∀ x ∈ a, -x ∈ b → x = v) ∧
 ((res a b v).2 = true → ∀ x, x ∈ (res a b v).1 ↔ (x ∈ a ∨ x ∈ b) ∧ x.natAbs ≠ v.natAbs) := by
 have hV := ha.hi
 have hw : wr (-v) = -v := wr_of _ (by omega) (by omega)
 unfold res
 rw [hw]
 by_cases m1 : v ∈ a
 · by_cases m2 : -v ∈ b
   · rw [List.contains_iff_mem.2 m1, List.contains_iff_mem.2 m2]
     simp only [Bool.not_true, Bool.or_self, cond_false]
     have hs := joinL_spec (b := without b v) (s := without a v) (ha.srt.filter _) (fun x hx => ha.sm x (List.mem_filter.1 hx).1) (hb.srt.filter _) (fun x hx => hb.sm x (List.mem_filter.1 hx).1)
     unfold joined
     by_cases hx : ∃ y ∈ without b v, -y ∈ without a v
     · rw [if_pos hx] at hs
       rw [hs]
       refine ⟨⟨fun h => (by cases h), fun h => ?_⟩, fun h => (by cases h)⟩
       exfalso
       obtain ⟨y, hy, hy2⟩ := hx
       rw [mem_without hb h1] at hy
       rw [mem_without ha h1] at hy2
       have := h.2.2 (-y) hy2.1 (by rw [Int.neg_neg]; exact hy.1)
       omega
     · rw [if_neg hx] at hs
       obtain ⟨t, e, hst, hm⟩ := hs
       rw [e]
       refine ⟨⟨fun _ => ⟨m1, m2, fun x hxa hxb => ?_⟩, fun _ => rfl⟩, fun _ x => ?_⟩
       · by_cases hne : x.natAbs = v.natAbs
         · rcases Int.natAbs_eq_natAbs_iff.1 hne with h | h
           · exact h
           · exfalso
             subst h
             have := srt_one ha m1 hxa
             omega
         · exact absurd ⟨-x, (mem_without hb h1).2 ⟨hxb, by omega⟩, by rw [Int.neg_neg]; exact (mem_without ha h1).2 ⟨hxa, hne⟩⟩ hx
       · rw [hm, mem_without ha h1, mem_without hb h1, ← or_and_right]
   · have : b.contains (-v) = false := by rw [Bool.eq_false_iff]; exact fun h => m2 (List.contains_iff_mem.1 h)
     rw [this]
     simp only [Bool.not_false, Bool.or_true, cond_true]
     exact ⟨⟨fun h => (by cases h), fun h => absurd h.2.1 m2⟩, fun h => (by cases h)⟩
 · have : a.contains v = false := by rw [Bool.eq_false_iff]; exact fun h => m1 (List.contains_iff_mem.1 h)
   rw [this]
   simp only [Bool.not_false, Bool.true_or, cond_true]
   exact ⟨⟨fun h => (by cases h), fun h => absurd h.1 m1⟩, fun h => (by cases h)⟩
end Go.PF
namespace Go.PF
open Go.Pu
theorem wrk16 (n : Nat) (h : n < 65536) : wrk false 16 (n : Int) = (n : Int) := by
 unfold wrk
 have : ((n : Int) % (2 ^ 16 : Int)) = (n : Int) := Int.emod_eq_of_lt (by omega) (by omega)
 rw [this]
 simp
theorem ofInt16 {n : Nat} : BitVec.ofInt 16 (n : Int) = BitVec.ofNat 16 n := by
 apply BitVec.eq_of_toNat_eq
 simp
theorem and16 {a b : Nat} (ha : a < 65536) (hb : b < 65536) : andK false 16 (a : Int) (b : Int) = ((a &&& b : Nat) : Int) := by
 unfold andK
 rw [ofInt16, ofInt16, BitVec.toNat_and, BitVec.toNat_ofNat, BitVec.toNat_ofNat, Nat.mod_eq_of_lt (by omega), Nat.mod_eq_of_lt (by omega)]
 exact wrk16 _ (Nat.lt_of_le_of_lt Nat.and_le_left ha)
theorem or16 {a b : Nat} (ha : a < 65536) (hb : b < 65536) : orK false 16 (a : Int) (b : Int) = ((a ||| b : Nat) : Int) := by
 unfold orK
 rw [ofInt16, ofInt16, BitVec.toNat_or, BitVec.toNat_ofNat, BitVec.toNat_ofNat, Nat.mod_eq_of_lt (by omega), Nat.mod_eq_of_lt (by omega)]
 exact wrk16 _ (Nat.or_lt_two_pow (n := 16) ha hb)
def minusN (a b : Nat) : Nat := a ^^^ (a &&& b)
theorem minus_bit (a b j : Nat) : (minusN a b).testBit j = (a.testBit j && !b.testBit j) := by
 unfold minusN
 rw [Nat.testBit_xor, Nat.testBit_and]
 cases a.testBit j <;> cases b.testBit j <;> rfl
theorem an16 {a b : Nat} (ha : a < 65536) (hb : b < 65536) : anK false 16 (a : Int) (b : Int) = ((minusN a b : Nat) : Int) := by
 unfold anK
 have e : (BitVec.ofInt 16 (a : Int) &&& ~~~BitVec.ofInt 16 (b : Int)).toNat = minusN a b := by
  rw [ofInt16, ofInt16]
  apply Nat.eq_of_testBit_eq
  intro j
  rw [minus_bit, BitVec.testBit_toNat, BitVec.getLsbD_and, BitVec.getLsbD_not, BitVec.getLsbD_ofNat, BitVec.getLsbD_ofNat]
  by_cases hj : j < 16
  · simp [hj]
  · have : a.testBit j = false := Nat.testBit_lt_two_pow (Nat.lt_of_lt_of_le ha (Nat.pow_le_pow_right (n := 2) (i := 16) (by omega) (by omega)))
    simp [hj, this]
 rw [e]
 exact wrk16 _ (Nat.xor_lt_two_pow (n := 16) ha (Nat.lt_of_le_of_lt Nat.and_le_left ha))
theorem shl16 {a k : Nat} (hk : k ≤ 16) (h : a <<< k < 65536) : shlK false 16 (a : Int) (k : Int) = ((a <<< k : Nat) : Int) := by
 unfold shlK
 have h1 : min ((k : Int)).toNat 16 = k := by simp; omega
 rw [h1]
 rw [← wrk16 _ h, Nat.shiftLeft_eq]
 simp
theorem shr16 {n k : Nat} (hk : k ≤ 16) : shrK 16 (n : Int) (k : Int) = ((n >>> k : Nat) : Int) := by
 unfold shrK
 have h1 : min ((k : Int)).toNat 16 = k := by simp; omega
 rw [h1, Nat.shiftRight_eq_div_pow]
 rw [Int.fdiv_eq_ediv_of_nonneg _ (Int.le_of_lt (Int.pow_pos (by omega)))]
 simp
theorem bit_hi {n j k : Nat} (h : n < 2 ^ k) (hj : k ≤ j) : n.testBit j = false := Nat.testBit_lt_two_pow (Nat.lt_of_lt_of_le h (Nat.pow_le_pow_right (by omega) hj))
def swapN (y : Nat) : Nat := ((y &&& 63) <<< 6) ||| (y >>> 6)
def bothN (x y : Nat) : Nat := ((x &&& swapN y) ||| ((x &&& swapN y) >>> 6)) &&& 63
theorem and63 (y : Nat) : y &&& 63 < 64 := Nat.lt_of_le_of_lt Nat.and_le_right (by omega)
theorem swap_lt {y : Nat} (hy : y < 4096) : swapN y < 4096 := by
 unfold swapN
 apply Nat.or_lt_two_pow (n := 12)
 · have := and63 y
   rw [Nat.shiftLeft_eq]; omega
 · exact Nat.lt_of_le_of_lt (Nat.shiftRight_le y 6) hy
theorem swapped_eq {y : Nat} (hy : y < 4096) : impl_mask_swapped (y : Int) = (swapN y : Int) := by
 unfold impl_mask_swapped swapN
 have h1 := and63 y
 have h2 : (y &&& 63) <<< 6 < 65536 := by rw [Nat.shiftLeft_eq]; omega
 have h3 : y >>> 6 ≤ y := Nat.shiftRight_le y 6
 rw [show (63 : Int) = ((63 : Nat) : Int) from rfl, show (6 : Int) = ((6 : Nat) : Int) from rfl, and16 (by omega) (by omega), shl16 (by omega) h2, shr16 (by omega), or16 h2 (by omega)]
theorem both_lt (x y : Nat) : bothN x y < 64 := and63 _
theorem bothOf_eq {x y : Nat} (hx : x < 4096) (hy : y < 4096) : impl_bothOf (x : Int) (y : Int) = (bothN x y : Int) := by
 unfold impl_bothOf bothN
 have h0 := swap_lt hy
 have h1 : x &&& swapN y < 4096 := Nat.lt_of_le_of_lt Nat.and_le_left hx
 have h2 : (x &&& swapN y) >>> 6 ≤ x &&& swapN y := Nat.shiftRight_le _ 6
 have h3 : (x &&& swapN y) ||| ((x &&& swapN y) >>> 6) < 4096 := Nat.or_lt_two_pow (n := 12) h1 (by omega)
 rw [swapped_eq hy, and16 (by omega) (by omega), show (63 : Int) = ((63 : Nat) : Int) from rfl, show (6 : Int) = ((6 : Nat) : Int) from rfl, shr16 (by omega), or16 (by omega) (by omega), and16 (by omega) (by omega)]
theorem bit63 (j : Nat) : (63 : Nat).testBit j = decide (j < 6) := Nat.testBit_two_pow_sub_one 6 j
theorem swap_bit {y : Nat} (hy : y < 4096) (j : Nat) : (swapN y).testBit j = (bif decide (j < 6) then y.testBit (j + 6) else y.testBit (j - 6) && decide (j < 12)) := by
 unfold swapN
 rw [Nat.testBit_or, Nat.testBit_shiftLeft, Nat.testBit_and, bit63, Nat.testBit_shiftRight, Nat.add_comm 6 j]
 by_cases h : j < 6
 · have : ¬ j ≥ 6 := by omega
   simp [h, this]
 · have h1 : y.testBit (j + 6) = false := bit_hi (k := 12) hy (by omega)
   have h2 : j ≥ 6 := by omega
   by_cases h3 : j < 12
   · have : j - 6 < 6 := by omega
     simp [h, h1, h2, h3, this]
   · have : ¬ j - 6 < 6 := by omega
     simp [h, h1, h2, h3, this]
theorem both_bit {x y : Nat} (hx : x < 4096) (hy : y < 4096) {k : Nat} (hk : k < 6) : (bothN x y).testBit k = (x.testBit k && y.testBit (k + 6) || x.testBit (k + 6) && y.testBit k) := by
 unfold bothN
 rw [Nat.testBit_and, bit63, Nat.testBit_or, Nat.testBit_shiftRight, Nat.testBit_and, Nat.testBit_and, swap_bit hy, swap_bit hy, Nat.add_comm 6 k]
 have h1 : ¬ k + 6 < 6 := by omega
 have h2 : k + 6 - 6 = k := by omega
 have h3 : k + 6 < 12 := by omega
 simp [hk, h1, h2, h3]
theorem one_tab : ∀ m < 64, impl_mask_one ((m : Nat) : Int) = (List.range 6).any fun k => m == 2 ^ k := by decide +kernel
theorem one_iff {m : Nat} (hm : m < 64) : impl_mask_one (m : Int) = true ↔ ∃ k, k < 6 ∧ m = 2 ^ k := by
 rw [one_tab m hm, List.any_eq_true]
 constructor
 · rintro ⟨k, h1, h2⟩; exact ⟨k, List.mem_range.1 h1, by simpa using h2⟩
 · rintro ⟨k, h1, h2⟩; exact ⟨k, List.mem_range.2 h1, by simpa using h2⟩
def bi (l : Int) : Nat := if 0 < l then (l - 1).toNat else (5 - l).toNat
def mkN (c : List Int) : Nat := c.foldl (fun s l => s ||| 2 ^ bi l) 0
theorem bi_inj {l k : Int} (h1 : -6 ≤ l) (h2 : l ≤ 6) (h3 : l ≠ 0) (h4 : -6 ≤ k) (h5 : k ≤ 6) (h6 : k ≠ 0) : bi l = bi k ↔ l = k := by
 unfold bi
 split <;> split <;> omega
theorem bi_lt {l : Int} (h1 : -6 ≤ l) (h2 : l ≤ 6) (h3 : l ≠ 0) : bi l < 12 := by
 unfold bi
 split <;> omega
theorem mkN_fold (c : List Int) : ∀ (s j : Nat), (c.foldl (fun s l => s ||| 2 ^ bi l) s).testBit j = (s.testBit j || c.any fun l => bi l == j) := by
 induction c with
 | nil => intro s j; simp
 | cons l c ih =>
  intro s j
  rw [List.foldl_cons, ih, Nat.testBit_or, Nat.testBit_two_pow, List.any_cons, Bool.or_assoc]
  congr 1
theorem mkN_bit (c : List Int) (j : Nat) : (mkN c).testBit j = c.any fun l => bi l == j := by
 unfold mkN
 rw [mkN_fold]; simp
structure IsS (V : Int) (c : List Int) : Prop where
 c : IsC V c
 le : V ≤ 6
theorem IsS.lit {V : Int} {c : List Int} (h : IsS V c) : ∀ l ∈ c, -6 ≤ l ∧ l ≤ 6 ∧ l ≠ 0 := by
 intro l hl
 have := h.c.lit l hl
 have := h.le
 omega
theorem mkN_mem {V : Int} {c : List Int} (h : IsS V c) {l : Int} (h1 : -6 ≤ l) (h2 : l ≤ 6) (h3 : l ≠ 0) : (mkN c).testBit (bi l) = true ↔ l ∈ c := by
 rw [mkN_bit, List.any_eq_true]
 constructor
 · rintro ⟨k, hk, e⟩
   obtain ⟨a, b, d⟩ := h.lit k hk
   have := (bi_inj a b d h1 h2 h3).1 (by simpa using e)
   exact this ▸ hk
 · intro hl; exact ⟨l, hl, by simp⟩
theorem mkN_lt {V : Int} {c : List Int} (h : IsS V c) : mkN c < 4096 := by
 apply Nat.lt_pow_two_of_testBit (n := 12)
 intro j hj
 rw [mkN_bit, Bool.eq_false_iff]
 intro e
 rw [List.any_eq_true] at e
 obtain ⟨l, hl, e⟩ := e
 obtain ⟨a, b, d⟩ := h.lit l hl
 have := bi_lt a b d
 have : bi l = j := by simpa using e
 omega
theorem mkN_inj {V : Int} {a b : List Int} (ha : IsS V a) (hb : IsS V b) (h : mkN a = mkN b) : a = b := by
 apply srt_unique ha.c.srt hb.c.srt
 intro x
 constructor
 · intro hx
   obtain ⟨p, q, r⟩ := ha.lit x hx
   exact (mkN_mem hb p q r).1 (h ▸ (mkN_mem ha p q r).2 hx)
 · intro hx
   obtain ⟨p, q, r⟩ := hb.lit x hx
   exact (mkN_mem ha p q r).1 (h ▸ (mkN_mem hb p q r).2 hx)
theorem maskOf_eq {V : Int} {c : List Int} (h : IsS V c) : impl_maskOf c = some (mkN c : Int) := by
 have main : ∃ r, impl_maskOf c = some r ∧ r = (mkN c : Int) := by
  unfold impl_maskOf
  refine list_m (I := fun i s => s = ((mkN (c.take i) : Nat) : Int)) rfl ?_ (fun s hs => ⟨s, rfl, by rw [List.take_length] at hs; exact hs⟩)
  intro i y s hy hs
  obtain ⟨a, b, d⟩ := h.lit y (List.mem_of_getElem? hy)
  have hlt : mkN (c.take i) < 65536 := by
   have : mkN (c.take i) < 4096 := by
    apply Nat.lt_pow_two_of_testBit (n := 12)
    intro j hj
    rw [mkN_bit, Bool.eq_false_iff]
    intro e
    rw [List.any_eq_true] at e
    obtain ⟨l, hl, e⟩ := e
    obtain ⟨a, b, d⟩ := h.lit l (List.mem_of_mem_take hl)
    have := bi_lt a b d
    have : bi l = j := by simpa using e
    omega
   omega
  have hb := bi_lt a b d
  have hsh : 1 <<< bi y < 65536 := by
   rw [Nat.one_shiftLeft]
   exact Nat.lt_of_le_of_lt (Nat.pow_le_pow_right (n := 2) (by omega) (show bi y ≤ 11 by omega)) (by omega)
  have hm : mkN (c.take (i + 1)) = mkN (c.take i) ||| 1 <<< bi y := by
   rw [List.take_add_one, hy, Nat.one_shiftLeft]
   unfold mkN
   rw [List.foldl_append]; rfl
  refine .inl ⟨_, ?_, rfl⟩
  rw [hm, hs]
  by_cases hp : 0 < y
  · rw [decide_eq_true hp, cond_true, wr_s (by omega) (by omega)]
    have e : y - 1 = ((bi y : Nat) : Int) := by unfold bi; rw [if_pos hp]; omega
    rw [e]
    have : nn ((bi y : Nat) : Int) = some () := by unfold nn; rw [if_neg (by omega)]
    rw [this, bd_some, show (1 : Int) = ((1 : Nat) : Int) from rfl, shl16 (by omega) hsh, or16 hlt hsh]
  · rw [decide_eq_false hp, cond_false, wr_s (n := 6 - y) (by omega) (by omega), wr_s (by omega) (by omega)]
    have e : 6 - y - 1 = ((bi y : Nat) : Int) := by unfold bi; rw [if_neg hp]; omega
    rw [e]
    have : nn ((bi y : Nat) : Int) = some () := by unfold nn; rw [if_neg (by omega)]
    rw [this, bd_some, show (1 : Int) = ((1 : Nat) : Int) from rfl, shl16 (by omega) hsh, or16 hlt hsh]
 obtain ⟨r, e, hr⟩ := main
 rw [e, hr]
def litsM (m : Nat) : List Int := [1, -1, 2, -2, 3, -3, 4, -4, 5, -5, 6, -6].filter fun l => m.testBit (bi l)
theorem litsM_mk {V : Int} {c : List Int} (h : IsS V c) : litsM (mkN c) = c := by
 have hm : ∀ x, x ∈ litsM (mkN c) ↔ x ∈ c := by
  intro x
  unfold litsM
  rw [List.mem_filter]
  constructor
  · rintro ⟨h1, h2⟩
    have : -6 ≤ x ∧ x ≤ 6 ∧ x ≠ 0 := by
     simp only [List.mem_cons, List.not_mem_nil, or_false] at h1
     omega
    exact (mkN_mem h this.1 this.2.1 this.2.2).1 h2
  · intro hx
    obtain ⟨a, b, d⟩ := h.lit x hx
    refine ⟨?_, (mkN_mem h a b d).2 hx⟩
    simp only [List.mem_cons, List.not_mem_nil, or_false]
    omega
 refine srt_unique ?_ h.c.srt hm
 have hd : (litsM (mkN c)).Pairwise fun a b => a.natAbs < b.natAbs ∨ a = -b := by
  unfold litsM
  apply List.Pairwise.filter
  decide
 have hs : (litsM (mkN c)).Pairwise fun a b => a ∈ c ∧ b ∈ c := by
  apply List.pairwise_of_forall_mem_list
  intro a ha b hb
  exact ⟨(hm a).1 ha, (hm b).1 hb⟩
 refine (hd.and hs).imp ?_
 rintro a b ⟨h1 | h1, h2, h3⟩
 · exact h1
 · exfalso
   have := srt_one h.c h2 h3 (by omega)
   have := (h.lit b h3).2.2
   omega
theorem bit16 {m k : Nat} (hm : m < 65536) (hk : k ≤ 16) : (andK false 16 (shrK 16 (m : Int) (k : Int)) 1 == 1) = m.testBit k := by
 rw [shr16 hk, show (1 : Int) = ((1 : Nat) : Int) from rfl, and16 (Nat.lt_of_le_of_lt (Nat.shiftRight_le m k) hm) (by omega)]
 unfold Nat.testBit
 rw [Nat.and_comm]
 have hb : 1 &&& m >>> k = 0 ∨ 1 &&& m >>> k = 1 := by
  have : 1 &&& m >>> k ≤ 1 := Nat.and_le_left
  omega
 rcases hb with h | h <;> rw [h] <;> rfl
end Go.PF
namespace Go.PF
open Go.Pu
def lexC : List Int → List Int → Int
 | [], [] => 0
 | [], _ :: _ => -1
 | _ :: _, [] => 1
 | x :: a, y :: b => bif !(cmpL x y == 0) then cmpL x y else lexC a b
theorem compare_loop {f : Nat → Int → Unit → Option (Lp Unit Int)} {b : List Int} {n : Int}
 (hf : ∀ i y s, f i y s = bif decide (len b ≤ ((i : Nat) : Int)) then some (Lp.rt 1) else bd (ix b ((i : Nat) : Int)) fun x => bd (impl_compareLiterals y x) fun r => bif !(r == 0) then some (Lp.rt r) else some (Lp.nx ())) :
 ∀ {a : List Int} {i : Nat}, i ≤ b.length → n = (i : Int) + a.length → bdR (forLFrom f a i ()) (fun _ => bif decide (n < len b) then some (-1) else some 0) (fun x => some x) = some (lexC a (b.drop i)) := by
 intro a
 induction a with
 | nil =>
  intro i hi hn
  simp only [List.length_nil] at hn
  simp only [forLFrom, bdR_go]
  by_cases h : i < b.length
  · rw [List.drop_eq_getElem_cons h, show decide (n < len b) = true by rw [decide_eq_true_eq, len_eq]; omega]; rfl
  · rw [List.drop_eq_nil_of_le (by omega), show decide (n < len b) = false by rw [decide_eq_false_iff_not, len_eq]; omega]; rfl
 | cons x a ih =>
  intro i hi hn
  simp only [List.length_cons] at hn
  by_cases h : i < b.length
  · have e : f i x () = bif !(cmpL x b[i] == 0) then some (Lp.rt (cmpL x b[i])) else some (Lp.nx ()) := by
     rw [hf, show decide (len b ≤ ((i : Nat) : Int)) = false by rw [decide_eq_false_iff_not, len_eq]; omega, cond_false, ix_get, List.getElem?_eq_getElem h, bd_some, impl_compareLiterals_cmpL, bd_some]
    rw [List.drop_eq_getElem_cons h]
    simp only [forLFrom, e, lexC]
    cases hc : cmpL x b[i] == 0 with
    | true =>
     simp only [Bool.not_true, cond_false]
     exact ih (by omega) (by omega)
    | false => simp only [Bool.not_false, cond_true]; rfl
  · have e : f i x () = some (Lp.rt 1) := by
     rw [hf, show decide (len b ≤ ((i : Nat) : Int)) = true by rw [decide_eq_true_eq, len_eq]; omega]; rfl
    rw [List.drop_eq_nil_of_le (by omega)]
    simp only [forLFrom, e]
    rfl
def cmpC (a b : List Int) : Int := if a.length < b.length then -1 else if b.length < a.length then 1 else lexC a b
theorem slices_CompareFunc_eq (a b : List Int) : slices_CompareFunc_int_int_int_int a b (fun x0 x1 => PF.impl_compareLiterals x0 x1) = some (lexC a b) := by
 unfold slices_CompareFunc_int_int_int_int forL
 have h := compare_loop (b := b) (n := (a.length : Int)) (fun _ _ _ => rfl) (a := a) (i := 0) (Nat.zero_le _) (by omega)
 rw [List.drop_zero] at h
 rw [← h, len_eq a]
theorem impl_compareClauses_eq (a b : List Int) : impl_compareClauses a b = some (cmpC a b) := by
 have hc : ∀ a b : Int, cmp_Compare_int a b = if a < b then -1 else if b < a then 1 else 0 := fun a b => by
  unfold cmp_Compare_int cmp_isNaN_int
  simp only [BEq.rfl, Bool.not_true, cond_false]
  by_cases h1 : a < b
  · simp [h1]
  · by_cases h2 : b < a <;> simp [h1, h2]
 unfold impl_compareClauses
 rw [slices_CompareFunc_eq, bd_some]
 unfold cmp_Or_int cmpC
 rw [hc, len_eq, len_eq]
 by_cases h1 : a.length < b.length
 · simp [h1, forL, forLFrom]
 · by_cases h2 : b.length < a.length
   · simp [h1, h2, forL, forLFrom]
   · by_cases h3 : lexC a b = 0
     · simp [h1, h2, h3, forL, forLFrom]
     · have h4 : (lexC a b == 0) = false := by rw [beq_eq_false_iff_ne]; exact h3
       simp [h1, h2, h4, forL, forLFrom]
theorem cmpL_zero {x y : Int} : cmpL x y = 0 ↔ x = y := by
 unfold cmpL
 constructor
 · intro h
   split at h
   · omega
   · split at h
     · omega
     · split at h
       · omega
       · split at h <;> omega
 · rintro rfl; simp
theorem lexC_cons {x y : Int} {a b : List Int} : lexC (x :: a) (y :: b) < 0 ↔ cmpL x y < 0 ∨ (x = y ∧ lexC a b < 0) := by
 simp only [lexC]
 by_cases h : x = y
 · have h0 : cmpL x y = 0 := cmpL_zero.2 h
   rw [show (cmpL x y == 0) = true by rw [beq_iff_eq]; exact h0, Bool.not_true, cond_false, h0]
   exact ⟨fun h1 => .inr ⟨h, h1⟩, fun h1 => h1.elim (fun h2 => absurd h2 (by decide)) fun h2 => h2.2⟩
 · rw [show (cmpL x y == 0) = false by rw [beq_eq_false_iff_ne]; exact fun h1 => h (cmpL_zero.1 h1), Bool.not_false, cond_true]
   exact ⟨.inl, fun h1 => h1.elim id fun h2 => absurd h2.1 h⟩
theorem lexC_irrefl : ∀ a : List Int, ¬ lexC a a < 0
 | [] => by simp [lexC]
 | x :: a => by
  rw [lexC_cons, cmpL_zero.2 rfl]
  rintro (h | h)
  · exact absurd h (by decide)
  · exact lexC_irrefl a h.2
theorem cmpL_trans {x y z : Int} (h1 : cmpL x y < 0) (h2 : cmpL y z < 0) : cmpL x z < 0 := by
 rw [cmpL_neg] at *; omega
theorem lexC_trans : ∀ {a b c : List Int}, lexC a b < 0 → lexC b c < 0 → lexC a c < 0
 | [], [], _, h, _ => absurd h (by simp [lexC])
 | [], _ :: _, [], _, h => absurd h (by simp [lexC])
 | [], _ :: _, _ :: _, _, _ => by simp [lexC]
 | _ :: _, [], _, h, _ => absurd h (by simp [lexC])
 | _ :: _, _ :: _, [], _, h => absurd h (by simp [lexC])
 | x :: a, y :: b, z :: c, h1, h2 => by
  rw [lexC_cons] at *
  rcases h1 with h1 | ⟨rfl, h1⟩
  · rcases h2 with h2 | ⟨rfl, h2⟩
    · exact .inl (cmpL_trans h1 h2)
    · exact .inl h1
  · rcases h2 with h2 | ⟨rfl, h2⟩
    · exact .inl h2
    · exact .inr ⟨rfl, lexC_trans h1 h2⟩
theorem lexC_total : ∀ {a b : List Int}, ¬ lexC a b < 0 → ¬ lexC b a < 0 → a = b
 | [], [], _, _ => rfl
 | [], _ :: _, h, _ => absurd (by simp [lexC]) h
 | _ :: _, [], _, h => absurd (by simp [lexC]) h
 | x :: a, y :: b, h1, h2 => by
  rw [lexC_cons] at *
  have e : x = y := by
   by_cases hx : cmpL x y < 0
   · exact absurd (.inl hx) h1
   · by_cases hy : cmpL y x < 0
     · exact absurd (.inl hy) h2
     · rw [cmpL_neg] at hx hy; omega
  subst e
  rw [lexC_total (fun h => h1 (.inr ⟨rfl, h⟩)) (fun h => h2 (.inr ⟨rfl, h⟩))]
theorem cmpC_neg {a b : List Int} : cmpC a b < 0 ↔ a.length < b.length ∨ (a.length = b.length ∧ lexC a b < 0) := by
 unfold cmpC
 by_cases h1 : a.length < b.length
 · rw [if_pos h1]; exact ⟨fun _ => .inl h1, fun _ => by decide⟩
 · rw [if_neg h1]
   by_cases h2 : b.length < a.length
   · rw [if_pos h2]; exact ⟨fun h => absurd h (by decide), fun h => by omega⟩
   · rw [if_neg h2]; exact ⟨fun h => .inr ⟨by omega, h⟩, fun h => h.elim (fun h => absurd h h1) fun h => h.2⟩
theorem cmpC_irrefl (a : List Int) : ¬ cmpC a a < 0 := by
 rw [cmpC_neg]
 rintro (h | h)
 · omega
 · exact lexC_irrefl a h.2
theorem cmpC_trans {a b c : List Int} (h1 : cmpC a b < 0) (h2 : cmpC b c < 0) : cmpC a c < 0 := by
 rw [cmpC_neg] at *
 rcases h1 with h1 | ⟨e1, h1⟩
 · exact .inl (by omega)
 · rcases h2 with h2 | ⟨e2, h2⟩
   · exact .inl (by omega)
   · exact .inr ⟨by omega, lexC_trans h1 h2⟩
theorem cmpC_total {a b : List Int} (h1 : ¬ cmpC a b < 0) (h2 : ¬ cmpC b a < 0) : a = b := by
 rw [cmpC_neg] at *
 have e : a.length = b.length := by omega
 exact lexC_total (fun h => h1 (.inr ⟨e, h⟩)) (fun h => h2 (.inr ⟨e.symm, h⟩))
theorem cmpC_ntrans {a b c : List Int} (h1 : ¬ cmpC a b < 0) (h2 : ¬ cmpC b c < 0) : ¬ cmpC a c < 0 := by
 intro h
 by_cases h3 : cmpC b a < 0
 · exact h2 (cmpC_trans h3 h)
 · have e := cmpC_total h1 h3
   subst e
   exact h2 h
theorem leF_config {x y : List Int} : leF (fun x0 x1 => PF.impl_compareClauses x0 x1) x y = true ↔ ¬ cmpC y x < 0 := by
 unfold leF
 simp only [impl_compareClauses_eq]
 rw [Bool.not_eq_true', decide_eq_false_iff_not]
theorem sorted_config (xs : List (List Int)) : (xs.mergeSort (leF fun x0 x1 => PF.impl_compareClauses x0 x1)).Pairwise fun x y => ¬ cmpC y x < 0 := by
 have := List.pairwise_mergeSort (le := leF fun x0 x1 => PF.impl_compareClauses x0 x1) (fun a b c h1 h2 => by
  rw [leF_config] at *; exact cmpC_ntrans h2 h1) (fun a b => by
  rw [Bool.or_eq_true, leF_config, leF_config]
  by_cases h : cmpC b a < 0
  · exact .inr fun h2 => cmpC_irrefl _ (cmpC_trans h h2)
  · exact .inl h) xs
 exact this.imp fun h => leF_config.1 h
def sm (c : List Int) : Prop := ∀ x ∈ c, -12 ≤ x ∧ x ≤ 12 ∧ x ≠ 0
theorem key_lt {x y : Int} (hx : -12 ≤ x ∧ x ≤ 12 ∧ x ≠ 0) (hy : -12 ≤ y ∧ y ≤ 12 ∧ y ≠ 0) : spec_l2Key x < spec_l2Key y ↔ cmpL x y < 0 := by
 have hk : ∀ z : Int, -12 ≤ z ∧ z ≤ 12 ∧ z ≠ 0 → spec_l2Key z = if z < 0 then -2 * z + 1 else 2 * z := fun z hz => by
  unfold spec_l2Key
  by_cases h : z < 0
  · have e : wr (-2 * z) = -2 * z := wr_of _ (by omega) (by omega)
    rw [show decide (z < 0) = true from decide_eq_true h, cond_true, if_pos h, e]
    exact wr_of _ (by omega) (by omega)
  · rw [show decide (z < 0) = false from decide_eq_false h, cond_false, if_neg h]
    exact wr_of _ (by omega) (by omega)
 have ha : ∀ z : Int, -12 ≤ z ∧ z ≤ 12 ∧ z ≠ 0 → impl_abs z = z.natAbs := fun z hz => by
  rw [impl_abs_eq (by unfold okI; omega), vr_abs (by omega) (by omega)]
 rw [cmpL_neg, hk x hx, hk y hy, ha x hx, ha y hy]
 split <;> split <;> omega
theorem before_loop {f : Nat → Int → Unit → Option (Lp Unit Bool)} {b : List Int} (hb : sm b)
 (hf : ∀ i y s, f i y s = bd (ix b ((i : Nat) : Int)) fun x => bif !(y == x) then bd (ix b ((i : Nat) : Int)) fun x2 => some (Lp.rt (decide (spec_l2Key y < spec_l2Key x2))) else some (Lp.nx ())) :
 ∀ {a : List Int} {i : Nat}, sm a → a.length + i = b.length → bdR (forLFrom f a i ()) (fun _ => some false) (fun x => some x) = some (decide (lexC a (b.drop i) < 0)) := by
 intro a
 induction a with
 | nil =>
  intro i _ hi
  simp only [List.length_nil] at hi
  rw [List.drop_eq_nil_of_le (by omega)]; rfl
 | cons x a ih =>
  intro i hs hi
  simp only [List.length_cons] at hi
  have h : i < b.length := by omega
  rw [List.drop_eq_getElem_cons h]
  have e : f i x () = bif !(x == b[i]) then some (Lp.rt (decide (spec_l2Key x < spec_l2Key b[i]))) else some (Lp.nx ()) := by
   rw [hf, ix_get, List.getElem?_eq_getElem h, bd_some, bd_some]
  by_cases hx : x = b[i]
  · have e2 : f i x () = some (Lp.nx ()) := by rw [e, show (x == b[i]) = true by rw [beq_iff_eq]; exact hx]; rfl
    simp only [forLFrom, e2]
    rw [ih (fun z hz => hs z (by simp [hz])) (by omega)]
    congr 1
    rw [decide_eq_decide, lexC_cons]
    exact ⟨fun h1 => .inr ⟨hx, h1⟩, fun h1 => h1.elim (fun h2 => by rw [cmpL_zero.2 hx] at h2; exact absurd h2 (by decide)) fun h2 => h2.2⟩
  · have e2 : f i x () = some (Lp.rt (decide (spec_l2Key x < spec_l2Key b[i]))) := by rw [e, show (x == b[i]) = false by rw [beq_eq_false_iff_ne]; exact hx]; rfl
    simp only [forLFrom, e2]
    show some (decide _) = some (decide _)
    congr 1
    rw [decide_eq_decide, lexC_cons, key_lt (hs x (by simp)) (hb _ (List.getElem_mem h))]
    exact ⟨.inl, fun h1 => h1.elim id fun h2 => absurd h2.1 hx⟩
theorem spec_l2Before_eq {a b : List Int} (ha : sm a) (hb : sm b) : spec_l2Before a b = some (decide (cmpC a b < 0)) := by
 unfold spec_l2Before
 by_cases h : a.length = b.length
 · rw [show (len a == len b) = true by rw [beq_iff_eq, len_eq, len_eq]; omega, Bool.not_true, cond_false]
   unfold forL
   rw [before_loop hb (fun _ _ _ => rfl) ha (by omega), List.drop_zero]
   congr 1
   rw [decide_eq_decide, cmpC_neg]
   exact ⟨fun h1 => .inr ⟨h, h1⟩, fun h1 => h1.elim (fun h2 => by omega) fun h2 => h2.2⟩
 · rw [show (len a == len b) = false by rw [beq_eq_false_iff_ne, len_eq, len_eq]; omega, Bool.not_false, cond_true]
   congr 1
   rw [decide_eq_decide, cmpC_neg, len_eq, len_eq]
   exact ⟨fun h1 => .inl (by omega), fun h1 => h1.elim (fun h2 => by omega) fun h2 => absurd h2.1 h⟩
abbrev SrtC (xs : List (List Int)) : Prop := xs.Pairwise fun a b => cmpC a b < 0
theorem srt_ext : ∀ {xs ys : List (List Int)}, SrtC xs → SrtC ys → (∀ x, x ∈ xs ↔ x ∈ ys) → xs = ys
 | [], [], _, _, _ => rfl
 | [], y :: _, _, _, h => absurd ((h y).2 (by simp)) (by simp)
 | x :: _, [], _, _, h => absurd ((h x).1 (by simp)) (by simp)
 | x :: xs, y :: ys, h1, h2, h => by
  obtain ⟨a1, a2⟩ := List.pairwise_cons.1 h1
  obtain ⟨b1, b2⟩ := List.pairwise_cons.1 h2
  have e : x = y := by
   rcases List.mem_cons.1 ((h x).1 (by simp)) with e | m1
   · exact e
   · rcases List.mem_cons.1 ((h y).2 (by simp)) with e | m2
     · exact e.symm
     · exact absurd (cmpC_trans (a1 y m2) (b1 x m1)) (cmpC_irrefl x)
  subst e
  rw [srt_ext a2 b2 fun z => ?_]
  constructor
  · intro hz
    rcases List.mem_cons.1 ((h z).1 (by simp [hz])) with e | m
    · subst e; exact absurd (a1 z hz) (cmpC_irrefl z)
    · exact m
  · intro hz
    rcases List.mem_cons.1 ((h z).2 (by simp [hz])) with e | m
    · subst e; exact absurd (b1 z hz) (cmpC_irrefl z)
    · exact m
end Go.PF
