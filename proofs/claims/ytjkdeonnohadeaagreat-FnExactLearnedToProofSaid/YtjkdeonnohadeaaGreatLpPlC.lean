/- The steps that a learned list gives: the reference's side. The steps that a learned list gives: the reference's loops. LearnedToProof: what the reference says. LearnedToProof: the program's loops. LearnedToProof: the law. -/
import Derived.Test.YtjkdeonnohadeaaGreatLpPlB
import Derived.Test.YtjkdeonnohadeaaGreatLpPlA
set_option linter.unusedVariables false
namespace Go.PF
open Go.Pu
theorem lk_len {F : Cnf} {ls : List (List Int)} {i : Nat} (hi : i ≤ ls.length) : (lk F ls i).length = F.clauses.length + i := by
  unfold lk; rw [List.length_append, List.length_take]; omega
def ai (A : List Int) (i : Int) : Int := (ix A i).getD (-1)
def clA (S : List ResStep) (i : Int) : List Int := match ix S i with | some x => x.clause | none => []
def axM (F : Cnf) (i : Int) (s : List ResStep × List Int) : List ResStep × List Int :=
  bif decide (0 ≤ ai s.2 i) then s else (s.1 ++ [⟨kAt F.clauses i, -1, i, 0⟩], s.2.set i.toNat (len s.1))
def useM (F : Cnf) (s : (List ResStep × List Int) × Int) (u : l11Use) : (List ResStep × List Int) × Int :=
  (((axM F u.reason s.1).1 ++ [bif !(clA (axM F u.reason s.1).1 s.2).contains u.v then ⟨u.clause, ai (axM F u.reason s.1).2 u.reason, s.2, u.v⟩ else ⟨u.clause, s.2, ai (axM F u.reason s.1).2 u.reason, u.v⟩], (axM F u.reason s.1).2), len (axM F u.reason s.1).1)
def begM (F : Cnf) (ls : List (List Int)) (k : Nat) (s : List ResStep × List Int) : (List ResStep × List Int) × Int := (axM F (cfl F ls k) s, ai (axM F (cfl F ls k) s).2 (cfl F ls k))
def endM (F : Cnf) (y : List Int) (k : Nat) (r : (List ResStep × List Int) × Int) : List ResStep × List Int :=
  bif !(clA r.1.1 r.2 == y) then (r.1.1 ++ [⟨y, r.2, -1, 0⟩], r.1.2.set (F.clauses.length + k) (len r.1.1)) else (r.1.1, r.1.2.set (F.clauses.length + k) r.2)
def learnM (F : Cnf) (ls : List (List Int)) (y : List Int) (k : Nat) (s : List ResStep × List Int) : List ResStep × List Int :=
  endM F y k ((anF F ls k).1.foldl (useM F) (begM F ls k s))
structure LI (F : Cnf) (ls : List (List Int)) (k n : Nat) (s : List ResStep × List Int) : Prop where
  al : s.2.length = F.clauses.length + ls.length
  a : ∀ (i : Nat) x, s.2[i]? = some x → x = -1 ∨ (0 ≤ x ∧ x < s.1.length)
  d : ∀ i : Nat, F.clauses.length ≤ i → i < F.clauses.length + k → ∃ x, s.2[i]? = some x ∧ 0 ≤ x
  w : ∀ x ∈ s.1, IsC F.vars x.clause
  nums : ∀ (i : Nat) x, s.1[i]? = some x → (x.left = -1 ∧ True) ∨ (0 ≤ x.left ∧ x.left < i ∧ x.right = -1 ∧ True) ∨ (0 ≤ x.left ∧ x.left < i ∧ 0 ≤ x.right ∧ x.right < i ∧ True)
  l : s.1.length ≤ n
theorem ai_at {A : List Int} {i : Int} (h0 : 0 ≤ i) (h1 : i < A.length) : ix A i = some (ai A i) ∧ A[i.toNat]? = some (ai A i) := by
  obtain ⟨x, hx, hx2⟩ := ix_of (xs := A) h0 h1
  unfold ai; rw [hx]; exact ⟨rfl, hx2⟩
theorem ai_set {A : List Int} {i : Int} {x : Int} (h0 : 0 ≤ i) (h1 : i < A.length) : ai (A.set i.toNat x) i = x := by
  unfold ai ix
  rw [if_pos h0, List.getElem?_set_self (by omega)]; rfl
theorem clA_of {S : List ResStep} {i : Int} (h0 : 0 ≤ i) (h1 : i < S.length) : ∃ x, ix S i = some x ∧ clA S i = x.clause ∧ x ∈ S := by
  obtain ⟨x, hx, hx2⟩ := ix_of (xs := S) h0 h1
  exact ⟨x, hx, by unfold clA; rw [hx], List.mem_of_getElem? hx2⟩
theorem clA_app {S T : List ResStep} {i : Int} (h0 : 0 ≤ i) (h1 : i < S.length) : clA (S ++ T) i = clA S i := by
  unfold clA ix
  rw [if_pos h0, if_pos h0, List.getElem?_append_left (by omega)]
theorem clA_last {S : List ResStep} {x : ResStep} : clA (S ++ [x]) (len S) = x.clause := by
  unfold clA ix
  rw [if_pos (by rw [len_eq]; omega), len_eq, Int.toNat_natCast, List.getElem?_append_right (Nat.le_refl _), Nat.sub_self]; rfl
theorem LI.le {F : Cnf} {ls : List (List Int)} {k n m : Nat} {s : List ResStep × List Int} (h : LI F ls k n s) (hm : n ≤ m) : LI F ls k m s := ⟨h.al, h.a, h.d, h.w, h.nums, Nat.le_trans h.l hm⟩
theorem LI.push {F : Cnf} {ls : List (List Int)} {k n : Nat} {s : List ResStep × List Int} (h : LI F ls k n s) {x : ResStep} (hc : IsC F.vars x.clause)
    (hn : (x.left = -1 ∧ True) ∨ (0 ≤ x.left ∧ x.left < s.1.length ∧ x.right = -1 ∧ True) ∨ (0 ≤ x.left ∧ x.left < s.1.length ∧ 0 ≤ x.right ∧ x.right < s.1.length ∧ True)) : LI F ls k (n + 1) (s.1 ++ [x], s.2) := by
  refine ⟨h.al, fun i y hy => ?_, h.d, fun y hy => ?_, fun i y hy => ?_, by simp; exact h.l⟩
  · rcases h.a i y hy with h | h
    · exact .inl h
    · refine .inr ⟨h.1, ?_⟩; simp only [List.length_append, List.length_singleton]; omega
  · rcases List.mem_append.1 hy with hy | hy
    · exact h.w y hy
    · rw [List.mem_singleton.1 hy]; exact hc
  · rw [List.getElem?_append] at hy
    split at hy
    · exact h.nums i y hy
    · rename_i hi
      have : i - s.1.length = 0 := by
        have := (List.getElem?_eq_some_iff.1 hy).1
        simp only [List.length_singleton] at this; omega
      rw [this] at hy
      cases hy
      rcases hn with h | h | h
      · exact .inl h
      · exact .inr (.inl ⟨h.1, by omega, h.2.2⟩)
      · exact .inr (.inr ⟨h.1, by omega, h.2.2.1, by omega, trivial⟩)
theorem LI.setA {F : Cnf} {ls : List (List Int)} {k n : Nat} {s : List ResStep × List Int} (h : LI F ls k n s) {i : Nat} {x : Int} (h0 : 0 ≤ x) (h1 : x < s.1.length) : LI F ls k n (s.1, s.2.set i x) := by
  refine ⟨by simp [h.al], fun j y hy => ?_, fun j h2 h3 => ?_, h.w, h.nums, h.l⟩
  · rw [List.getElem?_set] at hy
    split at hy
    · split at hy
      · cases hy; exact .inr ⟨h0, h1⟩
      · cases hy
    · exact h.a j y hy
  · obtain ⟨y, h4, h5⟩ := h.d j h2 h3
    show ∃ z, (s.2.set i x)[j]? = some z ∧ 0 ≤ z
    rw [List.getElem?_set]
    by_cases e : i = j
    · subst e
      rw [if_pos rfl, if_pos (List.getElem?_eq_some_iff.1 h4).1]
      exact ⟨x, rfl, h0⟩
    · rw [if_neg e]; exact ⟨y, h4, h5⟩
structure AxOk (F : Cnf) (ls : List (List Int)) (k n : Nat) (i : Int) (s t : List ResStep × List Int) : Prop where
  li : LI F ls k (n + 1) t
  lo : 0 ≤ ai t.2 i
  hi : ai t.2 i < t.1.length
  pre : ∃ T, t.1 = s.1 ++ T
theorem axM_ok {F : Cnf} {ls : List (List Int)} (hL : LOk F ls) {k n : Nat} {s : List ResStep × List Int} (h : LI F ls k n s) (hk : k ≤ ls.length) {i : Int} (h0 : 0 ≤ i) (h1 : i < F.clauses.length + k) : AxOk F ls k n i s (axM F i s) := by
  have hal := h.al
  obtain ⟨e1, e2⟩ := ai_at (A := s.2) h0 (by omega)
  unfold axM
  cases hd : decide (0 ≤ ai s.2 i) with
  | true =>
    have hd := of_decide_eq_true hd
    simp only [cond_true]
    have := h.a _ _ e2
    exact ⟨h.le (by omega), hd, by omega, [], by simp⟩
  | false =>
    simp only [decide_eq_false_iff_not] at hd
    have hif : i < F.clauses.length := by
      rcases Int.lt_or_le i F.clauses.length with h | h2
      · exact h
      · obtain ⟨x, g1, g2⟩ := h.d i.toNat (by omega) (by omega)
        rw [e2] at g1; cases g1; omega
    have hc : IsC F.vars (kAt F.clauses i) := by
      obtain ⟨c, g1, g2⟩ := ix_of (xs := F.clauses) h0 hif
      unfold kAt; rw [g1]; exact hL.f c (List.mem_of_getElem? g2)
    have hp := h.push (x := ⟨kAt F.clauses i, -1, i, 0⟩) hc (.inl ⟨rfl, trivial⟩)
    have hq := hp.setA (i := i.toNat) (x := len s.1) (by rw [len_eq]; omega) (by rw [len_eq]; simp only [List.length_append, List.length_singleton]; omega)
    refine ⟨hq, ?_, ?_, _, rfl⟩
    · show 0 ≤ ai (s.2.set i.toNat (len s.1)) i
      rw [ai_set h0 (by omega), len_eq]; omega
    · show ai (s.2.set i.toNat (len s.1)) i < _
      rw [ai_set h0 (by omega), len_eq]; simp only [cond_false, List.length_append, List.length_singleton]; omega
theorem spec_l11Axiom_eq {F : Cnf} {ls : List (List Int)} (hL : LOk F ls) {k n : Nat} {s : List ResStep × List Int} (h : LI F ls k n s) (hn : n ≤ 1000) (hk : k ≤ ls.length) {i : Int} (h0 : 0 ≤ i) (h1 : i < F.clauses.length + k) : spec_l11Axiom F i s.1 s.2 = some (axM F i s) := by
  have hal := h.al; have hl := h.l
  obtain ⟨e1, e2⟩ := ai_at (A := s.2) h0 (by omega)
  unfold spec_l11Axiom axM
  rw [e1, bd_some]
  cases hd : decide (0 ≤ ai s.2 i) with
  | true => rfl
  | false =>
    simp only [decide_eq_false_iff_not] at hd
    have hif : i < F.clauses.length := by
      rcases Int.lt_or_le i F.clauses.length with h | h2
      · exact h
      · obtain ⟨x, g1, g2⟩ := h.d i.toNat (by omega) (by omega)
        rw [e2] at g1; cases g1; omega
    obtain ⟨c, g1, g2⟩ := ix_of (xs := F.clauses) h0 hif
    have hc : kAt F.clauses i = c := by unfold kAt; rw [g1]; rfl
    have hcl := (hL.f c (List.mem_of_getElem? g2)).len
    have hput : put s.2 i (len s.1) = some (s.2.set i.toNat (len s.1)) := by
      have := put_ok (xs := s.2) (i := i.toNat) (x := len s.1) (by omega)
      rwa [show ((i.toNat : Nat) : Int) = i by omega] at this
    simp only [cond_false, bd_some, hput, g1]
    rw [app_ok (by simp; unfold lim; omega), bd_some, app_ok (by simp; unfold lim; omega), bd_some, hc]; rfl
structure UsOk (F : Cnf) (ls : List (List Int)) (k n : Nat) (r : (List ResStep × List Int) × Int) : Prop where
  li : LI F ls k n r.1
  lo : 0 ≤ r.2
  hi : r.2 < r.1.1.length
theorem begM_ok {F : Cnf} {ls : List (List Int)} (hL : LOk F ls) (hg : learnB F ls = true) {k n : Nat} {s : List ResStep × List Int} (h : LI F ls k n s) (hk : k < ls.length) : UsOk F ls k (n + 1) (begM F ls k s) := by
  obtain ⟨m, z1, z2, _⟩ := (an_ok hL hg hk).z
  rw [lk_len (by omega)] at z2
  have := axM_ok hL h (Nat.le_of_lt hk) (i := cfl F ls k) (by omega) (by omega)
  exact ⟨this.li, this.lo, this.hi⟩
theorem useM_ok {F : Cnf} {ls : List (List Int)} (hL : LOk F ls) {k n : Nat} {r : (List ResStep × List Int) × Int} (h : UsOk F ls k n r) (hk : k ≤ ls.length) {u : l11Use} (h0 : 0 ≤ u.reason) (h1 : u.reason < F.clauses.length + k) (hc : IsC F.vars u.clause) : UsOk F ls k (n + 2) (useM F r u) := by
  have hA := axM_ok hL h.li hk h0 h1
  obtain ⟨T, hT⟩ := hA.pre
  have hlo := h.lo; have hhi := h.hi; have h4 := hA.lo; have h5 := hA.hi
  have hlt : r.2 < (axM F u.reason r.1).1.length := by rw [hT]; simp only [List.length_append]; omega
  unfold useM
  refine ⟨hA.li.push ?_ ?_, by show 0 ≤ len _; rw [len_eq]; omega, by show len _ < _; rw [len_eq]; simp only [List.length_append, List.length_singleton]; omega⟩
  · cases !(clA (axM F u.reason r.1).1 r.2).contains u.v <;> exact hc
  · cases !(clA (axM F u.reason r.1).1 r.2).contains u.v with
    | true => exact .inr (.inr ⟨h4, h5, hlo, hlt, trivial⟩)
    | false => exact .inr (.inr ⟨hlo, hlt, h4, h5, trivial⟩)
theorem endM_ok {F : Cnf} {ls : List (List Int)} (hL : LOk F ls) {k n : Nat} {r : (List ResStep × List Int) × Int} (h : UsOk F ls k n r) (hk : k < ls.length) {y : List Int} (hy : ls[k]? = some y) : LI F ls (k + 1) (n + 1) (endM F y k r) := by
  have hlo := h.lo; have hhi := h.hi; have hal := h.li.al
  have hyc := hL.l y (List.mem_of_getElem? hy)
  have key : ∀ {s : List ResStep × List Int} {x : Int} {m : Nat}, LI F ls k m s → 0 ≤ x → x < s.1.length → LI F ls (k + 1) m (s.1, s.2.set (F.clauses.length + k) x) := by
    intro s x m hs h0 h1
    have hq := hs.setA (i := F.clauses.length + k) h0 h1
    refine ⟨hq.al, hq.a, fun i h2 h3 => ?_, hq.w, hq.nums, hq.l⟩
    by_cases e : i = F.clauses.length + k
    · subst e
      have := hs.al
      exact ⟨x, List.getElem?_set_self (by omega), h0⟩
    · exact hq.d i h2 (by omega)
  unfold endM
  cases !(clA r.1.1 r.2 == y) with
  | true =>
    have hp := h.li.push (x := ⟨y, r.2, -1, 0⟩) hyc (.inr (.inl ⟨hlo, hhi, rfl, trivial⟩))
    exact key hp (by rw [len_eq]; omega) (by rw [len_eq]; simp only [List.length_append, List.length_singleton]; omega)
  | false => exact (key h.li hlo hhi).le (by omega)
end Go.PF
namespace Go.PF
open Go.Pu
theorem iter_mk_up {T σ α X : Type} (mk : σ → Int → T) {xs : List α} {body : T → Option (Lp T X)} {F : σ → α → σ} (I : Nat → σ → Prop) {s0 : σ} (h0 : I 0 s0)
    (h : ∀ (i : Nat) x s, xs[i]? = some x → I i s → body (mk s (i : Int)) = some (.nx (mk (F s x) ((i : Int) + 1))) ∧ I (i + 1) (F s x)) (he : ∀ s, I xs.length s → body (mk s (xs.length : Int)) = some (.bk (mk s (xs.length : Int)))) :
    iter body (mk s0 0) = some (.go (mk (xs.foldl F s0) (xs.length : Int))) ∧ I xs.length (xs.foldl F s0) := by
  have key : ∀ (m : List α) (k : Nat) (s : σ), k + m.length = xs.length → (∀ i y, m[i]? = some y → xs[k + i]? = some y) → I k s → iter body (mk s (k : Int)) = some (.go (mk (m.foldl F s) (xs.length : Int))) ∧ I xs.length (m.foldl F s) := by
    intro m
    induction m with
    | nil =>
      intro k s hk _ hI
      simp only [List.length_nil, Nat.add_zero] at hk
      subst hk
      exact ⟨iter_bk (he s hI), hI⟩
    | cons y m ih =>
      intro k s hk hm hI
      obtain ⟨h1, h2⟩ := h k y s (by have := hm 0 y rfl; simpa using this) hI
      rw [iter_nx h1]
      exact ih (k + 1) (F s y) (by simp at hk; omega) (fun i z hz => by have := hm (i + 1) z (by simpa using hz); rwa [show k + (i + 1) = k + 1 + i by omega] at this) h2
  have := key xs 0 s0 (by simp) (by simp) h0
  simpa using this
def UOk (V : Int) (n : Nat) (u : l11Use) : Prop := 0 ≤ u.reason ∧ u.reason < n ∧ IsC V u.clause
theorem an_use {V : Int} {K : List (List Int)} {t : List (Int × Int)} (h : TrOk V K t) (hK : KOk V K) : ∀ {l : List ((Int × Int) × Nat)} {s : List l11Use × List Int}, (∀ p ∈ l, p.1 ∈ t) → IsC V s.2 → (∀ u ∈ s.1, UOk V K.length u) →
    ∀ u ∈ (l.foldl (anS K) s).1, UOk V K.length u := by
  intro l
  induction l with
  | nil => intro s _ _ h; exact h
  | cons p l ih =>
    intro s hl hc hs
    rw [List.foldl_cons]
    have hp := hl p (by simp)
    have hr := rsv_isC h hK hc hp
    refine ih (fun q hq => hl q (by simp [hq])) ?_ ?_
    · unfold anS
      cases s.2.contains (wr (-p.1.1)) with
      | false => exact hc
      | true => exact hr
    · unfold anS
      cases s.2.contains (wr (-p.1.1)) with
      | false => exact hs
      | true =>
        simp only [Bool.not_true, cond_false]
        intro u hu
        rcases List.mem_append.1 hu with hu | hu
        · exact hs u hu
        · rw [List.mem_singleton.1 hu]
          obtain ⟨_, c, h1, h2, _⟩ := h.q p.1 hp
          exact ⟨h1, h2, hr⟩
theorem zip_fst_mem {α : Type} {xs : List α} {p : α × Nat} (h : p ∈ xs.zipIdx) : p.1 ∈ xs := by
  have h2 := List.mem_zipIdx h
  rw [h2.2.2]; exact List.getElem_mem _
theorem anF_use {F : Cnf} {ls : List (List Int)} (h : LOk F ls) (hg : learnB F ls = true) {k : Nat} (hk : k < ls.length) : (∀ u ∈ (anF F ls k).1, UOk F.vars (F.clauses.length + k) u) ∧ (anF F ls k).1.length ≤ 13 := by
  have hA := an_ok h hg hk
  obtain ⟨m, z1, z2, z3, z4⟩ := hA.z
  have h2 := (spec_l11Analyse_eq h hg hk).2.l
  have h3 := hA.t.len
  refine ⟨fun u hu => ?_, by omega⟩
  have := an_use hA.t (h.k k) (s := ([], kAt (lk F ls k) (cfl F ls k))) (fun p hp => zip_fst_mem (List.mem_reverse.1 hp)) z4 (fun u hu => by cases hu) u hu
  rwa [lk_len (by omega)] at this
theorem fold_use {F : Cnf} {ls : List (List Int)} (hL : LOk F ls) {k : Nat} (hk : k ≤ ls.length) : ∀ {us : List l11Use} {n : Nat} {r : (List ResStep × List Int) × Int}, (∀ u ∈ us, UOk F.vars (F.clauses.length + k) u) → UsOk F ls k n r → UsOk F ls k (n + 2 * us.length) (us.foldl (useM F) r) := by
  intro us
  induction us with
  | nil => intro n r _ h; exact h
  | cons u us ih =>
    intro n r hu h
    obtain ⟨u1, u2, u3⟩ := hu u (by simp)
    rw [List.foldl_cons]
    have := ih (fun v hv => hu v (by simp [hv])) (useM_ok hL h hk u1 (by omega) u3)
    rw [show n + 2 * (u :: us).length = n + 2 + 2 * us.length by simp only [List.length_cons]; omega]
    exact this
theorem learnM_ok {F : Cnf} {ls : List (List Int)} (hL : LOk F ls) (hg : learnB F ls = true) {k n : Nat} {s : List ResStep × List Int} (h : LI F ls k n s) {y : List Int} (hy : ls[k]? = some y) : LI F ls (k + 1) (n + 28) (learnM F ls y k s) := by
  have hk := (List.getElem?_eq_some_iff.1 hy).1
  have h1 := begM_ok hL hg h hk
  obtain ⟨u1, u2⟩ := anF_use hL hg hk
  have h2 := fold_use hL (Nat.le_of_lt hk) u1 h1
  exact (endM_ok hL h2 hk hy).le (by omega)
theorem spec_use_loop {F : Cnf} {ls : List (List Int)} (hL : LOk F ls) {k n : Nat} {us : List l11Use} {r0 : (List ResStep × List Int) × Int} (hu : ∀ u ∈ us, UOk F.vars (F.clauses.length + k) u) (hul : us.length ≤ 13) (h : UsOk F ls k n r0) (hk : k ≤ ls.length) (hn : n ≤ 900)
    {f : (List ResStep) × (List Int) × Int × Int → Option (Lp ((List ResStep) × (List Int) × Int × Int) Empty)}
    (hf : ∀ S A now i, f (S, A, now, i) = (bif (decide (i < (len us))) then bd (ix us i) (fun x25 => bd (PF.spec_l11Axiom F x25.reason S A) (fun r26 => bd (ix us i) (fun x27 => bd (app [] x27.clause) (fun xs28 => bd (ix us i) (fun x29 => bd (ix r26.2 x29.reason) (fun x30 => bd (ix us i) (fun x31 => bd (ix r26.1 now) (fun x32 => bd (ix us i) (fun x33 => bd (PF.spec_l2Has x32.clause x33.v) (fun r34 => (bif (!r34) then bd (app r26.1 [(ResStep.mk xs28 x30 now x31.v)]) (fun xs35 => some (Lp.nx (xs35, r26.2, (wr ((len xs35) - 1)), (wr (i + 1))))) else bd (app r26.1 [(ResStep.mk xs28 now x30 x31.v)]) (fun xs36 => some (Lp.nx (xs36, r26.2, (wr ((len xs36) - 1)), (wr (i + 1)))))))))))))))) else some (Lp.bk (S, A, now, i)))) :
    iter f (r0.1.1, r0.1.2, r0.2, 0) = some (.go ((us.foldl (useM F) r0).1.1, (us.foldl (useM F) r0).1.2, (us.foldl (useM F) r0).2, (us.length : Int))) := by
  refine (iter_mk_up (X := Empty) (fun (r : (List ResStep × List Int) × Int) i => (r.1.1, r.1.2, r.2, i)) (xs := us) (body := f) (F := useM F) (fun i r => UsOk F ls k (n + 2 * i) r) (s0 := r0) h (fun i u r hiu hr => ?_) (fun r _ => by rw [hf, len_eq, decide_eq_false (by omega)]; rfl)).1
  have hi := (List.getElem?_eq_some_iff.1 hiu).1
  obtain ⟨u1, u2, u3⟩ := hu u (List.mem_of_getElem? hiu)
  have hnx := useM_ok hL hr hk u1 (by omega) u3
  refine ⟨?_, by rw [show n + 2 * (i + 1) = n + 2 * i + 2 by omega]; exact hnx⟩
  have hA := axM_ok hL hr.li hk u1 (show u.reason < F.clauses.length + k by omega)
  obtain ⟨T, hT⟩ := hA.pre
  have h1 := hr.lo; have h2 := hr.hi; have hal := hA.li.al; have hll := hA.li.l; have hcl := u3.len
  have hri := hr.li
  obtain ⟨a1, _⟩ := ai_at (A := (axM F u.reason r.1).2) u1 (by omega)
  obtain ⟨x, x1, x2, _⟩ := clA_of (S := (axM F u.reason r.1).1) (i := r.2) h1 (by rw [hT]; simp only [List.length_append]; omega)
  rw [hf, len_eq, decide_eq_true (by omega), cond_true, ix_get, hiu, bd_some, spec_l11Axiom_eq hL hr.li (by omega) hk u1 (by omega), bd_some]
  simp only [bd_some, a1, x1]
  rw [app_ok (by simp; unfold lim; omega), bd_some, spec_l2Has_eq, bd_some, ← x2]
  unfold useM
  have hw : ∀ z, wr (len ((axM F u.reason r.1).1 ++ [z]) - 1) = len (axM F u.reason r.1).1 := fun z => by
    rw [len_eq, len_eq, List.length_append, List.length_singleton, wr_of _ (by omega) (by omega)]; omega
  cases !(clA (axM F u.reason r.1).1 r.2).contains u.v with
  | true => simp only [cond_true]; rw [app_ok (by simp; unfold lim; omega), bd_some, hw, wr_succ hi (by omega)]; rfl
  | false => simp only [cond_false]; rw [app_ok (by simp; unfold lim; omega), bd_some, hw, wr_succ hi (by omega)]; rfl
def lrn (F : Cnf) (ls : List (List Int)) (s : List ResStep × List Int) (p : List Int × Nat) : List ResStep × List Int := bif decide (len s.1 ≤ 200) then learnM F ls p.1 p.2 s else s
def runM (F : Cnf) (ls : List (List Int)) : List ResStep × List Int := ls.zipIdx.foldl (lrn F ls) ([], List.replicate (F.clauses.length + ls.length) (-1))
theorem lrn_stuck {F : Cnf} {ls : List (List Int)} {s : List ResStep × List Int} (h : ¬ len s.1 ≤ 200) : ∀ {l : List (List Int × Nat)}, l.foldl (lrn F ls) s = s := by
  intro l
  induction l with
  | nil => rfl
  | cons p l ih => rw [List.foldl_cons]; unfold lrn; rw [decide_eq_false h]; exact ih
theorem drop_zip {α : Type} {xs : List α} {k : Nat} {x : α} (hx : xs[k]? = some x) : xs.zipIdx.drop k = (x, k) :: xs.zipIdx.drop (k + 1) := by
  have hk := (List.getElem?_eq_some_iff.1 hx).1
  rw [List.drop_eq_getElem_cons (by simpa using hk)]
  congr 1
  have := (List.getElem?_eq_some_iff.1 hx).2
  simp [this]
theorem fill_loop {n : Nat} (hn : n ≤ 1000) {f : List Int × Int → Option (Lp (List Int × Int) Empty)} (hf : ∀ A i, f (A, i) = (bif (decide (i < (n : Int))) then bd (app A [(-1)]) (fun xs87 => some (Lp.nx (xs87, (wr (i + 1))))) else some (Lp.bk (A, i)))) : iter f ([], 0) = some (.go (List.replicate n (-1), (n : Int))) := by
  have key : ∀ (m k : Nat), k + m = n → iter f (List.replicate k (-1), (k : Int)) = some (.go (List.replicate n (-1), (n : Int))) := by
    intro m
    induction m with
    | zero => intro k hk; simp at hk; subst hk; exact iter_bk (by rw [hf, decide_eq_false (by omega)]; rfl)
    | succ m ih =>
      intro k hk
      rw [iter_nx (s' := (List.replicate (k + 1) (-1), ((k + 1 : Nat) : Int))) (by
        rw [hf, decide_eq_true (by omega), cond_true, app_ok (by simp; unfold lim; omega), bd_some, wr_of _ (by omega) (by omega), List.replicate_succ']; rfl)]
      exact ih (k + 1) (by omega)
  exact key n 0 (by omega)
theorem li0 {F : Cnf} {ls : List (List Int)} : LI F ls 0 0 ([], List.replicate (F.clauses.length + ls.length) (-1)) := by
  refine ⟨by simp, fun i x hx => ?_, fun i h1 h2 => by omega, fun x hx => by simp at hx, fun i x hx => by simp at hx, by simp⟩
  rw [List.getElem?_replicate] at hx
  split at hx
  · cases hx; exact .inl rfl
  · cases hx
theorem spec_steps_learn {F : Cnf} {ls : List (List Int)} (hL : LOk F ls) (hg : learnB F ls = true) {f : (List Int) × (List ResStep) × Int → Option (Lp ((List Int) × (List ResStep) × Int) Empty)}
    (hb : ∀ A S k, ¬ (k < len ls ∧ len S ≤ 200) → f (A, S, k) = some (.bk (A, S, k)))
    (hn : ∀ A S (k : Nat) y, ls[k]? = some y → len S ≤ 200 → LI F ls k 200 (S, A) → f (A, S, (k : Int)) = some (.nx ((learnM F ls y k (S, A)).2, (learnM F ls y k (S, A)).1, (k : Int) + 1))) :
    ∃ k', iter f (List.replicate (F.clauses.length + ls.length) (-1), [], 0) = some (.go ((runM F ls).2, (runM F ls).1, k')) ∧ ((runM F ls).1.length ≤ 200 → LI F ls ls.length 200 (runM F ls)) ∧ (runM F ls).2.length = F.clauses.length + ls.length := by
  have key : ∀ (m k : Nat) (s : List ResStep × List Int), k + m = ls.length → LI F ls k 228 s →
      ∃ k', iter f (s.2, s.1, (k : Int)) = some (.go (((ls.zipIdx.drop k).foldl (lrn F ls) s).2, ((ls.zipIdx.drop k).foldl (lrn F ls) s).1, k')) ∧ (((ls.zipIdx.drop k).foldl (lrn F ls) s).1.length ≤ 200 → LI F ls ls.length 200 ((ls.zipIdx.drop k).foldl (lrn F ls) s)) ∧ ((ls.zipIdx.drop k).foldl (lrn F ls) s).2.length = F.clauses.length + ls.length := by
    intro m
    induction m with
    | zero =>
      intro k s hk hs
      have hk : k = ls.length := by omega
      subst hk
      rw [List.drop_of_length_le (by simp)]
      exact ⟨_, iter_bk (hb _ _ _ (by rw [len_eq]; omega)), fun h => ⟨hs.al, hs.a, hs.d, hs.w, hs.nums, h⟩, hs.al⟩
    | succ m ih =>
      intro k s hk hs
      by_cases h2 : len s.1 ≤ 200
      · obtain ⟨y, hy⟩ : ∃ y, ls[k]? = some y := ⟨_, List.getElem?_eq_getElem (by omega)⟩
        have hs2 : LI F ls k 200 s := ⟨hs.al, hs.a, hs.d, hs.w, hs.nums, by rw [len_eq] at h2; omega⟩
        rw [drop_zip hy, List.foldl_cons, show lrn F ls s (y, k) = learnM F ls y k s by unfold lrn; rw [decide_eq_true h2]; rfl]
        obtain ⟨k', g1, g2⟩ := ih (k + 1) (learnM F ls y k s) (by omega) ((learnM_ok hL hg hs2 hy).le (by omega))
        exact ⟨k', by rw [iter_nx (hn _ _ k y hy h2 hs2)]; exact g1, g2⟩
      · rw [lrn_stuck h2]
        exact ⟨_, iter_bk (hb _ _ _ (fun h => h2 h.2)), fun h => absurd (by rw [len_eq]; omega) h2, hs.al⟩
  have := key ls.length 0 ([], List.replicate (F.clauses.length + ls.length) (-1)) (by omega) (li0.le (by omega))
  exact this
end Go.PF
namespace Go.PF
open Go.Pu
theorem wr_addlen {α : Type} {xs : List α} {k : Nat} (h : xs.length + k ≤ 1000) : wr (len xs + (k : Int)) = ((xs.length + k : Nat) : Int) := by rw [len_eq, wr_of _ (by omega) (by omega)]; omega
theorem bdR_steps {β : Type} {F : Cnf} {ls : List (List Int)} (hL : LOk F ls) (hg : learnB F ls = true) {f : (List Int) × (List ResStep) × Int → Option (Lp ((List Int) × (List ResStep) × Int) Empty)} {g : (List Int) × (List ResStep) × Int → Option β} {l : Empty → Option β} {r : Option β}
    (hb : ∀ A S k, ¬ (k < len ls ∧ len S ≤ 200) → f (A, S, k) = some (.bk (A, S, k)))
    (hn : ∀ A S (k : Nat) y, ls[k]? = some y → len S ≤ 200 → LI F ls k 200 (S, A) → f (A, S, (k : Int)) = some (.nx ((learnM F ls y k (S, A)).2, (learnM F ls y k (S, A)).1, (k : Int) + 1)))
    (hk : ∀ k', (runM F ls).2.length = F.clauses.length + ls.length → g ((runM F ls).2, (runM F ls).1, k') = r) : bdR (iter f (List.replicate (F.clauses.length + ls.length) (-1), [], 0)) g l = r := by
  obtain ⟨k', h1, h2, h3⟩ := spec_steps_learn hL hg hb hn
  rw [h1, bdR_go]; exact hk k' h3
theorem spec_l11Steps_eq {F : Cnf} {ls : List (List Int)} (hL : LOk F ls) (hg : learnB F ls = true) (hpos : 0 < ls.length) : spec_l11Steps F ls = some ((runM F ls).1, ai (runM F ls).2 ((F.clauses.length + ls.length - 1 : Nat) : Int)) := by
  have hfl := hL.fl; have hll := hL.ll
  have e0 : wr (len F.clauses + len ls) = ((F.clauses.length + ls.length : Nat) : Int) := by rw [len_eq, len_eq, wr_of _ (by omega) (by omega)]; omega
  unfold spec_l11Steps
  rw [e0, fill_loop (n := F.clauses.length + ls.length) (by omega) (fun _ _ => by rfl), bdR_go]
  clear e0
  refine bdR_steps hL hg ?hb ?hn ?hk
  case hb =>
    intro A S k hk
    show (bif (bif decide (k < len ls) then decide (len S ≤ 200) else false) then _ else some (Lp.bk (A, S, k))) = _
    have : (bif decide (k < len ls) then decide (len S ≤ 200) else false) = false := by
      by_cases h : k < len ls
      · rw [decide_eq_true h, cond_true, decide_eq_false (fun h2 => hk ⟨h, h2⟩)]
      · rw [decide_eq_false h]; rfl
    rw [this]; rfl
  case hn =>
    intro A S k y hy h2 hs
    have hk := (List.getElem?_eq_some_iff.1 hy).1
    have hyc := (hL.l y (List.mem_of_getElem? hy)).len
    obtain ⟨u1, u2⟩ := anF_use hL hg hk
    have hbg := begM_ok hL hg hs hk
    obtain ⟨m, z1, z2, _⟩ := (an_ok hL hg hk).z
    rw [lk_len (by omega)] at z2
    have hA := axM_ok hL hs (Nat.le_of_lt hk) (i := cfl F ls k) (by omega) (by omega)
    have hal := hA.li.al
    obtain ⟨a1, _⟩ := ai_at (A := (axM F (cfl F ls k) (S, A)).2) (i := cfl F ls k) (by omega) (by omega)
    have hu := fold_use hL (Nat.le_of_lt hk) u1 hbg
    have hc : (bif decide ((k : Int) < len ls) then decide (len S ≤ 200) else false) = true := by rw [len_eq] at h2 ⊢; rw [decide_eq_true (by omega), decide_eq_true (by rw [len_eq]; omega)]; rfl
    have hloop := fun f hf => spec_use_loop (f := f) hL u1 u2 hbg (Nat.le_of_lt hk) (by omega) hf
    unfold learnM
    generalize (anF F ls k).1.foldl (useM F) (begM F ls k (S, A)) = r at hu hloop ⊢
    simp only [begM] at hloop
    show (bif (bif decide ((k : Int) < len ls) then decide (len S ≤ 200) else false) then bd (PF.spec_l11Analyse F ls (k : Int)) _ else _) = _
    rw [hc, cond_true, (spec_l11Analyse_eq hL hg hk).1, bd_some]
    simp only
    rw [spec_l11Axiom_eq hL hs (by omega) (Nat.le_of_lt hk) (by omega) (by omega), bd_some, a1, bd_some]
    rw [hloop _ (fun _ _ _ _ => by rfl), bdR_go]
    have hlo := hu.lo; have hhi := hu.hi; have hul := hu.li.l; have hual := hu.li.al
    obtain ⟨x, x1, x2, _⟩ := clA_of (S := r.1.1) (i := r.2) hlo hhi
    obtain ⟨z, hz⟩ : ∃ z, r.1.2[F.clauses.length + k]? = some z := ⟨_, List.getElem?_eq_getElem (by omega)⟩
    have hp : ∀ w, put r.1.2 ((F.clauses.length + k : Nat) : Int) w = some (r.1.2.set (F.clauses.length + k) w) := fun w => put_ok (by omega)
    have hz2 : ix r.1.2 ((F.clauses.length + k : Nat) : Int) = some z := by rw [ix_get]; exact hz
    have ha1 : app [] y = some y := by rw [app_ok (by simp; unfold lim; omega)]; rfl
    have ha2 : ∀ w, app r.1.1 [w] = some (r.1.1 ++ [w]) := fun w => app_ok (by simp; unfold lim; omega)
    have hw : ∀ w, wr (len (r.1.1 ++ [w]) - 1) = len r.1.1 := fun w => by rw [len_eq, len_eq, List.length_append, List.length_singleton, wr_of _ (by omega) (by omega)]; omega
    have hfk : F.clauses.length + k ≤ 1000 := by omega
    have ek : wr ((k : Int) + 1) = (k : Int) + 1 := wr_succ hk (by omega)
    have ew : wr (len F.clauses + (k : Int)) = ((F.clauses.length + k : Nat) : Int) := wr_addlen hfk
    have hy2 : ix ls (k : Int) = some y := by rw [ix_get]; exact hy
    unfold endM
    simp only [x1, bd_some, hy2, spec_l1Same_eq, ew, ek, hz2, hp, ha1, ← x2]
    cases !(clA r.1.1 r.2 == y) with
    | true => simp only [cond_true, ha2, bd_some, bdR_go, hw]
    | false => simp only [cond_false, bdR_go]
  case hk =>
   intro k' h3
   have e1 : wr (len (runM F ls).2 - 1) = ((F.clauses.length + ls.length - 1 : Nat) : Int) := by rw [len_eq, h3, wr_of _ (by omega) (by omega)]; omega
   simp only [e1]
   rw [(ai_at (A := (runM F ls).2) (i := ((F.clauses.length + ls.length - 1 : Nat) : Int)) (by omega) (by omega)).1, bd_some]
def lastM (F : Cnf) (ls : List (List Int)) : Nat := (ai (runM F ls).2 ((F.clauses.length + ls.length - 1 : Nat) : Int)).toNat
def proofS (F : Cnf) (ls : List (List Int)) : List ResStep := (runM F ls).1.take (lastM F ls + 1)
def proofR (F : Cnf) (ls : List (List Int)) : List ResStep × Bool :=
  bif !learnB F ls || (len ls == 0) then ([], false) else bif decide (200 < len (runM F ls).1) then ([], false) else (trimL (proofS F ls) (need (proofS F ls)), true)
theorem run_li {F : Cnf} {ls : List (List Int)} (hL : LOk F ls) (hg : learnB F ls = true) : ((runM F ls).1.length ≤ 200 → LI F ls ls.length 200 (runM F ls)) ∧ (runM F ls).2.length = F.clauses.length + ls.length := by
  have key : ∀ (m k : Nat) (s : List ResStep × List Int), k + m = ls.length → LI F ls k 228 s →
      (((ls.zipIdx.drop k).foldl (lrn F ls) s).1.length ≤ 200 → LI F ls ls.length 200 ((ls.zipIdx.drop k).foldl (lrn F ls) s)) ∧ ((ls.zipIdx.drop k).foldl (lrn F ls) s).2.length = F.clauses.length + ls.length := by
    intro m
    induction m with
    | zero =>
      intro k s hk hs
      have hk : k = ls.length := by omega
      subst hk
      rw [List.drop_of_length_le (by simp)]
      exact ⟨fun h => ⟨hs.al, hs.a, hs.d, hs.w, hs.nums, h⟩, hs.al⟩
    | succ m ih =>
      intro k s hk hs
      by_cases h2 : len s.1 ≤ 200
      · obtain ⟨y, hy⟩ : ∃ y, ls[k]? = some y := ⟨_, List.getElem?_eq_getElem (by omega)⟩
        have hs2 : LI F ls k 200 s := ⟨hs.al, hs.a, hs.d, hs.w, hs.nums, by rw [len_eq] at h2; omega⟩
        rw [drop_zip hy, List.foldl_cons, show lrn F ls s (y, k) = learnM F ls y k s by unfold lrn; rw [decide_eq_true h2]; rfl]
        exact ih (k + 1) (learnM F ls y k s) (by omega) ((learnM_ok hL hg hs2 hy).le (by omega))
      · rw [lrn_stuck h2]
        exact ⟨fun h => absurd (by rw [len_eq]; omega) h2, hs.al⟩
  exact key ls.length 0 ([], List.replicate (F.clauses.length + ls.length) (-1)) (by omega) (li0.le (by omega))
theorem last_ok {F : Cnf} {ls : List (List Int)} (hL : LOk F ls) (hg : learnB F ls = true) (hpos : 0 < ls.length) (hs : (runM F ls).1.length ≤ 200) :
    ai (runM F ls).2 ((F.clauses.length + ls.length - 1 : Nat) : Int) = ((lastM F ls : Nat) : Int) ∧ lastM F ls < (runM F ls).1.length ∧ IsW F.vars (proofS F ls) := by
  have h := (run_li hL hg).1 hs
  have hal := h.al
  obtain ⟨x, d1, d2⟩ := h.d (F.clauses.length + ls.length - 1) (by omega) (by omega)
  have e : ai (runM F ls).2 ((F.clauses.length + ls.length - 1 : Nat) : Int) = x := by unfold ai; rw [ix_get, d1]; rfl
  have hx := h.a _ _ d1
  refine ⟨by unfold lastM; rw [e]; omega, by unfold lastM; rw [e]; omega, ⟨?_, fun {y} hy => ?_, fun {i y} hy => ?_⟩⟩
  · unfold proofS; rw [List.length_take]; omega
  · unfold proofS at hy; exact h.w y (List.mem_of_mem_take hy)
  · unfold proofS at hy
    rw [List.getElem?_take] at hy
    split at hy
    · exact h.nums i y hy
    · cases hy
theorem cut_lastM {F : Cnf} {ls : List (List Int)} (hl : lastM F ls < (runM F ls).1.length) (hs : (runM F ls).1.length ≤ 200) : cut (runM F ls).1 0 (wr (((lastM F ls : Nat) : Int) + 1)) = some (proofS F ls) := by
  rw [wr_of _ (by omega) (by omega), show ((lastM F ls : Nat) : Int) + 1 = ((lastM F ls + 1 : Nat) : Int) by omega, cut_take (by omega)]; rfl
theorem spec_LearnedToProof_eq {F : Cnf} {ls : List (List Int)} (hF : okCnf F) (hl : okL (okL okI) ls) : spec_LearnedToProof F ls = some (proofR F ls) := by
  unfold spec_LearnedToProof proofR
  rw [spec_l11Good_eq hF hl, bd_some]
  cases hg : learnB F ls with
  | false => rfl
  | true =>
    cases h0 : (len ls == 0) with
    | true => rfl
    | false =>
      have h : LOk F ls := goodL_ok (by unfold learnB at hg; rw [Bool.and_eq_true] at hg; exact hg.1)
      have hpos : 0 < ls.length := by
        rcases Nat.eq_zero_or_pos ls.length with e | e
        · rw [len_eq, e] at h0; cases h0
        · exact e
      simp only [Bool.not_true, cond_false, Bool.or_false]
      rw [spec_l11Steps_eq h hg hpos, bd_some]
      simp only
      cases hd : decide (200 < len (runM F ls).1) with
      | true => rfl
      | false =>
        have hs : (runM F ls).1.length ≤ 200 := by have := of_decide_eq_false hd; rw [len_eq] at this; omega
        obtain ⟨l1, l2, l3⟩ := last_ok h hg hpos hs
        simp only [cond_false]
        rw [l1, cut_lastM l2 hs, bd_some, spec_l7Trim_eqW l3, bd_some]
end Go.PF
namespace Go.PF
open Go.Pu
theorem mget_put {m : List (Int × Int)} {k v i : Int} : mget (mput m k v) i = bif i == k then some v else mget m i := by
  induction m with
  | nil => unfold mput mget mget; cases i == k <;> rfl
  | cons p m ih =>
    unfold mput
    cases hk : k == p.1 with
    | true =>
      have e := beq_iff_eq.1 hk
      simp only [cond_true, mget]
      cases hi : i == k with
      | true => rfl
      | false =>
        have : (i == p.1) = false := by rw [← e]; exact hi
        simp only [this, cond_false]
    | false =>
      simp only [cond_false, mget, ih]
      cases hi : i == k with
      | true =>
        have e := beq_iff_eq.1 hi
        have : (i == p.1) = false := by rw [e]; exact hk
        simp only [this, cond_true, cond_false]
      | false => rfl
structure MR (A : List Int) (m : List (Int × Int)) : Prop where
  g : ∀ i : Int, 0 ≤ i → i < A.length → mget m i = (bif decide (0 ≤ ai A i) then some (ai A i) else none)
theorem ai_other {A : List Int} {i j : Int} {x : Int} (h0 : 0 ≤ i) (h : j ≠ i) : ai (A.set i.toNat x) j = ai A j := by
  unfold ai ix
  by_cases hj : 0 ≤ j
  · rw [if_pos hj, if_pos hj, List.getElem?_set_ne (by omega)]
  · rw [if_neg hj, if_neg hj]
theorem MR.put {A : List Int} {m : List (Int × Int)} (h : MR A m) {i x : Int} (h0 : 0 ≤ i) (h1 : i < A.length) (hx : 0 ≤ x) : MR (A.set i.toNat x) (mput m i x) := by
  refine ⟨fun j j0 j1 => ?_⟩
  rw [List.length_set] at j1
  rw [mget_put]
  cases hj : j == i with
  | true =>
    have e := beq_iff_eq.1 hj
    rw [e, ai_set h0 h1, decide_eq_true hx]; rfl
  | false =>
    rw [ai_other h0 (by intro e; rw [e] at hj; simp at hj)]
    exact h.g j j0 j1
theorem impl_step {F : Cnf} {ls : List (List Int)} (hL : LOk F ls) {k n : Nat} {s : List ResStep × List Int} (h : LI F ls k n s) (hn : n ≤ 1000) (hk : k ≤ ls.length) {m : List (Int × Int)} (hm : MR s.2 m) {i : Int} (h0 : 0 ≤ i) (h1 : i < F.clauses.length + k) {B : List Int} {V : Int} :
    ∃ m', (bif (!((mget m i).isSome)) then bd (ix F.clauses i) (fun x24 => bd (PF.slices_Clone_int_int x24) (fun r25 => bd (β := _) (bd (app s.1 [(ResStep.mk r25 (-1) i 0)]) (fun xs27 => some (xs27, B, V, F.clauses, (wr ((len xs27) - 1)))) : Option ((List ResStep) × (List Int) × Int × (List (List Int)) × Int)) (fun s26 => some (s26.1, s26.2.1, s26.2.2.1, s26.2.2.2.1, (mput m i s26.2.2.2.2), s26.2.2.2.2)))) else some (s.1, B, V, F.clauses, m, ((mget m i).getD 0)))
      = some ((axM F i s).1, B, V, F.clauses, m', ai (axM F i s).2 i) ∧ MR (axM F i s).2 m' := by
  have hal := h.al; have hl := h.l
  obtain ⟨e1, e2⟩ := ai_at (A := s.2) h0 (by omega)
  rw [hm.g i h0 (by omega)]
  unfold axM
  cases hd : decide (0 ≤ ai s.2 i) with
  | true => exact ⟨m, rfl, hm⟩
  | false =>
    simp only [decide_eq_false_iff_not] at hd
    have hif : i < F.clauses.length := by
      rcases Int.lt_or_le i F.clauses.length with h | h2
      · exact h
      · obtain ⟨x, g1, g2⟩ := h.d i.toNat (by omega) (by omega)
        rw [e2] at g1; cases g1; omega
    obtain ⟨c, g1, g2⟩ := ix_of (xs := F.clauses) h0 hif
    have hc : kAt F.clauses i = c := by unfold kAt; rw [g1]; rfl
    have hcl := (hL.f c (List.mem_of_getElem? g2)).len
    have hal2 : i < s.2.length := by omega
    have ha : app s.1 [(ResStep.mk c (-1) i 0)] = some (s.1 ++ [ResStep.mk c (-1) i 0]) := app_ok (by simp; unfold lim; omega)
    have hcl2 : slices_Clone_int_int c = some c := slices_Clone_int_int_eq (by unfold lim; omega)
    have hw : wr (len (s.1 ++ [ResStep.mk c (-1) i 0]) - 1) = len s.1 := by rw [len_eq, len_eq, List.length_append, List.length_singleton, wr_of _ (by omega) (by omega)]; omega
    refine ⟨mput m i (len s.1), ?_, ?_⟩
    · simp only [cond_false, Option.isSome_none, Bool.not_false, cond_true, g1, bd_some, hcl2, ha, hw, hc, ai_set h0 hal2]
    · simp only [cond_false]
      exact hm.put h0 hal2 (by rw [len_eq]; exact Int.natCast_nonneg _)
theorem isC_uniq {V : Int} {c : List Int} (h : IsC V c) {a b : Int} (ha : a ∈ c) (hb : b ∈ c) (e : a.natAbs = b.natAbs) : a = b := by
  obtain ⟨i, hi, rfl⟩ := List.mem_iff_getElem.1 ha
  obtain ⟨j, hj, rfl⟩ := List.mem_iff_getElem.1 hb
  have := List.pairwise_iff_getElem.1 h.srt
  rcases Nat.lt_trichotomy i j with hij | hij | hij
  · have := this i j hi hj hij; omega
  · subst hij; rfl
  · have := this j i hj hi hij; omega
theorem has_sign {V : Int} {c : List Int} (hc : IsC V c) {l : Int} (hl : -V ≤ l ∧ l ≤ V ∧ l ≠ 0) (h : c.contains (wr (-l)) = true) : c.contains (vr l) = decide (l < 0) := by
  have hv := hc.hi
  have hw : wr (-l) = -l := wr_of _ (by omega) (by omega)
  have hm : -l ∈ c := by rw [hw] at h; simpa using h
  by_cases h0 : l < 0
  · have : vr l = -l := by unfold vr; rw [decide_eq_true h0]; exact hw
    rw [this, decide_eq_true h0]; simpa using hm
  · have : vr l = l := by unfold vr; rw [decide_eq_false h0]; rfl
    rw [this, decide_eq_false h0]
    cases hc2 : c.contains l with
    | false => rfl
    | true =>
      have := isC_uniq hc hm (by simpa using hc2) (by omega)
      omega
theorem useM_eq (F : Cnf) (s : (List ResStep × List Int) × Int) (u : l11Use) : useM F s u = (((axM F u.reason s.1).1 ++ [bif !(clA (axM F u.reason s.1).1 s.2).contains u.v then ⟨u.clause, ai (axM F u.reason s.1).2 u.reason, s.2, u.v⟩ else ⟨u.clause, s.2, ai (axM F u.reason s.1).2 u.reason, u.v⟩], (axM F u.reason s.1).2), len (axM F u.reason s.1).1) := rfl
theorem forB_inv {S α X : Type} {xs : List α} {body : α → Nat → S → Option (Lp S X)} (I : Nat → S → Prop) {s0 : S} (h0 : I xs.length s0)
    (h : ∀ (i : Nat) x s, xs[i]? = some x → I (i + 1) s → ∃ s', body x i s = some (.nx s') ∧ I i s') : ∃ s, forB xs body s0 = some (.go s) ∧ I 0 s := by
  have key : ∀ (k j : Nat) (s : S), k ≤ xs.length → I k s → ∃ s', forLFrom (fun _ p s => body p.1 p.2 s) (xs.take k).zipIdx.reverse j s = some (.go s') ∧ I 0 s' := by
    intro k
    induction k with
    | zero => intro j s _ hI; exact ⟨s, rfl, hI⟩
    | succ k ih =>
      intro j s hk hI
      obtain ⟨x, hx⟩ : ∃ x, xs[k]? = some x := ⟨_, List.getElem?_eq_getElem (by omega)⟩
      obtain ⟨s', h1, h2⟩ := h k x s hx hI
      rw [take_rev hx, forLFrom_nx h1]
      exact ih _ _ (by omega) h2
  have := key xs.length 0 s0 (Nat.le_refl _) h0
  rwa [List.take_length] at this
def anAt (K : List (List Int)) (c0 : List Int) (t : List (Int × Int)) (i : Nat) : List l11Use × List Int := (t.zipIdx.drop i).reverse.foldl (anS K) ([], c0)
theorem anAt_step {K : List (List Int)} {c0 : List Int} {t : List (Int × Int)} {i : Nat} {q : Int × Int} (hq : t[i]? = some q) : anAt K c0 t i = anS K (anAt K c0 t (i + 1)) (q, i) := by
  unfold anAt
  rw [drop_zip hq, List.reverse_cons, List.foldl_append]; rfl
structure Sim (F : Cnf) (ls : List (List Int)) (k n : Nat) (r0 : (List ResStep × List Int) × Int) (i : Nat) (an : List l11Use × List Int) (m : List (Int × Int)) : Prop where
  us : UsOk F ls k (n + 2 * an.1.length) (an.1.foldl (useM F) r0)
  c : IsC F.vars an.2
  cl : clA (an.1.foldl (useM F) r0).1.1 (an.1.foldl (useM F) r0).2 = an.2
  mr : MR (an.1.foldl (useM F) r0).1.2 m
  l : an.1.length + i ≤ (trl F ls k).1.length
theorem impl_use_loop {F : Cnf} {ls : List (List Int)} (hL : LOk F ls) (hg : learnB F ls = true) {k n : Nat} (hk : k < ls.length) (hn : n ≤ 900) {r0 : (List ResStep × List Int) × Int} (h0 : UsOk F ls k n r0) {m : List (Int × Int)} (hm : MR r0.1.2 m)
    (hc0 : clA r0.1.1 r0.2 = kAt (lk F ls k) (cfl F ls k)) {f : Int × Int → Nat → ((List ResStep) × (List Int) × Int × (List Int) × Int × (List (List Int)) × (List (Int × Int))) → Option (Lp ((List ResStep) × (List Int) × Int × (List Int) × Int × (List (List Int)) × (List (Int × Int))) Empty)}
    (hf : ∀ y j S c now B m, f y j (S, c, now, B, F.vars, F.clauses, m) = bd (PF.slices_Contains_int_int c (wr (-y.1))) (fun r34 => (bif (!r34) then some (Lp.nx (S, c, now, B, F.vars, F.clauses, m)) else (bif (decide (0 < y.1)) then bd (ix (lk F ls k) y.2) (fun x35 => bd (PF.impl_resolve x35 c y.1) (fun r36 => bd (β := _) (bd (β := _) ((bif (!((mget m y.2).isSome)) then bd (ix F.clauses y.2) (fun x44 => bd (PF.slices_Clone_int_int x44) (fun r46 => bd (β := _) (bd (app S [(ResStep.mk r46 (-1) y.2 0)]) (fun xs49 => some (xs49, B, F.vars, F.clauses, (wr ((len xs49) - 1)))) : Option ((List ResStep) × (List Int) × Int × (List (List Int)) × Int)) (fun s48 => some (s48.1, s48.2.1, s48.2.2.1, s48.2.2.2.1, (mput m y.2 s48.2.2.2.2), s48.2.2.2.2)))) else some (S, B, F.vars, F.clauses, m, ((mget m y.2).getD 0))) : Option ((List ResStep) × (List Int) × Int × (List (List Int)) × (List (Int × Int)) × Int)) (fun s41 => bdR (S := (Int × Int)) (X := Empty) ((bif (decide (y.1 < 0)) then some (Rs.go (now, s41.2.2.2.2.2)) else some (Rs.go (s41.2.2.2.2.2, now)))) (fun s38 => bd (PF.slices_Clone_int_int r36.1) (fun r40 => bd (β := _) (bd (app s41.1 [(ResStep.mk r40 s38.1 s38.2 (PF.impl_abs y.1))]) (fun xs47 => some (xs47, s41.2.1, s41.2.2.1, s41.2.2.2.1, (wr ((len xs47) - 1)))) : Option ((List ResStep) × (List Int) × Int × (List (List Int)) × Int)) (fun s45 => some (s45.1, s45.2.2.2.2, s45.2.1, s45.2.2.1, s45.2.2.2.1, s41.2.2.2.2.1)))) (fun x39 => nomatch x39)) : Option ((List ResStep) × Int × (List Int) × Int × (List (List Int)) × (List (Int × Int)))) (fun s37 => some (Lp.nx (s37.1, r36.1, s37.2.1, s37.2.2.1, s37.2.2.2.1, s37.2.2.2.2.1, s37.2.2.2.2.2))))) else bd (ix (lk F ls k) y.2) (fun x42 => bd (PF.impl_resolve c x42 (wr (-y.1))) (fun r43 => bd (β := _) (bd (β := _) ((bif (!((mget m y.2).isSome)) then bd (ix F.clauses y.2) (fun x56 => bd (PF.slices_Clone_int_int x56) (fun r60 => bd (β := _) (bd (app S [(ResStep.mk r60 (-1) y.2 0)]) (fun xs66 => some (xs66, B, F.vars, F.clauses, (wr ((len xs66) - 1)))) : Option ((List ResStep) × (List Int) × Int × (List (List Int)) × Int)) (fun s65 => some (s65.1, s65.2.1, s65.2.2.1, s65.2.2.2.1, (mput m y.2 s65.2.2.2.2), s65.2.2.2.2)))) else some (S, B, F.vars, F.clauses, m, ((mget m y.2).getD 0))) : Option ((List ResStep) × (List Int) × Int × (List (List Int)) × (List (Int × Int)) × Int)) (fun s54 => bdR (S := (Int × Int)) (X := Empty) ((bif (decide (y.1 < 0)) then some (Rs.go (now, s54.2.2.2.2.2)) else some (Rs.go (s54.2.2.2.2.2, now)))) (fun s51 => bd (PF.slices_Clone_int_int r43.1) (fun r53 => bd (β := _) (bd (app s54.1 [(ResStep.mk r53 s51.1 s51.2 (PF.impl_abs y.1))]) (fun xs63 => some (xs63, s54.2.1, s54.2.2.1, s54.2.2.2.1, (wr ((len xs63) - 1)))) : Option ((List ResStep) × (List Int) × Int × (List (List Int)) × Int)) (fun s59 => some (s59.1, s59.2.2.2.2, s59.2.1, s59.2.2.1, s59.2.2.2.1, s54.2.2.2.2.1)))) (fun x52 => nomatch x52)) : Option ((List ResStep) × Int × (List Int) × Int × (List (List Int)) × (List (Int × Int)))) (fun s50 => some (Lp.nx (s50.1, r43.1, s50.2.1, s50.2.2.1, s50.2.2.2.1, s50.2.2.2.2.1, s50.2.2.2.2.2))))))))) {B : List Int} :
    ∃ m', forB (trl F ls k).1 f (r0.1.1, kAt (lk F ls k) (cfl F ls k), r0.2, B, F.vars, F.clauses, m) = some (.go (((anF F ls k).1.foldl (useM F) r0).1.1, (anF F ls k).2, ((anF F ls k).1.foldl (useM F) r0).2, B, F.vars, F.clauses, m')) ∧ Sim F ls k n r0 0 (anF F ls k) m' := by
  have hA := an_ok hL hg hk
  obtain ⟨mm, z1, z2, z3, z4⟩ := hA.z
  have hK := hL.k k
  have htl := hA.t.len
  obtain ⟨s, hs1, m', rfl, hs2⟩ := forB_inv (xs := (trl F ls k).1) (body := f) (s0 := (r0.1.1, kAt (lk F ls k) (cfl F ls k), r0.2, B, F.vars, F.clauses, m))
    (fun i s => ∃ m, s = (((anAt (lk F ls k) (kAt (lk F ls k) (cfl F ls k)) (trl F ls k).1 i).1.foldl (useM F) r0).1.1, (anAt (lk F ls k) (kAt (lk F ls k) (cfl F ls k)) (trl F ls k).1 i).2, ((anAt (lk F ls k) (kAt (lk F ls k) (cfl F ls k)) (trl F ls k).1 i).1.foldl (useM F) r0).2, B, F.vars, F.clauses, m) ∧ Sim F ls k n r0 i (anAt (lk F ls k) (kAt (lk F ls k) (cfl F ls k)) (trl F ls k).1 i) m)
    (by
      have e : anAt (lk F ls k) (kAt (lk F ls k) (cfl F ls k)) (trl F ls k).1 (trl F ls k).1.length = ([], kAt (lk F ls k) (cfl F ls k)) := by unfold anAt; rw [List.drop_of_length_le (by simp)]; rfl
      rw [e]
      exact ⟨m, rfl, h0, z4, hc0, hm, by simp⟩)
    (fun i q s hq ⟨m, e, hS⟩ => by
      subst e
      rw [anAt_step hq]
      generalize anAt (lk F ls k) (kAt (lk F ls k) (cfl F ls k)) (trl F ls k).1 (i + 1) = an at hS ⊢
      have hmq := List.mem_of_getElem? hq
      obtain ⟨k1, k2⟩ := hA.t.at hK hmq
      obtain ⟨b1, c, b2, b3, _⟩ := hA.t.q q hmq
      have hr := rsv_isC hA.t hK hS.c hmq
      have hsl := hS.l
      rw [lk_len (Nat.le_of_lt hk)] at b3
      rw [hf, slices_Contains_int_int_eq, bd_some]
      unfold anS
      simp only
      cases hcn : an.2.contains (wr (-q.1)) with
      | false => exact ⟨_, rfl, m, rfl, hS.us, hS.c, hS.cl, hS.mr, by show an.1.length + i ≤ _; omega⟩
      | true =>
        have hsg := has_sign hS.c b1 hcn
        have hvi := hS.c.hi; have hcl := hr.len
        have hU := hS.us
        have hnx := useM_ok hL hU (Nat.le_of_lt hk) (u := ⟨q.2, vr q.1, rsv (lk F ls k) an.2 q⟩) b2 b3 hr
        have hX := axM_ok hL hU.li (Nat.le_of_lt hk) b2 b3
        obtain ⟨T, hT⟩ := hX.pre
        obtain ⟨m', p1, p2⟩ := impl_step hL hU.li (by omega) (Nat.le_of_lt hk) hS.mr b2 b3 (B := B) (V := F.vars)
        have hxl := hX.li.l
        have hcS : clA (axM F q.2 (an.1.foldl (useM F) r0).1).1 (an.1.foldl (useM F) r0).2 = an.2 := by rw [hT, clA_app hU.lo hU.hi]; exact hS.cl
        have hab : impl_abs q.1 = vr q.1 := impl_abs_eq (by unfold okI; omega)
        have hcp : slices_Clone_int_int (rsv (lk F ls k) an.2 q) = some (rsv (lk F ls k) an.2 q) := slices_Clone_int_int_eq (by unfold lim; omega)
        have hap : ∀ w, app (axM F q.2 (an.1.foldl (useM F) r0).1).1 [w] = some ((axM F q.2 (an.1.foldl (useM F) r0).1).1 ++ [w]) := fun w => app_ok (by simp; unfold lim; omega)
        have hw : ∀ w, wr (len ((axM F q.2 (an.1.foldl (useM F) r0).1).1 ++ [w]) - 1) = len (axM F q.2 (an.1.foldl (useM F) r0).1).1 := fun w => by rw [len_eq, len_eq, List.length_append, List.length_singleton, wr_of _ (by omega) (by omega)]; omega
        have hres : ∀ {w : ResStep}, w.clause = rsv (lk F ls k) an.2 q → (useM F (an.1.foldl (useM F) r0) ⟨q.2, vr q.1, rsv (lk F ls k) an.2 q⟩) = (((axM F q.2 (an.1.foldl (useM F) r0).1).1 ++ [w], (axM F q.2 (an.1.foldl (useM F) r0).1).2), len (axM F q.2 (an.1.foldl (useM F) r0).1).1) →
            Sim F ls k n r0 i (an.1 ++ [⟨q.2, vr q.1, rsv (lk F ls k) an.2 q⟩], rsv (lk F ls k) an.2 q) m' := fun {w} hwc he => by
          refine ⟨?_, hr, ?_, ?_, by simp; omega⟩
          · rw [List.foldl_append, List.length_append, List.length_singleton, show n + 2 * (an.1.length + 1) = n + 2 * an.1.length + 2 by omega]; exact hnx
          · rw [List.foldl_append]
            show clA (useM F (an.1.foldl (useM F) r0) _).1.1 (useM F (an.1.foldl (useM F) r0) _).2 = _
            rw [he]
            show clA (_ ++ [w]) (len _) = _
            rw [clA_last, hwc]
          · rw [List.foldl_append]
            show MR (useM F (an.1.foldl (useM F) r0) _).1.2 m'
            rw [he]; exact p2
        have hfold : ∀ u, (an.1 ++ [u]).foldl (useM F) r0 = useM F (an.1.foldl (useM F) r0) u := fun u => by rw [List.foldl_append]; rfl
        simp only [Bool.not_true, cond_false]
        by_cases hq0 : q.1 < 0
        · have hu : (useM F (an.1.foldl (useM F) r0) ⟨q.2, vr q.1, rsv (lk F ls k) an.2 q⟩) = (((axM F q.2 (an.1.foldl (useM F) r0).1).1 ++ [⟨rsv (lk F ls k) an.2 q, (an.1.foldl (useM F) r0).2, ai (axM F q.2 (an.1.foldl (useM F) r0).1).2 q.2, vr q.1⟩], (axM F q.2 (an.1.foldl (useM F) r0).1).2), len (axM F q.2 (an.1.foldl (useM F) r0).1).1) := by
            rw [useM_eq]
            simp only [hcS, hsg, decide_eq_true hq0, Bool.not_true, cond_false]
          refine ⟨_, ?_, m', rfl, hres rfl hu⟩
          have hrs : impl_resolve an.2 (kAt (lk F ls k) q.2) (wr (-q.1)) = some (res an.2 (kAt (lk F ls k) q.2) (wr (-q.1))) := impl_resolve_eq hS.c k2
          have hrv : (res an.2 (kAt (lk F ls k) q.2) (wr (-q.1))).1 = rsv (lk F ls k) an.2 q := by unfold rsv; rw [decide_eq_true hq0]; rfl
          rw [decide_eq_false (show ¬ 0 < q.1 by omega), cond_false, k1, bd_some, hrs, bd_some, p1, bd_some, hfold, hu]
          simp only [decide_eq_true hq0, cond_true, bdR_go, hrv, hcp, bd_some, hab, hap, hw]
        · have hu : (useM F (an.1.foldl (useM F) r0) ⟨q.2, vr q.1, rsv (lk F ls k) an.2 q⟩) = (((axM F q.2 (an.1.foldl (useM F) r0).1).1 ++ [⟨rsv (lk F ls k) an.2 q, ai (axM F q.2 (an.1.foldl (useM F) r0).1).2 q.2, (an.1.foldl (useM F) r0).2, vr q.1⟩], (axM F q.2 (an.1.foldl (useM F) r0).1).2), len (axM F q.2 (an.1.foldl (useM F) r0).1).1) := by
            rw [useM_eq]
            simp only [hcS, hsg, decide_eq_false hq0, Bool.not_false, cond_true]
          refine ⟨_, ?_, m', rfl, hres rfl hu⟩
          have hrs : impl_resolve (kAt (lk F ls k) q.2) an.2 q.1 = some (res (kAt (lk F ls k) q.2) an.2 q.1) := impl_resolve_eq k2 hS.c
          have hrv : (res (kAt (lk F ls k) q.2) an.2 q.1).1 = rsv (lk F ls k) an.2 q := by unfold rsv; rw [decide_eq_false hq0]; rfl
          rw [decide_eq_true (show 0 < q.1 by omega), cond_true, k1, bd_some, hrs, bd_some, p1, bd_some, hfold, hu]
          simp only [decide_eq_false hq0, cond_false, bdR_go, hrv, hcp, bd_some, hab, hap, hw])
  have e0 : anAt (lk F ls k) (kAt (lk F ls k) (cfl F ls k)) (trl F ls k).1 0 = anF F ls k := rfl
  rw [e0] at hs1 hs2
  exact ⟨m', hs1, hs2⟩
end Go.PF
namespace Go.PF
open Go.Pu
structure CI (F : Cnf) (ls : List (List Int)) (s : List ResStep × List Int) : Prop where
  g : ∀ (i : Nat) x, s.2[i]? = some x → 0 ≤ x → clA s.1 x = kAt (F.clauses ++ ls) (i : Int)
theorem CI.push {F : Cnf} {ls : List (List Int)} {k n : Nat} {s : List ResStep × List Int} (h : CI F ls s) (hI : LI F ls k n s) {T : List ResStep} : CI F ls (s.1 ++ T, s.2) := by
  refine ⟨fun i x hx h0 => ?_⟩
  have ha := hI.a i x hx
  show clA (s.1 ++ T) x = _
  rw [clA_app h0 (by omega)]; exact h.g i x hx h0
theorem CI.put {F : Cnf} {ls : List (List Int)} {s : List ResStep × List Int} (h : CI F ls s) {i : Nat} {x : Int} (hc : clA s.1 x = kAt (F.clauses ++ ls) (i : Int)) : CI F ls (s.1, s.2.set i x) := by
  refine ⟨fun j y hy h0 => ?_⟩
  rw [List.getElem?_set] at hy
  split at hy
  · rename_i e
    subst e
    split at hy
    · cases hy; exact hc
    · cases hy
  · exact h.g j y hy h0
theorem axM_ci {F : Cnf} {ls : List (List Int)} {k n : Nat} {s : List ResStep × List Int} (hI : LI F ls k n s) (h : CI F ls s) (hk : k ≤ ls.length) {i : Int} (h0 : 0 ≤ i) (h1 : i < F.clauses.length + k) : CI F ls (axM F i s) := by
  have hal := hI.al
  obtain ⟨e1, e2⟩ := ai_at (A := s.2) h0 (by omega)
  unfold axM
  cases hd : decide (0 ≤ ai s.2 i) with
  | true => exact h
  | false =>
    simp only [decide_eq_false_iff_not] at hd
    have hif : i < F.clauses.length := by
      rcases Int.lt_or_le i F.clauses.length with h | h2
      · exact h
      · obtain ⟨x, g1, g2⟩ := hI.d i.toNat (by omega) (by omega)
        rw [e2] at g1; cases g1; omega
    have hp := h.push hI (T := [⟨kAt F.clauses i, -1, i, 0⟩])
    refine hp.put (i := i.toNat) (x := len s.1) ?_
    rw [clA_last]
    show kAt F.clauses i = _
    unfold kAt ix
    rw [if_pos h0, if_pos (by omega), Int.toNat_natCast, List.getElem?_append_left (by omega)]
theorem useM_ci {F : Cnf} {ls : List (List Int)} (hL : LOk F ls) {k n : Nat} {r : (List ResStep × List Int) × Int} (h : UsOk F ls k n r) (hc : CI F ls r.1) (hk : k ≤ ls.length) {u : l11Use} (h0 : 0 ≤ u.reason) (h1 : u.reason < F.clauses.length + k) : CI F ls (useM F r u).1 :=
  (axM_ci h.li hc hk h0 h1).push (axM_ok hL h.li hk h0 h1).li
theorem fold_ci {F : Cnf} {ls : List (List Int)} (hL : LOk F ls) {k : Nat} (hk : k ≤ ls.length) : ∀ {us : List l11Use} {n : Nat} {r : (List ResStep × List Int) × Int}, (∀ u ∈ us, UOk F.vars (F.clauses.length + k) u) → UsOk F ls k n r → CI F ls r.1 → CI F ls (us.foldl (useM F) r).1 := by
  intro us
  induction us with
  | nil => intro n r _ _ h; exact h
  | cons u us ih =>
    intro n r hu h hc
    obtain ⟨u1, u2, u3⟩ := hu u (by simp)
    rw [List.foldl_cons]
    exact ih (fun v hv => hu v (by simp [hv])) (useM_ok hL h hk u1 (by omega) u3) (useM_ci hL h hc hk u1 (by omega))
theorem kAt_ls {F : Cnf} {ls : List (List Int)} {k : Nat} {y : List Int} (hy : ls[k]? = some y) : kAt (F.clauses ++ ls) ((F.clauses.length + k : Nat) : Int) = y := by
  unfold kAt
  rw [ix_get, List.getElem?_append_right (by omega), show F.clauses.length + k - F.clauses.length = k by omega, hy]; rfl
theorem endM_ci {F : Cnf} {ls : List (List Int)} {k n : Nat} {r : (List ResStep × List Int) × Int} (h : UsOk F ls k n r) (hc : CI F ls r.1) {y : List Int} (hy : ls[k]? = some y) : CI F ls (endM F y k r) := by
  unfold endM
  cases he : clA r.1.1 r.2 == y with
  | false => exact (hc.push h.li (T := [⟨y, r.2, -1, 0⟩])).put (by rw [clA_last, kAt_ls hy])
  | true => exact hc.put (by rw [kAt_ls hy]; exact beq_iff_eq.1 he)
theorem kAt_lk {F : Cnf} {ls : List (List Int)} {k n : Nat} (hn : n < (lk F ls k).length) : kAt (F.clauses ++ ls) (n : Int) = kAt (lk F ls k) (n : Int) := by
  have := lk_ix hn
  unfold kAt
  rw [← this]
  unfold lk
  rw [List.take_length]
theorem begM_cl {F : Cnf} {ls : List (List Int)} (hL : LOk F ls) (hg : learnB F ls = true) {k n : Nat} {s : List ResStep × List Int} (h : LI F ls k n s) (hc : CI F ls s) (hk : k < ls.length) : CI F ls (begM F ls k s).1 ∧ clA (begM F ls k s).1.1 (begM F ls k s).2 = kAt (lk F ls k) (cfl F ls k) := by
  obtain ⟨m, z1, z2, _⟩ := (an_ok hL hg hk).z
  have z3 := z2
  rw [lk_len (by omega)] at z2
  have hA := axM_ok hL h (Nat.le_of_lt hk) (i := cfl F ls k) (by omega) (by omega)
  have hC := axM_ci h hc (Nat.le_of_lt hk) (i := cfl F ls k) (by omega) (by omega)
  have hal := hA.li.al
  obtain ⟨a1, a2⟩ := ai_at (A := (axM F (cfl F ls k) s).2) (i := cfl F ls k) (by omega) (by omega)
  refine ⟨hC, ?_⟩
  have := hC.g _ _ a2 hA.lo
  rw [show (((cfl F ls k).toNat : Nat) : Int) = ((m : Nat) : Int) by omega, kAt_lk z3, ← z1] at this
  exact this
theorem wr_sumlen {α β : Type} {xs : List α} {ys : List β} (h : xs.length + ys.length ≤ 1000) (h0 : 0 < xs.length + ys.length) : wr ((wr ((len xs) + (len ys))) - 1) = ((xs.length + ys.length - 1 : Nat) : Int) := by
  have e : wr ((len xs) + (len ys)) = ((xs.length + ys.length : Nat) : Int) := by rw [len_eq, len_eq, wr_of _ (by omega) (by omega)]; omega
  rw [e]; clear e
  rw [wr_of _ (by omega) (by omega)]; omega
theorem bdR_learn {β : Type} {F : Cnf} {ls : List (List Int)} (hL : LOk F ls) (hg : learnB F ls = true) {f : Nat → List Int → ((List ResStep) × (List Int) × Int × (List (List Int)) × (List (Int × Int))) → Option (Lp ((List ResStep) × (List Int) × Int × (List (List Int)) × (List (Int × Int))) ((List ResStep) × Bool))}
    {g : ((List ResStep) × (List Int) × Int × (List (List Int)) × (List (Int × Int))) → Option β} {h : ((List ResStep) × Bool) → Option β} {r : Option β}
    (hf : ∀ (k : Nat) y s m, ls[k]? = some y → LI F ls k 200 s → CI F ls s → MR s.2 m → ∃ m', f k y (s.1, [], F.vars, F.clauses, m) = (bif decide (200 < len (learnM F ls y k s).1) then some (.rt ([], false)) else some (.nx ((learnM F ls y k s).1, [], F.vars, F.clauses, m'))) ∧ MR (learnM F ls y k s).2 m')
    (hr : 200 < len (runM F ls).1 → h ([], false) = r) (hgo : ∀ m, ¬ 200 < len (runM F ls).1 → MR (runM F ls).2 m → g ((runM F ls).1, [], F.vars, F.clauses, m) = r) : bdR (forL ls f ([], [], F.vars, F.clauses, [])) g h = r := by
  have key : ∀ (n k : Nat) (s : List ResStep × List Int) m, k + n = ls.length → LI F ls k 200 s → CI F ls s → MR s.2 m →
      (200 < len ((ls.zipIdx.drop k).foldl (lrn F ls) s).1 ∧ forLFrom f (ls.drop k) k (s.1, [], F.vars, F.clauses, m) = some (.rt ([], false))) ∨
      (¬ 200 < len ((ls.zipIdx.drop k).foldl (lrn F ls) s).1 ∧ ∃ m', forLFrom f (ls.drop k) k (s.1, [], F.vars, F.clauses, m) = some (.go (((ls.zipIdx.drop k).foldl (lrn F ls) s).1, [], F.vars, F.clauses, m')) ∧ MR ((ls.zipIdx.drop k).foldl (lrn F ls) s).2 m') := by
    intro n
    induction n with
    | zero =>
      intro k s m hk hs hc hm
      rw [List.drop_of_length_le (by simp; omega), List.drop_of_length_le (by omega)]
      have := hs.l
      exact .inr ⟨by rw [List.foldl_nil, len_eq]; omega, m, rfl, hm⟩
    | succ n ih =>
      intro k s m hk hs hc hm
      obtain ⟨y, hy⟩ : ∃ y, ls[k]? = some y := ⟨_, List.getElem?_eq_getElem (by omega)⟩
      have hsl := hs.l
      obtain ⟨m', q1, q2⟩ := hf k y s m hy hs hc hm
      have hkl := (List.getElem?_eq_some_iff.1 hy)
      rw [drop_zip hy, List.foldl_cons, show lrn F ls s (y, k) = learnM F ls y k s by unfold lrn; rw [decide_eq_true (by rw [len_eq]; omega)]; rfl]
      have hd : ls.drop k = y :: ls.drop (k + 1) := by rw [List.drop_eq_getElem_cons hkl.1, hkl.2]
      rw [hd]
      by_cases h2 : 200 < len (learnM F ls y k s).1
      · rw [decide_eq_true h2, cond_true] at q1
        rw [lrn_stuck (by omega)]
        refine .inl ⟨h2, ?_⟩
        unfold forLFrom
        rw [q1]
      · rw [decide_eq_false h2, cond_false] at q1
        rw [forLFrom_nx q1]
        have hl := learnM_ok hL hg hs hy
        rw [len_eq] at h2
        have hl2 : LI F ls (k + 1) 200 (learnM F ls y k s) := ⟨hl.al, hl.a, hl.d, hl.w, hl.nums, by omega⟩
        obtain ⟨u1, u2⟩ := anF_use hL hg hkl.1
        have hb := begM_ok hL hg hs hkl.1
        have hci : CI F ls (learnM F ls y k s) := endM_ci (fold_use hL (Nat.le_of_lt hkl.1) u1 hb) (fold_ci hL (Nat.le_of_lt hkl.1) u1 hb (begM_cl hL hg hs hc hkl.1).1) hy
        exact ih (k + 1) _ m' (by omega) hl2 hci q2
  have h0 : CI F ls ([], List.replicate (F.clauses.length + ls.length) (-1)) := ⟨fun i x hx h0 => by
    rw [List.getElem?_replicate] at hx
    split at hx
    · cases hx; omega
    · cases hx⟩
  have hm0 : MR (([], List.replicate (F.clauses.length + ls.length) (-1)) : List ResStep × List Int).2 [] := ⟨fun i i0 i1 => by
    have : ai (List.replicate (F.clauses.length + ls.length) (-1)) i = -1 := by
      unfold ai ix
      simp only [List.length_replicate] at i1
      rw [if_pos i0, List.getElem?_replicate, if_pos (by omega)]; rfl
    rw [this]; rfl⟩
  rcases key ls.length 0 ([], List.replicate (F.clauses.length + ls.length) (-1)) [] (by omega) (li0.le (by omega)) h0 hm0 with ⟨k1, k2⟩ | ⟨k1, m', k2, k3⟩
  · rw [List.drop_zero] at k1 k2
    show bdR (forLFrom f ls 0 _) g h = r
    rw [k2, bdR_rt]; exact hr k1
  · rw [List.drop_zero] at k1 k2 k3
    rw [List.drop_zero] at k2
    show bdR (forLFrom f ls 0 _) g h = r
    rw [k2, bdR_go]; exact hgo m' k1 k3
noncomputable def useBody (F : Cnf) (ls : List (List Int)) (k : Nat) : Int × Int → Nat → ((List ResStep) × (List Int) × Int × (List Int) × Int × (List (List Int)) × (List (Int × Int))) → Option (Lp ((List ResStep) × (List Int) × Int × (List Int) × Int × (List (List Int)) × (List (Int × Int))) Empty) :=
  (fun y33 j33 s33 => bd (PF.slices_Contains_int_int s33.2.1 (wr (-y33.1))) (fun r34 => (bif (!r34) then some (Lp.nx (s33.1, s33.2.1, s33.2.2.1, s33.2.2.2.1, s33.2.2.2.2.1, s33.2.2.2.2.2.1, s33.2.2.2.2.2.2)) else (bif (decide (0 < y33.1)) then bd (ix (lk F ls k) y33.2) (fun x35 => bd (PF.impl_resolve x35 s33.2.1 y33.1) (fun r36 => bd (β := _) (bd (β := _) ((bif (!((mget s33.2.2.2.2.2.2 y33.2).isSome)) then bd (ix s33.2.2.2.2.2.1 y33.2) (fun x44 => bd (PF.slices_Clone_int_int x44) (fun r46 => bd (β := _) (bd (app s33.1 [(ResStep.mk r46 (-1) y33.2 0)]) (fun xs49 => some (xs49, s33.2.2.2.1, s33.2.2.2.2.1, s33.2.2.2.2.2.1, (wr ((len xs49) - 1)))) : Option ((List ResStep) × (List Int) × Int × (List (List Int)) × Int)) (fun s48 => some (s48.1, s48.2.1, s48.2.2.1, s48.2.2.2.1, (mput s33.2.2.2.2.2.2 y33.2 s48.2.2.2.2), s48.2.2.2.2)))) else some (s33.1, s33.2.2.2.1, s33.2.2.2.2.1, s33.2.2.2.2.2.1, s33.2.2.2.2.2.2, ((mget s33.2.2.2.2.2.2 y33.2).getD 0))) : Option ((List ResStep) × (List Int) × Int × (List (List Int)) × (List (Int × Int)) × Int)) (fun s41 => bdR (S := (Int × Int)) (X := Empty) ((bif (decide (y33.1 < 0)) then some (Rs.go (s33.2.2.1, s41.2.2.2.2.2)) else some (Rs.go (s41.2.2.2.2.2, s33.2.2.1)))) (fun s38 => bd (PF.slices_Clone_int_int r36.1) (fun r40 => bd (β := _) (bd (app s41.1 [(ResStep.mk r40 s38.1 s38.2 (PF.impl_abs y33.1))]) (fun xs47 => some (xs47, s41.2.1, s41.2.2.1, s41.2.2.2.1, (wr ((len xs47) - 1)))) : Option ((List ResStep) × (List Int) × Int × (List (List Int)) × Int)) (fun s45 => some (s45.1, s45.2.2.2.2, s45.2.1, s45.2.2.1, s45.2.2.2.1, s41.2.2.2.2.1)))) (fun x39 => nomatch x39)) : Option ((List ResStep) × Int × (List Int) × Int × (List (List Int)) × (List (Int × Int)))) (fun s37 => some (Lp.nx (s37.1, r36.1, s37.2.1, s37.2.2.1, s37.2.2.2.1, s37.2.2.2.2.1, s37.2.2.2.2.2))))) else bd (ix (lk F ls k) y33.2) (fun x42 => bd (PF.impl_resolve s33.2.1 x42 (wr (-y33.1))) (fun r43 => bd (β := _) (bd (β := _) ((bif (!((mget s33.2.2.2.2.2.2 y33.2).isSome)) then bd (ix s33.2.2.2.2.2.1 y33.2) (fun x56 => bd (PF.slices_Clone_int_int x56) (fun r60 => bd (β := _) (bd (app s33.1 [(ResStep.mk r60 (-1) y33.2 0)]) (fun xs66 => some (xs66, s33.2.2.2.1, s33.2.2.2.2.1, s33.2.2.2.2.2.1, (wr ((len xs66) - 1)))) : Option ((List ResStep) × (List Int) × Int × (List (List Int)) × Int)) (fun s65 => some (s65.1, s65.2.1, s65.2.2.1, s65.2.2.2.1, (mput s33.2.2.2.2.2.2 y33.2 s65.2.2.2.2), s65.2.2.2.2)))) else some (s33.1, s33.2.2.2.1, s33.2.2.2.2.1, s33.2.2.2.2.2.1, s33.2.2.2.2.2.2, ((mget s33.2.2.2.2.2.2 y33.2).getD 0))) : Option ((List ResStep) × (List Int) × Int × (List (List Int)) × (List (Int × Int)) × Int)) (fun s54 => bdR (S := (Int × Int)) (X := Empty) ((bif (decide (y33.1 < 0)) then some (Rs.go (s33.2.2.1, s54.2.2.2.2.2)) else some (Rs.go (s54.2.2.2.2.2, s33.2.2.1)))) (fun s51 => bd (PF.slices_Clone_int_int r43.1) (fun r53 => bd (β := _) (bd (app s54.1 [(ResStep.mk r53 s51.1 s51.2 (PF.impl_abs y33.1))]) (fun xs63 => some (xs63, s54.2.1, s54.2.2.1, s54.2.2.2.1, (wr ((len xs63) - 1)))) : Option ((List ResStep) × (List Int) × Int × (List (List Int)) × Int)) (fun s59 => some (s59.1, s59.2.2.2.2, s59.2.1, s59.2.2.1, s59.2.2.2.1, s54.2.2.2.2.1)))) (fun x52 => nomatch x52)) : Option ((List ResStep) × Int × (List Int) × Int × (List (List Int)) × (List (Int × Int)))) (fun s50 => some (Lp.nx (s50.1, r43.1, s50.2.1, s50.2.2.1, s50.2.2.2.1, s50.2.2.2.2.1, s50.2.2.2.2.2)))))))))
theorem impl_LearnedToProof_eq {F : Cnf} {ls : List (List Int)} (hF : okCnf F) (hl : okL (okL okI) ls) : impl_LearnedToProof F ls = some (proofR F ls) := by
  unfold impl_LearnedToProof proofR
  rw [impl_learned_eq hF hl, bd_some]
  cases hg : learnB F ls with
  | false => rfl
  | true =>
    cases h0 : (len ls == 0) with
    | true => rfl
    | false =>
      have h : LOk F ls := goodL_ok (by unfold learnB at hg; rw [Bool.and_eq_true] at hg; exact hg.1)
      have hfl := h.fl; have hll := h.ll
      have hpos : 0 < ls.length := by
        rcases Nat.eq_zero_or_pos ls.length with e | e
        · rw [len_eq, e] at h0; cases h0
        · exact e
      simp only [Bool.not_true, cond_false, Bool.or_false]
      refine bdR_learn h hg ?hf ?hr ?hgo
      case hr => intro h2; rw [decide_eq_true h2]; rfl
      case hgo =>
        intro m h2 hm
        have hs : (runM F ls).1.length ≤ 200 := by rw [len_eq] at h2; omega
        obtain ⟨l1, l2, l3⟩ := last_ok h hg hpos hs
        have hal := (run_li h hg).2
        have hmg := hm.g ((F.clauses.length + ls.length - 1 : Nat) : Int) (by omega) (by omega)
        have hsum : F.clauses.length + ls.length ≤ 1000 := by omega
        have hs1 : 0 < F.clauses.length + ls.length := by omega
        rw [decide_eq_false h2, cond_false]
        simp only
        rw [l1] at hmg
        rw [wr_sumlen hsum hs1, hmg, decide_eq_true (Int.natCast_nonneg _), cond_true, Option.getD_some, cut_lastM l2 hs, bd_some, impl_trimSteps_eqW l3, bd_some]
      case hf =>
        intro k y s m hy hs hc hm
        have hk := (List.getElem?_eq_some_iff.1 hy).1
        have hyc := (h.l y (List.mem_of_getElem? hy)).len
        obtain ⟨mm, z1, z2, z3, z4⟩ := (an_ok h hg hk).z
        rw [lk_len (Nat.le_of_lt hk)] at z2
        have hsl := hs.l; have hal := hs.al
        obtain ⟨m1, p1, p2⟩ := impl_step h hs (by omega) (Nat.le_of_lt hk) hm (i := cfl F ls k) (by omega) (by omega) (B := []) (V := F.vars)
        have hb := begM_ok h hg hs hk
        obtain ⟨hbc, hbl⟩ := begM_cl h hg hs hc hk
        have hlp := fun f hf => impl_use_loop (f := f) h hg hk (n := 201) (by omega) hb p2 hbl hf (B := [])
        have eF : Cnf.mk F.vars F.clauses = F := rfl
        simp only [eF]
        rw [impl_trail_eq h hg hk, bd_some]
        simp only
        rw [p1, bd_some]
        simp only [eF]
        rw [impl_before_eq h (Nat.le_of_lt hk), bd_some, impl_trail_eq h hg hk, bd_some]
        simp only
        rw [z3, bd_some]
        simp only [begM] at hlp
        obtain ⟨m2, q1, q2⟩ := hlp (useBody F ls k) (fun _ _ _ _ _ _ _ => by rfl)
        unfold useBody at q1
        erw [q1]
        rw [bdR_go]
        simp only [bd_some]
        have hU := q2.us; have hcl := q2.cl; have hmr := q2.mr; have hul := hU.li.l
        have hfk : F.clauses.length + k ≤ 1000 := by omega
        unfold learnM begM
        obtain ⟨u1, u2⟩ := anF_use h hg hk
        generalize (anF F ls k).1.foldl (useM F) (axM F (cfl F ls k) s, ai (axM F (cfl F ls k) s).2 (cfl F ls k)) = r at hU hcl hmr hul ⊢
        have hlo := hU.lo; have hhi := hU.hi; have hral := hU.li.al
        have hcp : slices_Clone_int_int y = some y := slices_Clone_int_int_eq (by unfold lim; omega)
        have ha2 : ∀ w, app r.1.1 [w] = some (r.1.1 ++ [w]) := fun w => app_ok (by simp; unfold lim; omega)
        have hfi : (0 : Int) ≤ ((F.clauses.length + k : Nat) : Int) := Int.natCast_nonneg _
        have hfj : ((F.clauses.length + k : Nat) : Int) < r.1.2.length := by omega
        have hw : ∀ w, wr (len (r.1.1 ++ [w]) - 1) = len r.1.1 := fun w => by rw [len_eq, len_eq, List.length_append, List.length_singleton, wr_of _ (by omega) (by omega)]; omega
        rw [slices_Equal_int_int_eq, bd_some, ← hcl]
        unfold endM
        cases !(clA r.1.1 r.2 == y) with
        | true =>
          simp only [cond_true, hcp, bd_some, ha2, bdR_go, hw, wr_addlen hfk]
          have hp := hmr.put (x := len r.1.1) hfi hfj (Int.natCast_nonneg _)
          rw [Int.toNat_natCast] at hp
          exact ⟨_, rfl, hp⟩
        | false =>
          simp only [cond_false, bdR_go, wr_addlen hfk]
          have hp := hmr.put (x := r.2) hfi hfj hlo
          rw [Int.toNat_natCast] at hp
          exact ⟨_, rfl, hp⟩
theorem proofR_small {F : Cnf} {ls : List (List Int)} : tot mResStep (proofR F ls).1 ≤ 100000 := by
  unfold proofR
  cases hg : learnB F ls with
  | false => simp [tot]
  | true =>
    cases h0 : (len ls == 0) with
    | true => simp [tot]
    | false =>
      have h : LOk F ls := goodL_ok (by unfold learnB at hg; rw [Bool.and_eq_true] at hg; exact hg.1)
      have hpos : 0 < ls.length := by
        rcases Nat.eq_zero_or_pos ls.length with e | e
        · rw [len_eq, e] at h0; cases h0
        · exact e
      simp only [Bool.not_true, Bool.or_false, cond_false]
      cases hd : decide (200 < len (runM F ls).1) with
      | true => simp [tot]
      | false =>
        have hs : (runM F ls).1.length ≤ 200 := by have := of_decide_eq_false hd; rw [len_eq] at this; omega
        obtain ⟨l1, l2, l3⟩ := last_ok h hg hpos hs
        have hSl := l3.le
        have hn := need_le (proofS F ls)
        simp only [cond_false]
        have := tot_leT (wt := mResStep) (n := 30) (l := trimL (proofS F ls) (need (proofS F ls))) fun y hy => by
          unfold trimL at hy
          obtain ⟨i, hi, he⟩ := List.mem_filterMap.1 hy
          unfold trimAt at he
          cases hx : (proofS F ls)[i]? with
          | none => rw [hx] at he; cases he
          | some x =>
            rw [hx] at he
            cases he
            have := (l3.clause (List.mem_of_getElem? hx)).len
            unfold mResStep; rw [trimX_clause]; omega
        have hl : (trimL (proofS F ls) (need (proofS F ls))).length ≤ (need (proofS F ls)).length := List.length_filterMap_le _ _
        omega
theorem plain_LearnedToProof (a0 : Cnf) (a1 : List (List Int)) (o0 : okCnf a0) (o1 : okL (okL okI) a1) : laws_FnExactLearnedToProof a0 a1 = some true := by
  unfold laws_FnExactLearnedToProof
  obtain ⟨r0, q0, z0⟩ := sz_Cnf o0 (s := 1048576) (by omega) (by omega)
  rw [q0, bd_some]
  by_cases n0 : r0 < 0
  · simp [n0]
  obtain ⟨r1, q1, z1⟩ := sz_IntSS o1 (s := r0) (by omega) (by omega)
  simp only [n0, decide_false, cond_false]
  rw [q1, bd_some]
  by_cases n1 : r1 < 0
  · simp [n1]
  simp only [n1, decide_false, cond_false]
  have t0 := to_Cnf (a := a0) (by unfold lim; omega)
  have t1 := to_IntSS (a := a1) (by unfold lim; omega)
  have hs := spec_LearnedToProof_eq o0 o1
  have hi := impl_LearnedToProof_eq o0 o1
  have hm := proofR_small (F := a0) (ls := a1)
  generalize proofR a0 a1 = g at hs hi hm
  have w0 : tot wIntS a0.clauses ≤ 1048576 := by unfold wCnf wIntSS at z0; omega
  have w1 : tot wIntS a1 ≤ 1048576 := by unfold wIntSS at z1; omega
  have m0 := mark_Cnf (a := a0) (k := 1) (by omega) (by unfold big; omega)
  have m1 := mark_IntSS (a := a1) (k := (laws_markCnf a0 1).2) (by omega) (by unfold big; omega)
  have mg := mark_ResStepS (a := g.1) (k := 1) (by omega) (by unfold big; omega)
  have hg := held_ResStepS (a := g.1) (k := 1) (by omega) (by unfold big; omega)
  have d1 : decide ((laws_markIntSS a1 (laws_markCnf a0 1).2).2 < 0) = false := by rw [decide_eq_false_iff_not]; omega
  have d2 : decide ((laws_markResStepS g.1 1).2 < 0) = false := by rw [decide_eq_false_iff_not]; omega
  simp only [t0, t1, hs, hi, hg, d1, d2, bd_some, eq_IntSS, eq_Cnf, eq_ResStepS, BEq.rfl, Bool.not_true, cond_false, bif_tt, Bool.or_false]
end Go.PF
