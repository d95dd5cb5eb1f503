/- IsTranslationOf: the law. -/
import Derived.Test.YtjpjbfbloplacaaGreatItPlPd
set_option linter.unusedVariables false
namespace Go.PF
open Go.Pu
theorem forLFrom_congr {A S X : Type} {f g : Nat → A → S → Option (Lp S X)} : ∀ {l : List A} {i : Nat} {s : S}, (∀ i y s, y ∈ l → f i y s = g i y s) → forLFrom f l i s = forLFrom g l i s
  | [], _, _, _ => rfl
  | y :: l, i, s, h => by
    simp only [forLFrom]
    rw [h i y s (by simp)]
    cases g i y s with
    | none => rfl
    | some q =>
      cases q with
      | nx t => exact forLFrom_congr fun i z s hz => h i z s (by simp [hz])
      | bk t => rfl
      | rt x => rfl
theorem at_loop {n : Nat} (hn : n ≤ 100000) {body : Int → Option (Lp Int Empty)} {c : Nat → Bool}
    (hb : ∀ k : Nat, k < n → body (k : Int) = some (bif c k then .nx (wr ((k : Int) + 1)) else .bk (k : Int))) (he : body (n : Int) = some (.bk (n : Int))) :
    ∀ (m k : Nat), k + m = n → ∃ r : Nat, r ≤ n ∧ iter body (k : Int) = some (.go (r : Int)) := by
  intro m
  induction m with
  | zero => intro k hk; obtain rfl : k = n := by omega
            exact ⟨k, Nat.le_refl _, iter_bk he⟩
  | succ m ih =>
    intro k hk
    have h := hb k (by omega)
    cases hc : c k with
    | false => rw [hc] at h; exact ⟨k, by omega, iter_bk h⟩
    | true =>
      rw [hc] at h
      obtain ⟨r, r1, r2⟩ := ih (k + 1) (by omega)
      refine ⟨r, r1, ?_⟩
      have e : wr ((k : Int) + 1) = ((k + 1 : Nat) : Int) := by rw [wr_of _ (by omega) (by omega)]; omega
      rw [e] at h
      exact (iter_nx h).trans r2
open Classical in
theorem it_loop {p : Int} {F : Cnf} (h : PV p F.vars) {pc : List PcStep} (hn : pc.length ≤ 300) {b1 : ResStep → List Term → Int → Option (Lp Int Empty)} {l1 : Empty → Option (Lp Int (Bool × Bool))} {body : Nat → ResStep → Int → Option (Lp Int (Bool × Bool))}
    (h1 : ∀ y w k, b1 y w k = bd (bif decide (k < len pc) then bd (ix pc k) (fun x => bd (spec_l20Same x.poly w) fun r => some (!r)) else some false) fun t => bif t then some (.nx (wr (k + 1))) else some (.bk k))
    (hb : ∀ i y s, body i y s = bd (spec_l18Clause p F.vars y.clause) fun w => bdR (iter (b1 y w) s) (fun s => bif s == len pc then some (.rt (false, true)) else some (.nx s)) l1) :
    ∀ (l : List ResStep) (i k : Nat), k ≤ pc.length → (∀ y ∈ l, IsC F.vars y.clause) → ∃ q, forLFrom body l i (k : Int) = some q ∧ (match q with | .rt x => x = (false, true) | .go _ => True) := by
  intro l
  induction l with
  | nil => intro i k _ _; exact ⟨_, rfl, trivial⟩
  | cons y l ih =>
    intro i k hk hl
    have hc := hl y (by simp)
    obtain ⟨r, r1, r2⟩ := at_loop (n := pc.length) (by omega) (body := b1 y (sp (clD p (nN F.vars) y.clause))) (c := fun k => match pc[k]? with | some x => !decide (x.poly = sp (clD p (nN F.vars) y.clause)) | none => false)
      (fun k hk => by
        obtain ⟨x, hx⟩ : ∃ x, pc[k]? = some x := ⟨_, List.getElem?_eq_getElem hk⟩
        rw [h1, show decide ((k : Int) < len pc) = true by rw [decide_eq_true_eq, len_eq]; omega, cond_true, ix_get, hx, bd_some, spec_l20Same_eq, bd_some, bd_some]
        exact bif_some)
      (by rw [h1, show decide ((pc.length : Int) < len pc) = false by rw [decide_eq_false_iff_not, len_eq]; omega]; rfl) (pc.length - k) k (by omega)
    simp only [forLFrom, hb, spec_l18Clause_eq h hc, bd_some, r2, bdR_go]
    cases hq : ((r : Int) == len pc) with
    | true => exact ⟨_, rfl, rfl⟩
    | false => exact ih (i + 1) r r1 fun z hz => hl z (by simp [hz])
theorem it_both {p : Int} {F : Cnf} (h : PV p F.vars) {pc : List PcStep} (hn : pc.length ≤ 300) {S : List ResStep} (hS : ∀ y ∈ S, IsC F.vars y.clause) {b1 : ResStep → List Term → Int → Option (Lp Int Empty)} {l1 : Empty → Option (Lp Int (Bool × Bool))} {body body2 : Nat → ResStep → Int → Option (Lp Int (Bool × Bool))}
    (h1 : ∀ y w k, b1 y w k = bd (bif decide (k < len pc) then bd (ix pc k) (fun x => bd (spec_l20Same x.poly w) fun r => some (!r)) else some false) fun t => bif t then some (.nx (wr (k + 1))) else some (.bk k))
    (hb : ∀ i y s, body i y s = bd (spec_l18Clause p F.vars y.clause) fun w => bdR (iter (b1 y w) s) (fun s => bif s == len pc then some (.rt (false, true)) else some (.nx s)) l1)
    (hb2 : ∀ i y s, y ∈ S → body2 i y s = body i y s) {K : Int → Option (Bool × Bool)} {L : Bool × Bool → Option (Bool × Bool)} (hK : ∀ s, ∃ r, K s = some r) (hL : ∀ x, ∃ r, L x = some r) :
    ∃ r, bdR (forL S body 0) K L = some r ∧ bdR (forL S body2 0) K L = some r := by
  obtain ⟨q, q1, q2⟩ := it_loop h hn h1 hb S 0 0 (Nat.zero_le _) hS
  have e : forL S body2 0 = forL S body 0 := forLFrom_congr hb2
  rw [e]
  unfold forL
  rw [show ((0 : Nat) : Int) = 0 from rfl] at q1
  rw [q1]
  cases q with
  | go s => obtain ⟨r, hr⟩ := hK s; exact ⟨r, hr, hr⟩
  | rt x => obtain ⟨r, hr⟩ := hL x; exact ⟨r, hr, hr⟩
theorem eq_Term (a : Term) : laws_eqTerm a a = true := by unfold laws_eqTerm; simp
theorem eq_TermS (a : List Term) : laws_eqTermS a a = some true :=
  eq_list (eq := fun x y => some (laws_eqTerm x y)) (fun _ _ _ => rfl) (fun y _ => by rw [eq_Term])
theorem eq_PcStep (a : PcStep) : laws_eqPcStep a a = some true := by unfold laws_eqPcStep; rw [eq_TermS]; simp
theorem eq_PcStepS (a : List PcStep) : laws_eqPcStepS a a = some true := eq_list (eq := laws_eqPcStep) (fun _ _ _ => rfl) (fun y _ => eq_PcStep y)
def wTermS (a : List Term) : Nat := a.length
def wPcStep (a : PcStep) : Nat := wTermS a.poly
def wPcStepS (a : List PcStep) : Nat := a.length + tot wPcStep a
theorem sz_TermS {a : List Term} {s : Int} (ha : okL okTerm a) (h0 : 0 ≤ s) (h1 : s ≤ 1048576) : laws_szTermS a s < 0 ∨ laws_szTermS a s + wTermS a = s := by
  have := ha.1
  unfold laws_szTermS wTermS
  rw [wr_of _ (by rw [len_eq]; omega) (by rw [len_eq]; omega)]
  by_cases h : s - len a < 0
  · left; simp [h]
  · right; simp only [h, decide_false, cond_false]; rw [len_eq]; omega
theorem sz_PcStep {a : PcStep} {s : Int} (ha : okPcStep a) (h0 : 0 ≤ s) (h1 : s ≤ 1048576) : laws_szPcStep a s < 0 ∨ laws_szPcStep a s + wPcStep a = s := by
  have := sz_TermS ha.2.1 h0 h1
  unfold laws_szPcStep
  by_cases h : laws_szTermS a.poly s < 0
  · left; simp [h]
  · right; rcases this with h' | h'
    · exact absurd h' h
    · simp only [h, decide_false, cond_false]; exact h'
theorem sz_PcStepS {a : List PcStep} {s : Int} (ha : okL okPcStep a) (h0 : 0 ≤ s) (h1 : s ≤ 1048576) : ∃ r, laws_szPcStepS a s = some r ∧ (r < 0 ∨ r + wPcStepS a = s) :=
  sz_list (sz := fun y s => some (laws_szPcStep y s)) (wt := wPcStep) (fun _ _ _ => rfl) (fun y hy _ h0 h1 => ⟨_, rfl, sz_PcStep (ha.2 y hy) h0 h1⟩) ha.1 h0 h1
theorem to_TermS {a : List Term} (h : a.length ≤ lim) : laws_toTermS a = some a := by
  have := to_list (g := fun y => some (laws_toTerm y)) (h := id) (z := Term.mk 0 0) (l := a) (f := fun i y s => bd (ix s (i : Int)) fun _ => bd (put s (i : Int) (laws_toTerm y)) fun xs => some (.nx xs)) (fun _ _ _ => rfl) (fun y hy => rfl) h
  rw [List.map_id] at this; exact this
theorem to_PcStep {a : PcStep} (h : wPcStep a ≤ lim) : laws_toPcStep a = some a := by
  unfold laws_toPcStep; rw [to_TermS h]; rfl
theorem to_PcStepS {a : List PcStep} (h : wPcStepS a ≤ lim) : laws_toPcStepS a = some a := by
  have := to_list (g := laws_toPcStep) (h := id) (z := PcStep.mk 0 [] 0 0 0 0) (l := a) (fun _ _ _ => rfl) (fun y hy => to_PcStep (by have := tot_mem (wt := wPcStep) hy; unfold wPcStepS at h; omega)) (by unfold wPcStepS at h; omega)
  rw [List.map_id] at this; exact this
theorem pcd_len {p : Int} {F : Cnf} {S : List PcStep} (h : pcdB p F S = true) : S.length ≤ 300 := by
  unfold pcdB at h
  have := of_decide_eq_true ((Bool.and_eq_true _ _).mp h).1
  rw [len_eq] at this; omega
theorem spec_impl_IsTranslationOf {p : Int} {F : Cnf} {S : List ResStep} {P : List PcStep} (hF : okCnf F) (hS : okL okResStep S) (hP : okL okPcStep P) :
    ∃ r, spec_IsTranslationOf p F S P = some r ∧ impl_IsTranslationOf p F S P = some r := by
  have hi : impl_IsTranslationOf p F S P = bd (spec_l21Asked p F S) fun b => bif !b then some (false, false) else bd (spec_l20Good p F P) fun r => bif !r then some (false, true) else
      bdR (forL (S := Int) (X := Bool × Bool) S (fun i y s => bd (impl_ring_clause ⟨p, F.vars⟩ y.clause) fun r1 => bd (impl_dense_terms r1) fun w => bdR (iter (S := Int) (X := Empty) (fun k => bd (bif decide (k < len P) then bd (ix P k) (fun x => bd (slices_Equal_impl_Term_impl_Term x.poly w) fun r => some (!r)) else some false) fun t => bif t then some (Lp.nx (wr (k + 1))) else some (Lp.bk k)) s) (fun s => bif s == len P then some (Lp.rt (false, true)) else some (Lp.nx s)) (fun x => nomatch x)) 0) (fun s => some (true, true)) (fun x => some x) := by
    unfold impl_IsTranslationOf
    rw [impl_algebraOf_eq hF, bd_some, spec_l21Asked_eq hF hS, bd_some, spec_l20Good_eq hF (okPs_of hP), bd_some, impl_IsDerivation_eq hF hS]
    unfold askB
    cases ha : algB p F with
    | false => rfl
    | true =>
      cases derB F S with
      | false => rfl
      | true =>
        simp only [cond_true, Bool.not_true, cond_false, bd_some, Bool.true_and, impl_pcDerivation_eq ha (okPs_of hP)]
        rfl
  rw [hi]
  unfold spec_IsTranslationOf
  rw [spec_l21Asked_eq hF hS, bd_some, bd_some, spec_l20Good_eq hF (okPs_of hP), bd_some, bd_some]
  cases ha : askB p F S with
  | false => exact ⟨_, rfl, rfl⟩
  | true =>
    obtain ⟨h, hD⟩ := askB_iff ha
    cases hp : algB p F && pcdB p F P with
    | false => exact ⟨_, rfl, rfl⟩
    | true =>
      have hlen := pcd_len ((Bool.and_eq_true _ _).mp hp).2
      have hcl : ∀ y ∈ S, IsC F.vars y.clause := fun y hy => hD.clause hy
      have hN := nN_le h.v6
      simp only [Bool.not_true, cond_false]
      exact it_both h hlen hcl (fun _ _ _ => by rfl) (fun _ _ _ => by rfl) (fun i y s hy => by
        rw [impl_ring_clause_eq (r := ⟨p, F.vars⟩) h (hcl y hy), bd_some, impl_terms_eq (a := clD p (nN F.vars) y.clause) (by have := (clD_Dn (p := p) (N := nN F.vars) h.pos.1 y.clause).len; have : lim = 4294967296 := rfl; omega), bd_some, spec_l18Clause_eq h (hcl y hy), bd_some]
        rfl) (fun s => ⟨_, rfl⟩) (fun x => ⟨_, rfl⟩)
theorem plain_IsTranslationOf (a0 : Int) (a1 : Cnf) (a2 : List ResStep) (a3 : List PcStep) (o : okI a0) (o0 : okCnf a1) (o1 : okL okResStep a2) (o2 : okL okPcStep a3) : laws_FnExactIsTranslationOf a0 a1 a2 a3 = some true := by
  unfold laws_FnExactIsTranslationOf
  obtain ⟨r0, q0, z0⟩ := sz_Cnf o0 (s := 1048576) (by omega) (by omega)
  rw [q0, bd_some]
  by_cases n0 : r0 < 0
  · simp [n0]
  obtain ⟨r1, q1, z1⟩ := sz_ResStepS o1 (s := r0) (by omega) (by omega)
  simp only [n0, decide_false, cond_false]
  rw [q1, bd_some]
  by_cases n1 : r1 < 0
  · simp [n1]
  obtain ⟨r2, q2, z2⟩ := sz_PcStepS o2 (s := r1) (by omega) (by omega)
  simp only [n1, decide_false, cond_false]
  rw [q2, bd_some]
  by_cases n2 : r2 < 0
  · simp [n2]
  simp only [n2, decide_false, cond_false]
  have hlim : lim = 4294967296 := rfl
  have t0 := to_Cnf (a := a1) (by omega)
  have t1 := to_ResStepS (a := a2) (by omega)
  have t2 := to_PcStepS (a := a3) (by omega)
  obtain ⟨g, hs, hi⟩ := spec_impl_IsTranslationOf (p := a0) o0 o1 o2
  simp only [t0, t1, t2, hs, hi, bd_some, eq_ResStepS, eq_PcStepS, eq_Cnf, BEq.rfl, Bool.not_true, cond_false]
end Go.PF
