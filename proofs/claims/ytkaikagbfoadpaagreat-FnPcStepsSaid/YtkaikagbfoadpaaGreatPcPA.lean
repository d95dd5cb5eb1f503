/- Helpers of the walks and plain laws. -/
import Derived.Test.YtkaikagbfoadpaaGreatPcLC
import Derived.Test.YtkaikagbfoadpaaGreatPcPf
set_option linter.unusedVariables false
namespace Go.PF
open Go.Pu
def vr (l : Int) : Int := bif decide (l < 0) then wr (-l) else l
theorem spec_l2Var_eq (l : Int) : spec_l2Var l = vr l := rfl
theorem vr_abs {l : Int} (h1 : -12 ≤ l) (h2 : l ≤ 12) : vr l = l.natAbs := by
 unfold vr
 by_cases h : l < 0
 · simp only [h, decide_true, cond_true]; rw [wr_of _ (by omega) (by omega)]; omega
 · simp only [h, decide_false, cond_false]; omega
theorem impl_abs_eq {l : Int} (h : okI l) : impl_abs l = vr l := by
 obtain ⟨h1, h2⟩ := h
 unfold impl_abs vr mx
 by_cases h0 : l < 0
 · simp only [h0, decide_true, cond_true]
   by_cases hm : l = -9223372036854775808
   · subst hm; decide
   · rw [wr_of _ (by omega) (by omega), if_pos (by omega)]
 · simp only [h0, decide_false, cond_false]
   rw [wr_of _ (by omega) (by omega)]
   by_cases hz : l = 0
   · subst hz; rfl
   · rw [if_neg (by omega)]
def inB (a b c : Int) : Bool := decide (b ≤ a) && decide (a ≤ c)
theorem inB_iff {a b c : Int} : inB a b c = true ↔ b ≤ a ∧ a ≤ c := by simp [inB]
theorem spec_l1In_eq (a b c : Int) : spec_l1In a b c = inB a b c := by simp [spec_l1In, inB]
theorem impl_within_eq (a b c : Int) : impl_within a b c = inB a b c := by simp [impl_within, inB]
def varsB (v : Int) : Bool := inB v 0 12
theorem varsB_iff {v : Int} : varsB v = true ↔ 0 ≤ v ∧ v ≤ 12 := inB_iff
theorem spec_l2Vars_eq (v : Int) : spec_l2Vars v = varsB v := spec_l1In_eq _ _ _
theorem impl_varsOk_eq (v : Int) : impl_varsOk v = varsB v := impl_within_eq _ _ _
def litB (v l : Int) : Bool := inB l (wr (-v)) v && !(l == 0)
theorem spec_l2Lit_eq (v l : Int) : spec_l2Lit v l = litB v l := by simp [spec_l2Lit, litB, spec_l1In_eq]
theorem impl_isLiteral_eq (v l : Int) : impl_isLiteral v l = litB v l := by simp [impl_isLiteral, litB, impl_within_eq, Bool.and_comm]
theorem impl_isVar_eq (v a : Int) : impl_isVar v a = inB a 1 v := impl_within_eq _ _ _
def clauseB (v : Int) (c : List Int) : Bool := varsB v && (c.all (litB v) && adj (fun a b => decide (vr a < vr b)) c)
theorem spec_l2Clause_eq {v : Int} {c : List Int} (hc : okL okI c) : spec_l2Clause v c = some (clauseB v c) := by
 unfold spec_l2Clause clauseB
 rw [spec_l2Vars_eq]
 cases hv : varsB v with
 | false => rfl
 | true =>
  simp only [Bool.not_true, cond_false, Bool.true_and]
  rw [forL_any (p := fun i y => !litB v y || match i with | 0 => false | i + 1 => match c[i]? with | some x => decide (vr y ≤ vr x) | none => false) (v := false) (fun i y hy => by
   rw [spec_l2Lit_eq]
   cases hl : litB v y with
   | false => simp
   | true =>
    cases i with
    | zero => simp
    | succ i =>
     have hi : i + 1 < c.length := (List.getElem?_eq_some_iff.1 hy).1
     have hp : decide ((0 : Int) < ((i + 1 : Nat) : Int)) = true := by simp
     rw [hp, wr_pred (by omega) hi hc.1, ix_get]
     simp only [Nat.add_sub_cancel]
     rw [List.getElem?_eq_getElem (show i < c.length by omega)]
     simp only [Bool.not_true, cond_false, cond_true, bd_some, Bool.false_or, spec_l2Var_eq]
     rfl)]
  rw [anyI_adj (q := fun y => !litB v y) (r := fun a b => decide (vr a < vr b)) (by intro y _; simp) (by
   intro i x y hx hy
   simp only [hx]
   congr 1
   by_cases h : vr x < vr y
   · simp [h]
   · simp [h]; omega)]
  simp only [Bool.not_not]
  cases (c.all fun y => litB v y) && adj (fun a b => decide (vr a < vr b)) c <;> rfl
theorem impl_IsClause_eq {v : Int} {c : List Int} (hc : okL okI c) : impl_IsClause v c = some (clauseB v c) := by
 unfold impl_IsClause clauseB
 rw [impl_varsOk_eq]
 rw [forL_any (p := fun i y => !litB v y || match i with | 0 => false | i + 1 => match c[i]? with | some x => decide (vr y ≤ vr x) | none => false) (v := false) (fun i y hy => by
  rw [impl_isLiteral_eq]
  cases hl : litB v y with
  | false => simp
  | true =>
   cases i with
   | zero => simp
   | succ i =>
    have hi : i + 1 < c.length := (List.getElem?_eq_some_iff.1 hy).1
    have hp : decide ((0 : Int) < ((i + 1 : Nat) : Int)) = true := by simp
    rw [hp, wr_pred (by omega) hi hc.1, ix_get]
    simp only [Nat.add_sub_cancel]
    rw [List.getElem?_eq_getElem (show i < c.length by omega)]
    simp only [Bool.not_true, cond_false, cond_true, bd_some, Bool.false_or]
    rw [impl_abs_eq (hc.2 _ (List.mem_of_getElem? hy)), impl_abs_eq (hc.2 _ (List.getElem_mem _))])]
 rw [anyI_adj (q := fun y => !litB v y) (r := fun a b => decide (vr a < vr b)) (by intro y _; simp) (by
  intro i x y hx hy
  simp only [hx]
  congr 1
  by_cases h : vr x < vr y
  · simp [h]
  · simp [h]; omega)]
 simp only [Bool.not_not]
 cases (c.all fun y => litB v y) && adj (fun a b => decide (vr a < vr b)) c <;> simp
structure IsC (v : Int) (c : List Int) : Prop where
 lo : 0 ≤ v
 hi : v ≤ 12
 lit : ∀ l ∈ c, -v ≤ l ∧ l ≤ v ∧ l ≠ 0
 srt : c.Pairwise fun a b => a.natAbs < b.natAbs
theorem adj_pairwise {α : Type} {r : α → α → Bool} {R : α → α → Prop} (ht : ∀ a b c, R a b → R b c → R a c) : ∀ {l : List α}, (∀ a b, a ∈ l → b ∈ l → r a b = true → R a b) → adj r l = true → l.Pairwise R := by
 intro l
 induction l with
 | nil => intro _ _; exact .nil
 | cons a l ih =>
  intro hr h
  cases l with
  | nil => simp
  | cons b l =>
   simp only [adj, Bool.and_eq_true] at h
   have hp := ih (fun x y hx hy => hr x y (by simp [hx]) (by simp [hy])) h.2
   have hab := hr a b (by simp) (by simp) h.1
   refine List.pairwise_cons.2 ⟨fun x hx => ?_, hp⟩
   rcases List.mem_cons.1 hx with rfl | hx
   · exact hab
   · exact ht _ _ _ hab ((List.pairwise_cons.1 hp).1 x hx)
theorem adj_of_pairwise {α : Type} {r : α → α → Bool} {l : List α} (h : l.Pairwise fun a b => r a b = true) : adj r l = true := by
 induction l with
 | nil => rfl
 | cons a l ih =>
  cases l with
  | nil => rfl
  | cons b l =>
   obtain ⟨h1, h2⟩ := List.pairwise_cons.1 h
   simp only [adj, Bool.and_eq_true]
   exact ⟨h1 b (by simp), ih h2⟩
theorem litB_iff {v l : Int} (h1 : 0 ≤ v) (h2 : v ≤ 12) : litB v l = true ↔ -v ≤ l ∧ l ≤ v ∧ l ≠ 0 := by
 unfold litB
 rw [wr_of _ (by omega) (by omega)]
 simp [inB]; omega
theorem clauseB_iff {v : Int} {c : List Int} : clauseB v c = true ↔ IsC v c := by
 unfold clauseB
 rw [Bool.and_eq_true, Bool.and_eq_true, varsB_iff, List.all_eq_true]
 constructor
 · rintro ⟨⟨h1, h2⟩, h3, h4⟩
   have hl : ∀ l ∈ c, -v ≤ l ∧ l ≤ v ∧ l ≠ 0 := fun l hl => (litB_iff h1 h2).1 (h3 l hl)
   refine ⟨h1, h2, hl, adj_pairwise (R := fun a b : Int => a.natAbs < b.natAbs) (fun _ _ _ => Nat.lt_trans) (fun a b ha hb hr => ?_) h4⟩
   have := hl a ha; have := hl b hb
   simp only [decide_eq_true_eq] at hr
   rw [vr_abs (by omega) (by omega), vr_abs (by omega) (by omega)] at hr
   omega
 · rintro ⟨h1, h2, h3, h4⟩
   refine ⟨⟨h1, h2⟩, fun l hl => (litB_iff h1 h2).2 (h3 l hl), adj_of_pairwise (List.Pairwise.imp_of_mem ?_ h4)⟩
   intro a b ha hb hr
   have := h3 a ha; have := h3 b hb
   simp only [decide_eq_true_eq]
   rw [vr_abs (by omega) (by omega), vr_abs (by omega) (by omega)]
   omega
theorem srt_len : ∀ {c : List Int} {k n : Nat}, c.Pairwise (fun a b => a.natAbs < b.natAbs) → (∀ l ∈ c, k < l.natAbs ∧ l.natAbs ≤ n) → c.length + k ≤ max k n := by
 intro c
 induction c with
 | nil => intro k n _ _; simp; omega
 | cons a c ih =>
  intro k n h hl
  obtain ⟨h1, h2⟩ := List.pairwise_cons.1 h
  have ha := hl a (by simp)
  have := ih (k := a.natAbs) (n := n) h2 fun l hm => ⟨h1 l hm, (hl l (by simp [hm])).2⟩
  simp only [List.length_cons]; omega
theorem IsC.len {v : Int} {c : List Int} (h : IsC v c) : c.length ≤ 12 := by
 have := srt_len (k := 0) (n := 12) h.srt fun l hl => by have := h.lit l hl; have := h.hi; omega
 omega
theorem IsC.ok {v : Int} {c : List Int} (h : IsC v c) : okL okI c := by
 refine ⟨by have := h.len; omega, fun l hl => ?_⟩
 have := h.lit l hl; have := h.hi
 unfold okI; omega
def cnfB (f : Cnf) : Bool := varsB f.vars && decide (len f.clauses ≤ 60) && f.clauses.all (clauseB f.vars)
theorem spec_l2Good_eq {f : Cnf} (hf : okCnf f) : spec_l2Good f = some (cnfB f) := by
 unfold spec_l2Good cnfB
 rw [spec_l2Vars_eq]
 cases hv : varsB f.vars with
 | false => rfl
 | true =>
  have e : (decide (60 < len f.clauses)) = !decide (len f.clauses ≤ 60) := by
   by_cases h : len f.clauses ≤ 60
   · simp [h]
   · simp [h]; omega
  simp only [Bool.not_true, cond_false, Bool.true_and]
  rw [e]
  cases hl : decide (len f.clauses ≤ 60) with
  | false => rfl
  | true =>
   have hlen : f.clauses.length ≤ 60 := by have := of_decide_eq_true hl; rw [len_eq] at this; omega
   simp only [Bool.not_true, cond_false, Bool.true_and]
   rw [iter_any (xs := f.clauses) (p := fun _ c => !clauseB f.vars c) (v := false) (fun i y hy => by
    have hi := (List.getElem?_eq_some_iff.1 hy).1
    have hd : decide ((i : Int) < len f.clauses) = true := by rw [len_eq]; simp; omega
    rw [hd, ix_get, hy]
    simp only [cond_true, bd_some]
    rw [spec_l2Clause_eq (hf.2.2 _ (List.mem_of_getElem? hy)), bd_some]
    cases clauseB f.vars y with
    | false => simp only [Bool.not_false, cond_true]
    | true => rw [wr_succ hi (by omega)]) (by
    have hd : decide (((f.clauses.length : Nat) : Int) < len f.clauses) = false := by rw [len_eq]; simp
    rw [hd, cond_false])]
   rw [anyI_any, show (f.clauses.any fun y => !clauseB f.vars y) = !f.clauses.all (clauseB f.vars) by rw [List.all_eq_not_any_not, Bool.not_not]]
   cases f.clauses.all (clauseB f.vars) <;> rfl
theorem impl_IsCnf_eq {f : Cnf} (hf : okCnf f) : impl_IsCnf f = some (cnfB f) := by
 unfold impl_IsCnf cnfB
 rw [impl_varsOk_eq]
 rw [forL_any (p := fun _ c => !clauseB f.vars c) (v := false) (fun i y hy => by
  rw [impl_IsClause_eq (hf.2.2 _ (List.mem_of_getElem? hy)), bd_some])]
 rw [anyI_any, show (f.clauses.any fun y => !clauseB f.vars y) = !f.clauses.all (clauseB f.vars) by rw [List.all_eq_not_any_not, Bool.not_not]]
 cases f.clauses.all (clauseB f.vars) <;> simp
theorem same_eq (a b : List Int) : (bif (!((len a) == (len b))) then some false else bdR (forL (S := Unit) (X := Bool) a (fun i23 y22 s23 => bd (ix b ((i23 : Nat) : Int)) (fun x74 => (bif (!(y22 == x74)) then some (Lp.rt false) else some (Lp.nx ())))) ()) (fun s23 => some true) (fun x23 => some x23)) = some (a == b) := by
 rw [len_eq, len_eq]
 by_cases hl : a.length = b.length
 · have : (((a.length : Nat) : Int) == ((b.length : Nat) : Int)) = true := by simp [hl]
   rw [this]
   simp only [Bool.not_true, cond_false]
   rw [forL_any (p := fun i y => match b[i]? with | some x => !(y == x) | none => false) (v := false) (fun i y hy => by
    have hi := (List.getElem?_eq_some_iff.1 hy).1
    rw [ix_get, List.getElem?_eq_getElem (by omega), bd_some])]
   have e : anyI (fun i y => match b[i]? with | some x => !(y == x) | none => false) a 0 = !(a == b) := by
    by_cases hab : a = b
    · subst hab
      rw [show (a == a) = true by simp]
      rw [anyI_false.2]; rfl
      intro i y hy; rw [Nat.zero_add, hy]; simp
    · rw [show (a == b) = false by simpa using hab]
      cases h : anyI (fun i y => match b[i]? with | some x => !(y == x) | none => false) a 0 with
      | true => rfl
      | false =>
       exfalso; apply hab
       rw [anyI_false] at h
       apply List.ext_getElem hl
       intro i h1 h2
       have := h i a[i] (by simp [h1])
       rw [Nat.zero_add, List.getElem?_eq_getElem h2] at this
       simpa using this
   rw [e]; cases a == b <;> rfl
 · have : (((a.length : Nat) : Int) == ((b.length : Nat) : Int)) = false := by simp; omega
   rw [this]
   have : (a == b) = false := by
    rw [beq_eq_false_iff_ne]; intro e; subst e; exact hl rfl
   rw [this]; rfl
theorem spec_l1Has_eq (c : List Int) (l : Int) : spec_l1Has c l = some (c.contains l) := by
 unfold spec_l1Has
 rw [forL_any (p := fun _ y => y == l) (v := true) (fun i y _ => rfl), anyI_any]
 rw [show (c.any fun y => y == l) = c.contains l by induction c with | nil => rfl | cons x c ih => rw [List.any_cons, List.contains_cons, ih, Bool.beq_comm]]
 cases c.contains l <;> rfl
theorem spec_l2Has_eq (c : List Int) (l : Int) : spec_l2Has c l = some (c.contains l) := by unfold spec_l2Has; rw [spec_l1Has_eq]; rfl
theorem slices_IndexFunc_int_int_ge {c : List Int} {f : Int → Option Bool} {g : Int → Bool} (h : ∀ y ∈ c, f y = some (g y)) : ∃ r, slices_IndexFunc_int_int c f = some r ∧ decide (0 ≤ r) = c.any g ∧ (∀ z, findI (fun _ y => g y) c 0 = some z → r = z.1) ∧ (findI (fun _ y => g y) c 0 = none → r = -1) := by
 unfold slices_IndexFunc_int_int
 rw [forL_find (p := fun _ y => g y) (v := fun i _ => (i : Int)) (fun i y hy => by rw [h y (List.mem_of_getElem? hy), bd_some])]
 cases hf : findI (fun _ y => g y) c 0 with
 | none =>
  refine ⟨-1, rfl, ?_, nofun, fun _ => rfl⟩
  have := findI_none.1 hf
  rw [anyI_any] at this; rw [this]; rfl
 | some z =>
  obtain ⟨_, _, _, h4⟩ := findI_some hf
  rw [anyI_any] at h4
  exact ⟨_, rfl, by rw [h4]; simp, fun z' hz => (by cases hz; rfl), nofun⟩
theorem slices_ContainsFunc_int_int_eq {c : List Int} {f : Int → Option Bool} {g : Int → Bool} (h : ∀ y ∈ c, f y = some (g y)) : slices_ContainsFunc_int_int c f = some (c.any g) := by
 obtain ⟨r, h1, h2, _⟩ := slices_IndexFunc_int_int_ge h
 unfold slices_ContainsFunc_int_int; rw [h1, bd_some, h2]
def partB (a b : List Int) : Bool := a.all fun y => b.contains y
end Go.PF
namespace Go.PF
open Go.Pu
theorem foldl_filter {α : Type} {p : α → Bool} : ∀ {l s : List α}, l.foldl (fun s y => bif p y then s ++ [y] else s) s = s ++ l.filter p := by
 intro l
 induction l with
 | nil => intro s; simp
 | cons y l ih =>
  intro s
  rw [List.foldl_cons, ih]
  cases h : p y <;> simp [h]
theorem forL_filter {α X : Type} {f : Nat → α → List α → Option (Lp (List α) X)} {p : α → Bool} {l : List α} (hf : ∀ i y s, l[i]? = some y → f i y s = bif p y then bd (app s [y]) fun xs => some (.nx xs) else some (.nx s)) (hl : l.length ≤ lim) :
 forL l f [] = some (.go (l.filter p)) := by
 have := (forL_foldI (X := X) (body := f) (fun s y => bif p y then s ++ [y] else s) (l := l) (s := []) (fun i s => s.length ≤ i) (by simp) (fun i x t hx ht => by
  have hi := (List.getElem?_eq_some_iff.1 hx).1
  rw [hf i x t hx]
  cases p x with
  | false => exact ⟨rfl, by simp only [cond_false]; omega⟩
  | true =>
   simp only [cond_true]
   rw [app_ok (by simp; omega), bd_some]
   exact ⟨rfl, by simp; omega⟩)).1
 rw [this, foldl_filter]; rfl
def without (c : List Int) (v : Int) : List Int := c.filter fun y => !(vr y == v)
theorem spec_l2Without_eq {c : List Int} {v : Int} (hl : c.length ≤ lim) : spec_l2Without c v = some (without c v) := by
 unfold spec_l2Without without
 rw [forL_filter (p := fun y => !(vr y == v)) (fun i y s _ => by rfl) hl]; rfl
def putL (c : List Int) (l : Int) : List Int := c.takeWhile (fun y => decide (vr y < vr l)) ++ l :: c.dropWhile (fun y => decide (vr y < vr l))
theorem spec_l1Own_eq {c : List Int} (hl : c.length ≤ lim) : spec_l1Own c = some c := by
 unfold spec_l1Own; rw [app_ok (by simpa using hl)]; rfl
theorem takeWhile_le {α : Type} {p : α → Bool} (l : List α) : (l.takeWhile p).length ≤ l.length := (List.takeWhile_prefix p).length_le
theorem take_takeWhile {α : Type} {p : α → Bool} (l : List α) : l.take (l.takeWhile p).length = l.takeWhile p := by
 conv => lhs; rw [← List.takeWhile_append_dropWhile (p := p) (l := l)]
 rw [List.takeWhile_append_dropWhile]
 exact List.prefix_iff_eq_take.1 (List.takeWhile_prefix p) |>.symm
theorem drop_takeWhile {α : Type} {p : α → Bool} (l : List α) : l.drop (l.takeWhile p).length = l.dropWhile p := by
 have h := List.takeWhile_append_dropWhile (p := p) (l := l)
 have h2 : l.drop (l.takeWhile p).length = (l.takeWhile p ++ l.dropWhile p).drop (l.takeWhile p).length := by rw [h]
 rw [h2, List.drop_left]
theorem spec_l2Put_eq {c : List Int} {l : Int} (hl : c.length + 1 ≤ lim) : spec_l2Put c l = some (putL c l) := by
 unfold spec_l2Put putL
 have hl' : c.length + 1 ≤ 4294967296 := hl
 rw [iter_while (xs := c) (p := fun y => decide (vr y < vr l)) (fun i y hy => by
  have hi := (List.getElem?_eq_some_iff.1 hy).1
  have hd : decide ((i : Int) < len c) = true := by rw [len_eq]; simp; omega
  rw [hd, ix_get, hy]
  simp only [cond_true, bd_some, spec_l2Var_eq]
  rw [wr_succ hi (by omega)]; rfl) (by
  have hd : decide (((c.length : Nat) : Int) < len c) = false := by rw [len_eq]; simp
  rw [hd]; rfl), bdR_go]
 have hk := takeWhile_le (p := fun y => decide (vr y < vr l)) c
 rw [show (0 : Int) = ((0 : Nat) : Int) from rfl, cut_ok (Nat.zero_le _) hk, bd_some, List.drop_zero, take_takeWhile, spec_l1Own_eq (by omega), bd_some, app_ok (by simp; omega), bd_some,
  len_eq, cut_ok hk (Nat.le_refl _), bd_some, List.take_length, drop_takeWhile, app_ok, bd_some]
 · simp
 · have := congrArg List.length (List.takeWhile_append_dropWhile (p := fun y => decide (vr y < vr l)) (l := c))
   simp only [List.length_append] at this ⊢
   simp only [List.length_singleton]
   unfold lim; omega
theorem putL_length (c : List Int) (l : Int) : (putL c l).length = c.length + 1 := by
 have := congrArg List.length (List.takeWhile_append_dropWhile (p := fun y => decide (vr y < vr l)) (l := c))
 unfold putL; simp only [List.length_append, List.length_cons] at this ⊢; omega
def joinL : List Int → List Int → Option (List Int)
 | s, [] => some s
 | s, y :: b => bif s.contains (wr (-y)) then none else joinL (bif !s.contains y then putL s y else s) b
theorem putL_mem {c : List Int} {l x : Int} : x ∈ putL c l ↔ x = l ∨ x ∈ c := by
 have h := List.takeWhile_append_dropWhile (p := fun y => decide (vr y < vr l)) (l := c)
 have : x ∈ c ↔ x ∈ c.takeWhile (fun y => decide (vr y < vr l)) ∨ x ∈ c.dropWhile (fun y => decide (vr y < vr l)) := by rw [← List.mem_append, h]
 unfold putL
 rw [this, List.mem_append, List.mem_cons]
 constructor
 · rintro (h | h | h)
   · exact .inr (.inl h)
   · exact .inl h
   · exact .inr (.inr h)
 · rintro (h | h | h)
   · exact .inr (.inl h)
   · exact .inl h
   · exact .inr (.inr h)
end Go.PF
namespace Go.PF
open Go.Pu
def cmpL (x y : Int) : Int := if impl_abs x < impl_abs y then -1 else if impl_abs y < impl_abs x then 1 else if y < x then -1 else if x < y then 1 else 0
def joined (a b : List Int) : List Int × Bool := match joinL a b with | some s => (s, true) | none => ([], false)
def res (a b : List Int) (v : Int) : List Int × Bool := bif !a.contains v || !b.contains (wr (-v)) then ([], false) else joined (without a v) (without b v)
end Go.PF
namespace Go.PF
open Go.Pu
def clAt (S : List ResStep) (k : Int) : List Int := match S[k.toNat]? with | some y => y.clause | none => []
def earlierB (F : Cnf) (S : List ResStep) (i : Nat) (k : Int) : Bool := inB k 0 ((i : Int) - 1) && clauseB F.vars (clAt S k)
def axB (F : Cnf) (x : ResStep) : Bool := inB x.right 0 (len F.clauses - 1) && match F.clauses[x.right.toNat]? with | some c => c == x.clause | none => false
def stepB (F : Cnf) (S : List ResStep) (i : Nat) (x : ResStep) : Bool :=
 clauseB F.vars x.clause &&
 bif x.left == -1 then x.pivot == 0 && axB F x
 else earlierB F S i x.left &&
  bif x.right == -1 then x.pivot == 0 && partB (clAt S x.left) x.clause
  else earlierB F S i x.right && (inB x.pivot 1 F.vars && ((res (clAt S x.left) (clAt S x.right) x.pivot).2 && (res (clAt S x.left) (clAt S x.right) x.pivot).1 == x.clause))
theorem wr_len {A : Type} {l : List A} (h : l.length ≤ 9223372036854775807) : wr (len l - 1) = len l - 1 := wr_of _ (by rw [len_eq]; omega) (by rw [len_eq]; omega)
structure IsD (F : Cnf) (S : List ResStep) : Prop where
 cnf : cnfB F = true
 le : S.length ≤ 200
 step : ∀ i x, S[i]? = some x → stepB F S i x = true
end Go.PF
namespace Go.PF
open Go.Pu
abbrev Asc (c : List Int) : Prop := c.Pairwise fun a b => a < b
def prem (x : ResStep) : List Int := bif decide (x.left < 0) then [] else bif decide (0 ≤ x.left) && decide (0 ≤ x.right) then [x.left, x.right] else [x.left]
end Go.PF
namespace Go.PF
open Go.Pu
theorem iter_mk {T σ α X : Type} (mk : σ → Int → T) {xs : List α} {body : T → Option (Lp T X)} {F : σ → α → σ} (I : Nat → σ → Prop) {s0 : σ} (h0 : I 0 s0)
 (h : ∀ (i : Nat) x s, xs[i]? = some x → I i s → body (mk s (i : Int)) = some (.nx (mk (F s x) ((i : Int) + 1))) ∧ I (i + 1) (F s x)) (he : ∀ s, I xs.length s → body (mk s (xs.length : Int)) = some (.bk (mk s (xs.length : Int)))) :
 iter body (mk s0 0) = some (.go (mk (xs.foldl F s0) (xs.length : Int))) ∧ I xs.length (xs.foldl F s0) := by
 have key : ∀ (m : List α) (k : Nat) (s : σ), k + m.length = xs.length → (∀ i y, m[i]? = some y → xs[k + i]? = some y) → I k s → iter body (mk s (k : Int)) = some (.go (mk (m.foldl F s) (xs.length : Int))) ∧ I xs.length (m.foldl F s) := by
  intro m
  induction m with
  | nil =>
   intro k s hk _ hI
   simp only [List.length_nil, Nat.add_zero] at hk
   subst hk
   exact ⟨iter_bk (he s hI), hI⟩
  | cons y m ih =>
   intro k s hk hm hI
   obtain ⟨h1, h2⟩ := h k y s (by have := hm 0 y rfl; simpa using this) hI
   rw [iter_nx h1]
   exact ih (k + 1) (F s y) (by simp at hk; omega) (fun i z hz => by have := hm (i + 1) z (by simpa using hz); rwa [show k + (i + 1) = k + 1 + i by omega] at this) h2
 have := key xs 0 s0 (by simp) (by simp) h0
 simpa using this
theorem bdR_mk {T σ α X β : Type} (mk : σ → Int → T) {xs : List α} {body : T → Option (Lp T X)} {k : T → Option β} {lx : X → Option β} {r : Option β} {F : σ → α → σ} (I : Nat → σ → Prop) {s0 : σ} {t0 : T} (ht : t0 = mk s0 0) (h0 : I 0 s0)
 (h : ∀ (i : Nat) x s, xs[i]? = some x → I i s → body (mk s (i : Int)) = some (.nx (mk (F s x) ((i : Int) + 1))) ∧ I (i + 1) (F s x)) (he : ∀ s, I xs.length s → body (mk s (xs.length : Int)) = some (.bk (mk s (xs.length : Int))))
 (hk : I xs.length (xs.foldl F s0) → k (mk (xs.foldl F s0) (xs.length : Int)) = r) : bdR (iter body t0) k lx = r := by
 subst ht
 obtain ⟨h1, h2⟩ := iter_mk mk I h0 h he
 rw [h1, bdR_go]; exact hk h2
end Go.PF
namespace Go.La
def co (a : List Int) (n : Nat) : Int := a.getD n 0
structure V (p : Int) (N : Nat) (a : List Int) : Prop where
 len : a.length = N
 bd : ∀ n, 0 ≤ co a n ∧ co a n < p
theorem co_ge {a : List Int} {n : Nat} (h : a.length ≤ n) : co a n = 0 := by unfold co; rw [List.getD_eq_getElem?_getD, List.getElem?_eq_none h]; rfl
theorem co_eq {a : List Int} {n : Nat} (h : n < a.length) : a[n]? = some (co a n) := by unfold co; rw [List.getD_eq_getElem?_getD, List.getElem?_eq_getElem h]; rfl
def vadd (p k : Int) (a b : List Int) : List Int := List.zipWith (fun x y => (x + k * y) % p) a b
theorem dvd_mod (p x : Int) : p ∣ x % p - x := ⟨-(x / p), by have := Int.emod_add_mul_ediv x p; grind⟩
structure Ctx where
 p : Int
 N : Nat
 key : Nat → Nat
 ld : List Int → Nat
 hp : 1 < p
 inj : ∀ m n, key m = key n → m = n
 nz : ∀ a m, co a m ≠ 0 → co a (ld a) ≠ 0
 mx : ∀ a m, co a m ≠ 0 → key m ≤ key (ld a)
variable {C : Ctx}
structure Red (C : Ctx) (R : List (List Int)) : Prop where
 vec : ∀ r ∈ R, V C.p C.N r
 one : ∀ r ∈ R, co r (C.ld r) = 1
 off : ∀ r ∈ R, ∀ s ∈ R, r ≠ s → co s (C.ld r) = 0
 nd : R.Nodup
def S (C : Ctx) (R : List (List Int)) (f : Nat → Int) (n : Nat) : Int := (R.map fun r => f (C.ld r) * co r n).sum
def In (C : Ctx) (R : List (List Int)) (f : Nat → Int) : Prop := ∀ n, C.p ∣ f n - S C R f n
def zero (C : Ctx) : List Int := List.replicate C.N 0
structure New (C : Ctx) (R : List (List Int)) (new : List Int) : Prop where
 vec : V C.p C.N new
 one : co new (C.ld new) = 1
 off : ∀ r ∈ R, co new (C.ld r) = 0
def monic (C : Ctx) (k : Int) (rest : List Int) : List Int := vadd C.p k (zero C) rest
structure Ext (C : Ctx) (R : List (List Int)) (az : List (List Int)) (T : List (List Int)) : Prop where
 red : Red C T
 old : ∀ r ∈ R, In C T (co r)
 new : ∀ a ∈ az, In C T (co a)
 le : ∀ U, Red C U → (∀ r ∈ R, In C U (co r)) → (∀ a ∈ az, In C U (co a)) → ∀ r ∈ T, In C U (co r)
end Go.La
namespace Go.PF
open Go.Pu
theorem bdR_foldI {S X α β : Type} {body : Nat → α → S → Option (Lp S X)} {k : S → Option β} {lx : X → Option β} {r : Option β} (g : S → α → S) {l : List α} {s : S} (I : Nat → S → Prop) (h0 : I 0 s)
 (h : ∀ i x t, l[i]? = some x → I i t → body i x t = some (.nx (g t x)) ∧ I (i + 1) (g t x)) (hk : I l.length (l.foldl g s) → k (l.foldl g s) = r) : bdR (forL l body s) k lx = r := by
 obtain ⟨h1, h2⟩ := forL_foldI g I h0 h
 rw [h1, bdR_go]; exact hk h2
structure WvOk (F : Cnf) (i : Nat) (w : List Int × List ResStep) : Prop where
 len : w.1.length = i
 le : w.2.length ≤ i
 inr : ∀ k ∈ w.1, 0 ≤ k ∧ k < w.2.length
 isC : ∀ s ∈ w.2, IsC F.vars s.clause
end Go.PF
namespace Go.PF
open Go.Pu
open Go.La (vadd co)
def spF : Nat → List Int → List Term
 | _, [] => []
 | i, x :: xs => bif x == 0 then spF (i + 1) xs else ⟨((i : Nat) : Int), x⟩ :: spF (i + 1) xs
def sp (a : List Int) : List Term := spF 0 a
def fuF : Nat → List Int → List Term
 | _, [] => []
 | i, x :: xs => ⟨((i : Nat) : Int), x⟩ :: fuF (i + 1) xs
def fu (a : List Int) : List Term := fuF 0 a
theorem spF_filter : ∀ {a : List Int} {i : Nat}, spF i a = (fuF i a).filter fun t => !(t.coeff == 0)
 | [], _ => rfl
 | x :: xs, i => by
  simp only [spF, fuF, List.filter_cons]
  rw [spF_filter (a := xs)]
  cases h : x == 0 <;> simp
structure Dn (p : Int) (N : Nat) (a : List Int) : Prop where
 len : a.length = N
 bd : ∀ x ∈ a, 0 ≤ x ∧ x < p
structure PV (p v : Int) : Prop where
 p1 : p = 2 ∨ p = 3 ∨ p = 5
 v0 : 0 ≤ v
 v6 : v ≤ 6
def nN (v : Int) : Nat := 2 ^ v.toNat
theorem PV.pos {p v : Int} (h : PV p v) : 1 < p ∧ p ≤ 5 := by rcases h.p1 with h | h | h <;> omega
theorem nN_le {v : Int} (h6 : v ≤ 6) : 1 ≤ nN v ∧ nN v ≤ 64 := by
 unfold nN
 have h : v.toNat ≤ 6 := by omega
 have h1 : 2 ^ v.toNat ≤ 2 ^ 6 := Nat.pow_le_pow_right (by decide) h
 have h2 : 1 ≤ 2 ^ v.toNat := Nat.one_le_two_pow
 omega
theorem shl_pow {v : Int} (h0 : 0 ≤ v) (h6 : v ≤ 6) : shlK true 64 1 v = ((nN v : Nat) : Int) := by
 have : v = 0 ∨ v = 1 ∨ v = 2 ∨ v = 3 ∨ v = 4 ∨ v = 5 ∨ v = 6 := by omega
 rcases this with rfl | rfl | rfl | rfl | rfl | rfl | rfl <;> decide
theorem orK_nat {i j v : Nat} (hv : v ≤ 6) (hi : i < 2 ^ v) (hj : j < 2 ^ v) : orK true 64 ((i : Nat) : Int) ((j : Nat) : Int) = ((i ||| j : Nat) : Int) ∧ i ||| j < 2 ^ v := by
 have hlt := Nat.or_lt_two_pow hi hj
 refine ⟨?_, hlt⟩
 have h6 : 2 ^ v ≤ 2 ^ 6 := Nat.pow_le_pow_right (by decide) hv
 have e1 : i % 18446744073709551616 = i := Nat.mod_eq_of_lt (by omega)
 have e2 : j % 18446744073709551616 = j := Nat.mod_eq_of_lt (by omega)
 unfold orK
 rw [BitVec.toNat_or]
 simp only [BitVec.ofInt_natCast, BitVec.toNat_ofNat]
 rw [show (2 : Nat) ^ 64 = 18446744073709551616 from rfl, e1, e2]
 generalize i ||| j = m at hlt ⊢
 unfold wrk
 simp only [Bool.true_and]
 have : ((m : Nat) : Int) % (2 ^ 64 : Int) = (m : Int) := Int.emod_eq_of_lt (by omega) (by simp; omega)
 rw [this, if_neg (by simp; omega)]
theorem nn_ok {n : Int} (h : 0 ≤ n) : nn n = some () := by unfold nn; rw [if_neg (by omega)]
theorem nz_ok {n : Int} (h : n ≠ 0) : nz n = some () := by unfold nz; rw [if_neg h]
theorem wr_sm {n : Int} (h1 : -1000000 ≤ n) (h2 : n ≤ 1000000) : wr n = n := wr_of _ (by omega) (by omega)
theorem sp_loop {p : Int} (hp : p ≠ 0) {f : Nat → Int → List Term → Option (Lp (List Term) Empty)}
 (hf : ∀ i y s, f i y s = bif !((y.tmod p) == 0) then bd (app s [(Term.mk ((i : Nat) : Int) (y.tmod p))]) (fun xs => some (Lp.nx xs)) else some (Lp.nx s)) :
 ∀ {a : List Int} {i : Nat} {s : List Term}, s.length + a.length ≤ lim → forLFrom f a i s = some (.go (s ++ spF i (a.map fun y => y.tmod p))) := by
 intro a
 induction a with
 | nil => intro i s _; simp [forLFrom, spF]
 | cons x a ih =>
  intro i s hl
  simp only [List.length_cons] at hl
  simp only [List.map_cons, spF]
  cases h : x.tmod p == 0 with
  | true => rw [forLFrom_nx (s' := s) (by rw [hf, h]; rfl), ih (by omega)]; rfl
  | false =>
   rw [forLFrom_nx (s' := s ++ [⟨(i : Nat), x.tmod p⟩]) (by rw [hf, h]; simp only [Bool.not_false, cond_true]; rw [app_ok (by simp; omega), bd_some]), ih (by simp; omega)]
   simp
theorem spec_l18Sparse_eq {p : Int} (hp : p ≠ 0) {a : List Int} (hl : a.length ≤ lim) : spec_l18Sparse p a = some (sp (a.map fun y => y.tmod p)) := by
 unfold spec_l18Sparse forL
 rw [sp_loop hp (fun i y s => by rw [nz_ok hp, bd_some]) (by simpa using hl)]
 simp [sp]
theorem tmod_small {x p : Int} (h : 0 ≤ x ∧ x < p) : x.tmod p = x := Int.tmod_eq_of_lt h.1 h.2
theorem map_tmod {p : Int} {a : List Int} (h : ∀ x ∈ a, 0 ≤ x ∧ x < p) : (a.map fun y => y.tmod p) = a := by
 conv => rhs; rw [← List.map_id a]
 exact List.map_congr_left fun x hx => tmod_small (h x hx)
theorem dense_fold : ∀ (a pre : List Int), (spF pre.length a).foldl (fun s t => s.set t.mono.toNat t.coeff) (pre ++ List.replicate a.length 0) = pre ++ a
 | [], pre => by simp [spF]
 | x :: xs, pre => by
  simp only [spF, List.length_cons, List.replicate_succ]
  cases h : x == 0 with
  | true =>
   rw [beq_iff_eq] at h; subst h
   have := dense_fold xs (pre ++ [0])
   simp only [List.length_append, List.length_singleton, List.append_assoc, List.singleton_append] at this
   exact this
  | false =>
   have := dense_fold xs (pre ++ [x])
   simp only [List.length_append, List.length_singleton, List.append_assoc, List.singleton_append] at this
   simp only [cond_false, List.foldl_cons]
   have e : List.set (pre ++ (0 : Int) :: List.replicate xs.length 0) (((pre.length : Nat) : Int).toNat) x = pre ++ x :: List.replicate xs.length 0 := by simp
   rw [e]
   exact this
theorem mem_fuF : ∀ {a : List Int} {i : Nat} {t : Term}, t ∈ fuF i a → ∃ j : Nat, i ≤ j ∧ j < i + a.length ∧ t.mono = ((j : Nat) : Int) ∧ t.coeff ∈ a
 | [], _, _, h => by cases h
 | x :: xs, i, t, h => by
  rcases List.mem_cons.1 h with rfl | h
  · exact ⟨i, by omega, by simp, rfl, by simp⟩
  · obtain ⟨j, h1, h2, h3, h4⟩ := mem_fuF h
    exact ⟨j, by omega, by simp; omega, h3, by simp [h4]⟩
theorem mem_sp {a : List Int} {t : Term} (h : t ∈ sp a) : ∃ j : Nat, j < a.length ∧ t.mono = ((j : Nat) : Int) ∧ t.coeff ∈ a := by
 unfold sp at h; rw [spF_filter] at h
 obtain ⟨j, _, h2, h3, h4⟩ := mem_fuF (List.mem_filter.1 h).1
 exact ⟨j, by omega, h3, h4⟩
def zs (N : Nat) : List Int := List.replicate N 0
theorem zs_mk {v : Int} (h0 : 0 ≤ v) (h6 : v ≤ 6) : mk2 (0 : Int) (shlK true 64 1 v) (shlK true 64 1 v) = some (zs (nN v)) := by
 rw [shl_pow h0 h6]; exact mk2_ok (by have := nN_le h6; unfold lim; omega)
theorem spec_l18Dense_eq {v : Int} (h0 : 0 ≤ v) (h6 : v ≤ 6) {a : List Int} (ha : a.length = nN v) : spec_l18Dense v (sp a) = some a := by
 unfold spec_l18Dense
 rw [nn_ok h0, bd_some, zs_mk h0 h6, bd_some]
 refine bdR_foldI (X := Empty) (fun s (t : Term) => s.set t.mono.toNat t.coeff) (fun _ s => s.length = nN v) (by simp [zs]) (fun i t s ht hs => ?_) (fun _ => ?_)
 · obtain ⟨j, h1, h2, _⟩ := mem_sp (List.mem_of_getElem? ht)
   obtain ⟨x, hx⟩ : ∃ x, ix s t.mono = some x := by rw [h2, ix_get]; exact ⟨_, List.getElem?_eq_getElem (by omega)⟩
   rw [hx, bd_some, h2, put_ok (by omega), bd_some]
   exact ⟨by simp, by simp [hs]⟩
 · have := dense_fold a []
   simp only [List.length_nil, List.nil_append, ha] at this
   unfold sp zs
   rw [this]
theorem spec_l18Dense_nil {v : Int} (h0 : 0 ≤ v) (h6 : v ≤ 6) : spec_l18Dense v [] = some (zs (nN v)) := by
 unfold spec_l18Dense
 rw [nn_ok h0, bd_some, zs_mk h0 h6, bd_some]; rfl
theorem vadd_Dn {p k : Int} {N : Nat} {a b : List Int} (hp : 1 < p) (ha : a.length = N) (hb : b.length = N) : Dn p N (vadd p k a b) :=
 ⟨by unfold vadd; rw [List.length_zipWith, ha, hb]; omega, fun x hx => by
  unfold vadd at hx
  obtain ⟨i, hi, rfl⟩ := List.getElem_of_mem hx
  rw [List.getElem_zipWith]
  exact ⟨Int.emod_nonneg _ (by omega), Int.emod_lt_of_pos _ (by omega)⟩⟩
theorem mul_sm {k y : Int} (hk : 0 ≤ k ∧ k ≤ 5) (hy : 0 ≤ y ∧ y ≤ 5) : 0 ≤ k * y ∧ k * y ≤ 25 := by
 refine ⟨Int.mul_nonneg hk.1 hy.1, ?_⟩
 have := Int.mul_le_mul hk.2 hy.2 hy.1 (by omega)
 omega
theorem get_zip {f : Int → Int → Int} {a b : List Int} {j : Nat} {x y : Int} (hx : a[j]? = some x) (hy : b[j]? = some y) : (List.zipWith f a b)[j]? = some (f x y) := by
 rw [List.getElem?_zipWith, hx, hy]
@[irreducible] def lin (k x y : Int) : Int := x + k * y
theorem lin_eq (k x y : Int) : x + k * y = lin k x y := by unfold lin; rfl
theorem spec_l18Add_dense {p v k : Int} (h : PV p v) (hk : 0 ≤ k ∧ k ≤ 5) {A B : List Term} {a b : List Int} (hA : spec_l18Dense v A = some a) (hB : spec_l18Dense v B = some b) (ha : Dn p (nN v) a) (hb : Dn p (nN v) b) :
 spec_l18Add p v A B k = some (sp (vadd p k a b)) := by
 have hp := h.pos; have hN := nN_le h.v6
 unfold spec_l18Add
 rw [hA, bd_some, hB, bd_some]
 refine bdR_mk (X := Empty) (fun (s : List Int) i => (s, i)) (xs := (List.range (nN v))) (F := fun s j => match a[j]?, b[j]? with | some x, some y => s.set j (lin k x y) | _, _ => s) (s0 := a)
  (fun i s => s.length = nN v ∧ ∀ j, s[j]? = if j < i then (List.zipWith (lin k) a b)[j]? else a[j]?) rfl ⟨ha.len, fun j => by simp⟩ (fun i j s hj hs => ?_) (fun s hs => ?_) (fun hI => ?_)
 · obtain ⟨hi, rfl⟩ := List.getElem?_eq_some_iff.1 hj
   rw [List.getElem_range] at *
   rw [List.length_range] at hi
   have hal := ha.len; have hbl := hb.len
   have hxa : a[i]? = some a[i] := List.getElem?_eq_getElem (by rw [ha.len]; exact hi)
   have hyb : b[i]? = some b[i] := List.getElem?_eq_getElem (by rw [hb.len]; exact hi)
   have bx := ha.bd a[i] (List.getElem_mem _); have by_ := hb.bd b[i] (List.getElem_mem _)
   have hsi : s[i]? = some a[i] := by rw [hs.2, if_neg (Nat.lt_irrefl i), hxa]
   have hlt : decide ((i : Int) < len s) = true := by rw [decide_eq_true_eq, len_eq]; omega
   have hm := mul_sm hk (y := b[i]) ⟨by omega, by omega⟩
   have w1 : wr (k * b[i]) = k * b[i] := wr_sm (by omega) (by omega)
   have w2 : wr (a[i] + k * b[i]) = a[i] + k * b[i] := wr_sm (by omega) (by omega)
   have w3 : wr ((i : Int) + 1) = (i : Int) + 1 := wr_sm (by omega) (by omega)
   have hil : i < s.length := by rw [hs.1]; exact hi
   have hpu : ∀ z, put s (i : Int) z = some (s.set i z) := fun z => put_ok hil
   rw [hlt, cond_true, ix_get, hsi, bd_some, ix_get, hyb, bd_some, bd_some, w1, w2]
   dsimp only
   rw [hpu, bd_some, hxa]
   dsimp only
   rw [lin_eq]
   rw [w3]
   refine ⟨rfl, by rw [List.length_set, hs.1], fun j => ?_⟩
   rw [List.getElem?_set]
   by_cases hij : i = j
   · subst hij
     rw [if_pos rfl, if_pos hil, if_pos (Nat.lt_succ_self i), get_zip hxa hyb]
   · rw [if_neg hij, hs.2]
     by_cases hlt2 : j < i
     · rw [if_pos hlt2, if_pos (Nat.lt_succ_of_lt hlt2)]
     · rw [if_neg hlt2, if_neg (fun h => by rcases Nat.lt_succ_iff_lt_or_eq.1 h with h | h; exact hlt2 h; exact hij h.symm)]
 · have hlt : decide (((List.range (nN v)).length : Int) < len s) = false := by rw [decide_eq_false_iff_not, len_eq, List.length_range]; omega
   simp only [hlt, cond_false]
 · generalize (List.range (nN v)).foldl _ a = s at hI ⊢
   have es : s = List.zipWith (lin k) a b := by
    apply List.ext_getElem?
    intro j
    rw [hI.2, List.length_range]
    split
    · rfl
    · rw [List.getElem?_eq_none (by rw [ha.len]; omega), List.getElem?_eq_none (by rw [List.length_zipWith, ha.len]; omega)]
   rw [es]
   simp only
   rw [spec_l18Sparse_eq (by omega) (by rw [List.length_zipWith, ha.len]; unfold lim; omega), bd_some]
   congr 2
   unfold vadd
   rw [List.map_zipWith]
   apply List.ext_getElem?
   intro j
   rw [List.getElem?_zipWith, List.getElem?_zipWith]
   cases hx : a[j]? with
   | none => rfl
   | some x =>
    cases hy : b[j]? with
    | none => rfl
    | some y =>
     have bx := ha.bd x (List.mem_of_getElem? hx); have by_ := hb.bd y (List.mem_of_getElem? hy)
     have hm := mul_sm hk (y := y) ⟨by omega, by omega⟩
     simp only [Option.some.injEq]
     rw [← lin_eq]
     exact Int.tmod_eq_emod_of_nonneg (by omega)
theorem spec_l18Add_eq {p v k : Int} (h : PV p v) (hk : 0 ≤ k ∧ k ≤ 5) {a b : List Int} (ha : Dn p (nN v) a) (hb : Dn p (nN v) b) : spec_l18Add p v (sp a) (sp b) k = some (sp (vadd p k a b)) :=
 spec_l18Add_dense h hk (spec_l18Dense_eq h.v0 h.v6 ha.len) (spec_l18Dense_eq h.v0 h.v6 hb.len) ha hb
theorem zs_Dn {p : Int} {N : Nat} (hp : 1 < p) : Dn p N (zs N) := ⟨by simp [zs], fun x hx => by unfold zs at hx; rw [List.mem_replicate] at hx; omega⟩
theorem slices_Clone_dense_eq {c : List Int} (hl : c.length ≤ lim) : slices_Clone_impl_dense_int c = some c := by
 unfold slices_Clone_impl_dense_int; rw [app_ok (by simpa using hl)]; rfl
theorem impl_zero_eq {r : ring} (h : PV r.p r.vars) : impl_ring_zero r = some (zs (nN r.vars)) := by
 unfold impl_ring_zero
 rw [nn_ok h.v0, bd_some, zs_mk h.v0 h.v6, bd_some]
theorem impl_plus_eq {r : ring} {k : Int} (h : PV r.p r.vars) (hk : 0 ≤ k ∧ k ≤ 5) {a b : List Int} (ha : Dn r.p (nN r.vars) a) (hb : Dn r.p (nN r.vars) b) : impl_ring_plus r a b k = some (vadd r.p k a b) := by
 have hp := h.pos; have hN := nN_le h.v6
 unfold impl_ring_plus
 rw [slices_Clone_dense_eq (by rw [ha.len]; unfold lim; omega), bd_some]
 obtain ⟨s, h1, h2⟩ := forL_inv (X := Empty) (l := b) (s := a) (body := (fun i40 y39 s40 => bd (ix s40 ((i40 : Nat) : Int)) (fun x117132 => bd (nz r.p) (fun u141127 => bd (ix s40 ((i40 : Nat) : Int)) (fun x144132 => bd (put s40 ((i40 : Nat) : Int) ((wr (x117132 + (wr (k * y39)))).tmod r.p)) (fun xs147129 => some (Lp.nx xs147129)))))))
  (fun i s => s.length = nN r.vars ∧ ∀ j, s[j]? = if j < i then (vadd r.p k a b)[j]? else a[j]?) ⟨ha.len, fun j => by simp⟩ (fun i y s hy hs => by
   have hi := (List.getElem?_eq_some_iff.1 hy).1
   rw [hb.len] at hi
   have hal := ha.len; have hbl := hb.len
   have hxa : a[i]? = some a[i] := List.getElem?_eq_getElem (by rw [ha.len]; exact hi)
   have bx := ha.bd a[i] (List.getElem_mem _); have by_ := hb.bd y (List.mem_of_getElem? hy)
   have hsi : s[i]? = some a[i] := by rw [hs.2, if_neg (Nat.lt_irrefl i), hxa]
   have hm := mul_sm hk (y := y) ⟨by omega, by omega⟩
   have w1 : wr (k * y) = k * y := wr_sm (by omega) (by omega)
   have w2 : wr (a[i] + k * y) = a[i] + k * y := wr_sm (by omega) (by omega)
   have w3 : (a[i] + k * y).tmod r.p = (a[i] + k * y) % r.p := Int.tmod_eq_emod_of_nonneg (by omega)
   have hil : i < s.length := by rw [hs.1]; exact hi
   have hpu : ∀ z, put s (i : Int) z = some (s.set i z) := fun z => put_ok hil
   simp only [ix_get, hsi, bd_some, nz_ok (show r.p ≠ 0 by omega), w1, w2, w3, hpu]
   refine ⟨_, rfl, by simp [hs.1], fun j => ?_⟩
   rw [List.getElem?_set]
   by_cases hij : i = j
   · subst hij
     rw [if_pos rfl, if_pos hil, if_pos (Nat.lt_succ_self i)]
     unfold vadd; rw [get_zip hxa hy]
   · rw [if_neg hij, hs.2]
     by_cases hlt2 : j < i
     · rw [if_pos hlt2, if_pos (Nat.lt_succ_of_lt hlt2)]
     · rw [if_neg hlt2, if_neg (fun h => by rcases Nat.lt_succ_iff_lt_or_eq.1 h with h | h; exact hlt2 h; exact hij h.symm)])
 rw [h1, bdR_go]
 have es : s = vadd r.p k a b := by
  apply List.ext_getElem?
  intro j
  rw [h2.2, hb.len]
  split
  · rfl
  · rw [List.getElem?_eq_none (by rw [ha.len]; omega), List.getElem?_eq_none (by rw [(vadd_Dn hp.1 ha.len hb.len).len]; omega)]
 rw [es]
end Go.PF
namespace Go.PF
open Go.Pu
open Go.La (vadd co)
theorem forL_sim {S X α σ : Type} {body : Nat → α → S → Option (Lp S X)} {F : σ → α → σ} (R : Nat → σ → S → Prop) {l : List α} {s : S} {t0 : σ} (h0 : R 0 t0 s)
 (hb : ∀ i x t s, l[i]? = some x → R i t s → ∃ s', body i x s = some (.nx s') ∧ R (i + 1) (F t x) s') : ∃ s', forL l body s = some (.go s') ∧ R l.length (l.foldl F t0) s' := by
 obtain ⟨s', h1, h2⟩ := forL_inv (X := X) (body := body) (fun i s => R i ((l.take i).foldl F t0) s) (l := l) (s := s) (by simpa using h0) (fun i x s hx hR => by
  obtain ⟨s', h1, h2⟩ := hb i x _ s hx hR
  refine ⟨s', h1, ?_⟩
  rw [List.take_add_one, hx]
  simpa using h2)
 rw [List.take_length] at h2
 exact ⟨s', h1, h2⟩
theorem bdR_sim {S X α σ β : Type} {body : Nat → α → S → Option (Lp S X)} {F : σ → α → σ} (R : Nat → σ → S → Prop) {l : List α} {s : S} {t0 : σ} {k : S → Option β} {lx : X → Option β} {r : Option β} (h0 : R 0 t0 s)
 (hb : ∀ i x t s, l[i]? = some x → R i t s → ∃ s', body i x s = some (.nx s') ∧ R (i + 1) (F t x) s') (hk : ∀ s', R l.length (l.foldl F t0) s' → k s' = r) : bdR (forL l body s) k lx = r := by
 obtain ⟨s', h1, h2⟩ := forL_sim R h0 hb
 rw [h1, bdR_go]; exact hk s' h2
def ms (p : Int) (acc : List Int) (t u : Term) : List Int := acc.set (t.mono.toNat ||| u.mono.toNat) ((co acc (t.mono.toNat ||| u.mono.toNat) + t.coeff * u.coeff) % p)
def mulT (p : Int) (N : Nat) (A B : List Term) : List Int := A.foldl (fun acc t => B.foldl (fun acc u => ms p acc t u) acc) (zs N)
structure TOk (p : Int) (N : Nat) (t : Term) : Prop where
 m : ∃ j : Nat, j < N ∧ t.mono = ((j : Nat) : Int)
 c : 0 ≤ t.coeff ∧ t.coeff < p
theorem sp_TOk {p : Int} {N : Nat} {a : List Int} (h : Dn p N a) : ∀ t ∈ sp a, TOk p N t := fun t ht => by
 obtain ⟨j, h1, h2, h3⟩ := mem_sp ht
 exact ⟨⟨j, by rw [← h.len]; exact h1, h2⟩, h.bd _ h3⟩
theorem fu_TOk {p : Int} {N : Nat} {a : List Int} (h : Dn p N a) : ∀ t ∈ fu a, TOk p N t := fun t ht => by
 obtain ⟨j, _, h2, h3, h4⟩ := mem_fuF ht
 exact ⟨⟨j, by rw [← h.len]; omega, h3⟩, h.bd _ h4⟩
theorem co_bd {p : Int} {N : Nat} {a : List Int} (hp : 1 < p) (h : Dn p N a) (m : Nat) : 0 ≤ co a m ∧ co a m < p := by
 by_cases hm : m < a.length
 · exact h.bd _ (List.mem_of_getElem? (Go.La.co_eq hm))
 · rw [Go.La.co_ge (by omega)]; omega
theorem ms_Dn {p : Int} {N : Nat} {acc : List Int} {t u : Term} (hp : 1 < p) (h : Dn p N acc) : Dn p N (ms p acc t u) :=
 ⟨by unfold ms; rw [List.length_set, h.len], fun x hx => by
  unfold ms at hx
  rcases List.mem_or_eq_of_mem_set hx with hx | rfl
  · exact h.bd x hx
  · exact ⟨Int.emod_nonneg _ (by omega), Int.emod_lt_of_pos _ (by omega)⟩⟩
theorem ms_in {p : Int} {N : Nat} {t : Term} (hp : 1 < p) : ∀ {B : List Term} {acc : List Int}, Dn p N acc → Dn p N (B.foldl (fun acc u => ms p acc t u) acc)
 | [], _, h => h
 | u :: B, acc, h => ms_in hp (B := B) (ms_Dn hp h)
theorem ms_out {p : Int} {N : Nat} {B : List Term} (hp : 1 < p) : ∀ {A : List Term} {acc : List Int}, Dn p N acc → Dn p N (A.foldl (fun acc t => B.foldl (fun acc u => ms p acc t u) acc) acc)
 | [], _, h => h
 | t :: A, acc, h => ms_out hp (A := A) (ms_in hp h)
theorem mulT_Dn {p : Int} {N : Nat} (hp : 1 < p) (A B : List Term) : Dn p N (mulT p N A B) := ms_out hp (zs_Dn hp)
theorem ms_zero {p : Int} {N : Nat} {acc : List Int} {t u : Term} (hp : 1 < p) (h : Dn p N acc) (hz : t.coeff * u.coeff = 0) : ms p acc t u = acc := by
 unfold ms
 generalize t.mono.toNat ||| u.mono.toNat = m
 have hb := co_bd hp h m
 rw [hz, Int.add_zero, Int.emod_eq_of_lt hb.1 hb.2]
 apply List.ext_getElem?
 intro j
 rw [List.getElem?_set]
 by_cases hj : m = j
 · subst hj
   rw [if_pos rfl]
   by_cases hm : m < acc.length
   · rw [if_pos hm, Go.La.co_eq hm]
   · rw [if_neg hm, List.getElem?_eq_none (by omega)]
 · rw [if_neg hj]
theorem foldl_filter_id {α β : Type} {f : β → α → β} {q : α → Bool} {I : β → Prop} (hI : ∀ b a, I b → I (f b a)) : ∀ {l : List α} {b : β}, I b → (∀ b a, I b → a ∈ l → q a = false → f b a = b) → (l.filter q).foldl f b = l.foldl f b
 | [], _, _, _ => rfl
 | a :: l, b, hb, h => by
  rw [List.foldl_cons, List.filter_cons]
  cases hq : q a with
  | true =>
   simp only [if_true, List.foldl_cons]
   exact foldl_filter_id hI (hI b a hb) fun b a hb ha => h b a hb (by simp [ha])
  | false =>
   rw [h b a hb (by simp) hq]
   exact foldl_filter_id hI hb fun b a hb ha => h b a hb (by simp [ha])
theorem mulT_fu {p : Int} {N : Nat} (hp : 1 < p) (a b : List Int) : mulT p N (fu a) (fu b) = mulT p N (sp a) (sp b) := by
 have h1 : ∀ (t : Term) (acc : List Int), Dn p N acc → (sp b).foldl (fun acc u => ms p acc t u) acc = (fu b).foldl (fun acc u => ms p acc t u) acc := fun t acc h => by
  unfold sp; rw [spF_filter]
  exact foldl_filter_id (I := Dn p N) (fun _ _ h => ms_Dn hp h) h fun b u hb _ hq => ms_zero hp hb (by rw [show u.coeff = 0 by simpa using hq, Int.mul_zero])
 have h2 : ∀ (A : List Term) (acc : List Int), Dn p N acc → A.foldl (fun acc t => (sp b).foldl (fun acc u => ms p acc t u) acc) acc = A.foldl (fun acc t => (fu b).foldl (fun acc u => ms p acc t u) acc) acc := by
  intro A
  induction A with
  | nil => intro acc _; rfl
  | cons t A ih => intro acc h; simp only [List.foldl_cons]; rw [h1 t acc h]; exact ih _ (ms_in hp h)
 unfold mulT
 rw [h2 _ _ (zs_Dn hp)]
 conv => rhs; unfold sp; rw [spF_filter]
 refine (foldl_filter_id (I := Dn p N) (fun _ _ h => ms_in hp h) (zs_Dn hp) fun acc t hb _ hq => ?_).symm
 have hz : t.coeff = 0 := by simpa using hq
 have : ∀ (B : List Term), B.foldl (fun acc u => ms p acc t u) acc = acc := by
  intro B
  induction B with
  | nil => rfl
  | cons u B ih => rw [List.foldl_cons, ms_zero hp hb (by rw [hz]; simp)]; exact ih
 exact this _
theorem mul_round {p : Int} {v : Int} (h : PV p v) {t u : Term} (ht : TOk p (nN v) t) (hu : TOk p (nN v) u) {s : List Int} (hs : Dn p (nN v) s) :
 bd (ix s (orK true 64 t.mono u.mono)) (fun x => bd (nz p) (fun _ => bd (ix s (orK true 64 t.mono u.mono)) (fun _ => bd (put s (orK true 64 t.mono u.mono) ((wr (x + (wr (t.coeff * u.coeff)))).tmod p)) (fun xs => some (Lp.nx (X := Empty) xs))))) = some (.nx (ms p s t u)) := by
 have hp := h.pos
 obtain ⟨i, hi, ei⟩ := ht.m; obtain ⟨j, hj, ej⟩ := hu.m
 obtain ⟨o1, o2⟩ := orK_nat (v := v.toNat) (by have := h.v6; omega) hi hj
 have hm : i ||| j < s.length := by rw [hs.len]; exact o2
 have hg : s[i ||| j]? = some (co s (i ||| j)) := Go.La.co_eq hm
 have hb := co_bd hp.1 hs (i ||| j)
 have hc := ht.c; have hd := hu.c
 have hx := mul_sm (k := t.coeff) (y := u.coeff) ⟨by omega, by omega⟩ ⟨by omega, by omega⟩
 have w1 : wr (t.coeff * u.coeff) = t.coeff * u.coeff := wr_sm (by omega) (by omega)
 have w2 : wr (co s (i ||| j) + t.coeff * u.coeff) = co s (i ||| j) + t.coeff * u.coeff := wr_sm (by omega) (by omega)
 have w3 : (co s (i ||| j) + t.coeff * u.coeff).tmod p = (co s (i ||| j) + t.coeff * u.coeff) % p := Int.tmod_eq_emod_of_nonneg (by omega)
 unfold ms
 rw [ei, ej, o1]
 simp only [ix_get, hg, bd_some, nz_ok (show p ≠ 0 by omega), w1, w2, w3, put_ok hm, Int.toNat_natCast]
theorem mul_inner {p v : Int} (h : PV p v) {t : Term} (ht : TOk p (nN v) t) {B : List Term} (hB : ∀ u ∈ B, TOk p (nN v) u) {s : List Int} (hs : Dn p (nN v) s)
 {f : Nat → Term → List Int → Option (Lp (List Int) Empty)} (hf : ∀ i u s, f i u s = bd (ix s (orK true 64 t.mono u.mono)) (fun x => bd (nz p) (fun _ => bd (ix s (orK true 64 t.mono u.mono)) (fun _ => bd (put s (orK true 64 t.mono u.mono) ((wr (x + (wr (t.coeff * u.coeff)))).tmod p)) (fun xs => some (Lp.nx xs)))))) :
 forL B f s = some (.go (B.foldl (fun acc u => ms p acc t u) s)) :=
 (forL_foldI (fun acc u => ms p acc t u) (l := B) (s := s) (fun _ s => Dn p (nN v) s) hs (fun i u s hu hs => ⟨by rw [hf]; exact mul_round h ht (hB u (List.mem_of_getElem? hu)) hs, ms_Dn h.pos.1 hs⟩)).1
theorem spec_l18Mul_eq {p v : Int} (h : PV p v) {A B : List Term} (hA : ∀ t ∈ A, TOk p (nN v) t) (hB : ∀ u ∈ B, TOk p (nN v) u) : spec_l18Mul p v A B = some (sp (mulT p (nN v) A B)) := by
 have hp := h.pos; have hN := nN_le h.v6
 unfold spec_l18Mul
 rw [nn_ok h.v0, bd_some, zs_mk h.v0 h.v6, bd_some]
 refine bdR_foldI (X := Empty) (fun acc t => B.foldl (fun acc u => ms p acc t u) acc) (fun _ s => Dn p (nN v) s) (zs_Dn hp.1) (fun i t s ht hs => ?_) (fun hI => ?_)
 · have htk := hA t (List.mem_of_getElem? ht)
   rw [mul_inner h htk hB hs (fun _ _ _ => rfl), bdR_go]
   exact ⟨rfl, ms_in hp.1 hs⟩
 · rw [spec_l18Sparse_eq (by omega) (by rw [hI.len]; unfold lim; omega), bd_some, map_tmod hI.bd]
   rfl
theorem forL_fu {S X : Type} {F : Int → Int → S → Option (Lp S X)} : ∀ {a : List Int} {i k : Nat} {s : S}, forLFrom (fun i y s => F ((i : Nat) : Int) y s) a i s = forLFrom (fun _ (t : Term) s => F t.mono t.coeff s) (fuF i a) k s
 | [], _, _, _ => rfl
 | x :: a, i, k, s => by
  simp only [fuF, forLFrom]
  cases F ((i : Nat) : Int) x s with
  | none => rfl
  | some q =>
   cases q with
   | nx s' => exact forL_fu
   | bk s' => rfl
   | rt x => rfl
theorem impl_times_eq {r : ring} (h : PV r.p r.vars) {a b : List Int} (ha : Dn r.p (nN r.vars) a) (hb : Dn r.p (nN r.vars) b) : impl_ring_times r a b = some (mulT r.p (nN r.vars) (sp a) (sp b)) := by
 have hp := h.pos
 unfold impl_ring_times
 rw [impl_zero_eq h, bd_some, ← mulT_fu hp.1]
 unfold forL
 refine Eq.trans (congrArg (fun z => bdR z _ _) (forL_fu (X := Empty) (k := 0) (F := fun m y s40 => bdR (forLFrom (S := (List Int)) (X := Empty) (fun i252331 y252330 s252331 => bd (ix s252331 (orK true 64 m ((i252331 : Nat) : Int))) (fun x405448 => bd (nz r.p) (fun u429443 => bd (ix s252331 (orK true 64 m ((i252331 : Nat) : Int))) (fun x432448 => bd (put s252331 (orK true 64 m ((i252331 : Nat) : Int)) ((wr (x405448 + (wr (y * y252330)))).tmod r.p)) (fun xs435445 => some (Lp.nx xs435445)))))) b 0 s40) (fun s252331 => some (Lp.nx s252331)) (fun x252331 => nomatch x252331)))) ?_
 refine bdR_foldI (X := Empty) (fun acc t => (fu b).foldl (fun acc u => ms r.p acc t u) acc) (l := fu a) (fun _ s => Dn r.p (nN r.vars) s) (zs_Dn hp.1) (fun i t s ht hs => ?_) (fun hI => rfl)
 have htk := fu_TOk ha t (List.mem_of_getElem? ht)
 have e2 := forL_fu (X := Empty) (a := b) (i := 0) (s := s) (k := 0) (F := fun m y s252331 => bd (ix s252331 (orK true 64 t.mono m)) (fun x405448 => bd (nz r.p) (fun u429443 => bd (ix s252331 (orK true 64 t.mono m)) (fun x432448 => bd (put s252331 (orK true 64 t.mono m) ((wr (x405448 + (wr (t.coeff * y)))).tmod r.p)) (fun xs435445 => some (Lp.nx xs435445))))))
 have := mul_inner h htk (fu_TOk hb) hs (f := fun _ (u : Term) s252331 => bd (ix s252331 (orK true 64 t.mono u.mono)) (fun x405448 => bd (nz r.p) (fun u429443 => bd (ix s252331 (orK true 64 t.mono u.mono)) (fun x432448 => bd (put s252331 (orK true 64 t.mono u.mono) ((wr (x405448 + (wr (t.coeff * u.coeff)))).tmod r.p)) (fun xs435445 => some (Lp.nx xs435445)))))) (fun _ _ _ => rfl)
 unfold forL at this
 have e3 := e2.trans this
 refine ⟨?_, ms_in hp.1 hs⟩
 exact (congrArg (fun z => bdR z _ _) e3).trans rfl
def eD (N k : Nat) : List Int := (zs N).set k 1
def bt (u : Int) : Nat := nN (u - 1)
theorem bt_lt {u v : Int} (h1 : 1 ≤ u) (h2 : u ≤ v) : 1 ≤ bt u ∧ bt u < nN v := by
 unfold bt nN
 exact ⟨Nat.one_le_two_pow, Nat.pow_lt_pow_right (by decide) (by omega)⟩
theorem eD_Dn {p : Int} {N k : Nat} (hp : 1 < p) : Dn p N (eD N k) :=
 ⟨by simp [eD, zs], fun x hx => by
  unfold eD at hx
  rcases List.mem_or_eq_of_mem_set hx with hx | rfl
  · exact (zs_Dn hp).bd x hx
  · omega⟩
theorem spF_zero : ∀ {n i : Nat}, spF i (List.replicate n 0) = []
 | 0, _ => rfl
 | n + 1, i => by rw [List.replicate_succ]; simp only [spF, BEq.rfl, cond_true]; exact spF_zero
theorem spF_set {x : Int} (hx : x ≠ 0) : ∀ {n i k : Nat}, k < n → spF i ((List.replicate n 0).set k x) = [⟨((i + k : Nat) : Int), x⟩]
 | 0, _, _, h => by omega
 | n + 1, i, 0, _ => by
  rw [List.replicate_succ, List.set_cons_zero]
  simp only [spF, show (x == 0) = false by rw [beq_eq_false_iff_ne]; exact hx, cond_false, spF_zero, Nat.add_zero]
 | n + 1, i, k + 1, h => by
  rw [List.replicate_succ, List.set_cons_succ]
  simp only [spF, BEq.rfl, cond_true]
  rw [spF_set hx (show k < n by omega), show i + 1 + k = i + (k + 1) by omega]
theorem sp_eD {N k : Nat} (h : k < N) : sp (eD N k) = [⟨((k : Nat) : Int), 1⟩] := by
 unfold sp eD zs
 rw [spF_set (by decide) h, Nat.zero_add]
def litD (p : Int) (N : Nat) (l : Int) : List Int := bif decide (0 < l) then eD N (bt l) else vadd p (p - 1) (eD N 0) (eD N (bt (-l)))
theorem litD_Dn {p : Int} {N : Nat} (hp : 1 < p) (l : Int) : Dn p N (litD p N l) := by
 unfold litD
 cases decide (0 < l)
 · exact vadd_Dn hp (eD_Dn hp).len (eD_Dn hp).len
 · exact eD_Dn hp
theorem zip_set {p k : Int} (hp : 1 < p) (hk : 0 ≤ k ∧ k < p) : ∀ {n m : Nat}, List.zipWith (fun x y => (x + k * y) % p) (List.replicate n 0) ((List.replicate n 0).set m 1) = (List.replicate n 0).set m k
 | 0, m => by simp
 | n + 1, 0 => by
  rw [List.replicate_succ, List.set_cons_zero, List.set_cons_zero, List.zipWith_cons_cons]
  have e : (0 + k * 1) % p = k := by rw [Int.zero_add, Int.mul_one]; exact Int.emod_eq_of_lt hk.1 hk.2
  rw [e]
  congr 1
  rw [List.zipWith_replicate]
  simp
 | n + 1, m + 1 => by
  rw [List.replicate_succ, List.set_cons_succ, List.set_cons_succ, List.zipWith_cons_cons, zip_set hp hk]
  simp
theorem sp_lit_pos {p v u : Int} (h1 : 1 ≤ u) (h2 : u ≤ v) : sp (litD p (nN v) u) = [⟨((bt u : Nat) : Int), 1⟩] := by
 unfold litD
 rw [show decide (0 < u) = true from decide_eq_true (by omega), cond_true]
 exact sp_eD (bt_lt h1 h2).2
theorem sp_lit_neg {p v u : Int} (hp : 1 < p) (h1 : 1 ≤ u) (h2 : u ≤ v) : sp (litD p (nN v) (-u)) = [⟨0, 1⟩, ⟨((bt u : Nat) : Int), p - 1⟩] := by
 unfold litD
 rw [show decide (0 < -u) = false from decide_eq_false (by omega), cond_false, Int.neg_neg]
 obtain ⟨b1, b2⟩ := bt_lt h1 h2
 generalize nN v = N at b2 ⊢
 obtain ⟨n, rfl⟩ : ∃ n, N = n + 1 := ⟨N - 1, by omega⟩
 obtain ⟨m, hm⟩ : ∃ m, bt u = m + 1 := ⟨bt u - 1, by omega⟩
 rw [hm]
 have e : vadd p (p - 1) (eD (n + 1) 0) (eD (n + 1) (m + 1)) = 1 :: (List.replicate n 0).set m (p - 1) := by
  unfold vadd eD zs
  rw [List.replicate_succ, List.set_cons_zero, List.set_cons_succ, List.zipWith_cons_cons, zip_set hp ⟨by omega, by omega⟩]
  congr 1
  rw [Int.mul_zero, Int.add_zero]; exact Int.emod_eq_of_lt (by omega) hp
 rw [e]
 unfold sp
 simp only [spF, show ((1 : Int) == 0) = false from rfl, cond_false]
 rw [spF_set (by omega) (by omega), show 0 + 1 + m = m + 1 by omega]
 rfl
theorem impl_mono_eq {r : ring} (h : PV r.p r.vars) {k : Nat} (hk : k < nN r.vars) : impl_ring_mono r ((k : Nat) : Int) = some (eD (nN r.vars) k) := by
 unfold impl_ring_mono
 rw [impl_zero_eq h, bd_some, ix_get, show (zs (nN r.vars))[k]? = some 0 by unfold zs; rw [List.getElem?_replicate, if_pos hk], bd_some, put_ok (by simp [zs]; exact hk), bd_some]
 rfl
theorem shl_bt {u : Int} (h1 : 1 ≤ u) (h2 : u ≤ 6) : shlK true 64 1 (wr (u - 1)) = ((bt u : Nat) : Int) := by
 rw [wr_sm (by omega) (by omega)]
 exact shl_pow (by omega) (by omega)
theorem impl_literal_eq {r : ring} (h : PV r.p r.vars) {l : Int} (h0 : l ≠ 0) (h1 : -r.vars ≤ l) (h2 : l ≤ r.vars) : impl_ring_literal r l = some (litD r.p (nN r.vars) l) := by
 have hp := h.pos; have h6 := h.v6
 unfold impl_ring_literal litD
 cases hd : decide (0 < l) with
 | true =>
  have hl := of_decide_eq_true hd
  simp only [cond_true]
  rw [nn_ok (by rw [wr_sm (by omega) (by omega)]; omega), bd_some, shl_bt (by omega) (by omega), impl_mono_eq h (bt_lt (by omega) h2).2, bd_some]
 | false =>
  have hl := of_decide_eq_false hd
  have e : wr (-l) = -l := wr_sm (by omega) (by omega)
  have m0 : impl_ring_mono r 0 = some (eD (nN r.vars) 0) := impl_mono_eq h (k := 0) (by have := nN_le h.v6; omega)
  simp only [cond_false]
  rw [m0, bd_some, e, nn_ok (by rw [wr_sm (by omega) (by omega)]; omega), bd_some, shl_bt (u := -l) (by omega) (by omega), impl_mono_eq h (bt_lt (u := -l) (by omega) (by omega)).2, bd_some,
   wr_sm (show -1000000 ≤ r.p - 1 by omega) (by omega), impl_plus_eq h ⟨by omega, by omega⟩ (eD_Dn hp.1) (eD_Dn hp.1), bd_some]
def clD (p : Int) (N : Nat) (c : List Int) : List Int := c.foldl (fun acc l => mulT p N (sp acc) (sp (litD p N (-l)))) (eD N 0)
theorem clD_Dn {p : Int} {N : Nat} (hp : 1 < p) (c : List Int) : Dn p N (clD p N c) := by
 unfold clD
 have : ∀ (c : List Int) (a : List Int), Dn p N a → Dn p N (c.foldl (fun acc l => mulT p N (sp acc) (sp (litD p N (-l)))) a) := by
  intro c
  induction c with
  | nil => intro a h; exact h
  | cons l c ih => intro a h; exact ih _ (mulT_Dn hp _ _)
 exact this c _ (eD_Dn hp)
theorem IsC.lits {V : Int} {c : List Int} (h : IsC V c) : ∀ l ∈ c, -V ≤ l ∧ l ≤ V ∧ l ≠ 0 := fun l hl => by have := h.lit l hl; omega
theorem vr_nat {l : Int} (h1 : -12 ≤ l) (h2 : l ≤ 12) : vr l = bif decide (l < 0) then -l else l := by
 unfold vr
 rw [wr_sm (n := -l) (by omega) (by omega)]
theorem spec_l18Clause_eq {p v : Int} (h : PV p v) {c : List Int} (hc : IsC v c) : spec_l18Clause p v c = some (sp (clD p (nN v) c)) := by
 have hp := h.pos; have h6 := h.v6; have hN := nN_le h.v6
 unfold spec_l18Clause
 refine bdR_sim (X := Empty) (F := fun acc l => mulT p (nN v) (sp acc) (sp (litD p (nN v) (-l)))) (t0 := eD (nN v) 0) (fun _ t s => s = sp t ∧ Dn p (nN v) t) ⟨by rw [sp_eD (N := nN v) (k := 0) (by omega)]; rfl, eD_Dn hp.1⟩ (fun i l t s hl hs => ?_) (fun s' hs' => ?_)
 · obtain ⟨rfl, hD⟩ := hs
   have hlt := hc.lits l (List.mem_of_getElem? hl)
   have hv := vr_nat (l := l) (by omega) (by omega)
   refine ⟨_, ?_, rfl, mulT_Dn hp.1 _ _⟩
   simp only [spec_l2Var_eq]
   cases hd : decide (l < 0) with
   | true =>
    have hn := of_decide_eq_true hd
    rw [hd, cond_true] at hv
    rw [hv, nn_ok (by rw [wr_sm (by omega) (by omega)]; omega), bd_some, shl_bt (u := -l) (by omega) (by omega)]
    simp only [cond_true]
    rw [← sp_lit_pos (p := p) (v := v) (u := -l) (by omega) (by omega), spec_l18Mul_eq h (sp_TOk hD) (sp_TOk (litD_Dn hp.1 _)), bd_some]
   | false =>
    have hn := of_decide_eq_false hd
    rw [hd, cond_false] at hv
    rw [hv, nn_ok (by rw [wr_sm (by omega) (by omega)]; omega), bd_some, shl_bt (u := l) (by omega) (by omega), wr_sm (show -1000000 ≤ p - 1 by omega) (by omega)]
    simp only [cond_false]
    rw [← sp_lit_neg (p := p) (v := v) (u := l) hp.1 (by omega) (by omega), spec_l18Mul_eq h (sp_TOk hD) (sp_TOk (litD_Dn hp.1 _)), bd_some]
 · rw [hs'.1]; rfl
theorem impl_ring_clause_eq {r : ring} (h : PV r.p r.vars) {c : List Int} (hc : IsC r.vars c) : impl_ring_clause r c = some (clD r.p (nN r.vars) c) := by
 have hp := h.pos; have h6 := h.v6; have hN := nN_le h.v6
 unfold impl_ring_clause
 have m0 : impl_ring_mono r 0 = some (eD (nN r.vars) 0) := impl_mono_eq h (k := 0) (by omega)
 rw [m0, bd_some]
 refine bdR_foldI (X := Empty) (fun acc l => mulT r.p (nN r.vars) (sp acc) (sp (litD r.p (nN r.vars) (-l)))) (fun _ t => Dn r.p (nN r.vars) t) (eD_Dn hp.1) (fun i l t hl hD => ?_) (fun _ => rfl)
 have hlt := hc.lits l (List.mem_of_getElem? hl)
 rw [wr_sm (n := -l) (by omega) (by omega), impl_literal_eq h (by omega) (by omega) (by omega), bd_some, impl_times_eq h hD (litD_Dn hp.1 _), bd_some]
 exact ⟨rfl, mulT_Dn hp.1 _ _⟩
end Go.PF
namespace Go.PF
open Go.Pu
open Go.La (vadd co)
def sumD (p : Int) (N : Nat) (a : List Int) (x : Int) (b : List Int) (y : Int) : List Int := vadd p y (vadd p x (zs N) a) b
theorem sumD_Dn {p x y : Int} {N : Nat} {a b : List Int} (hp : 1 < p) (ha : Dn p N a) (hb : Dn p N b) : Dn p N (sumD p N a x b y) := vadd_Dn hp (vadd_Dn hp (zs_Dn hp).len ha.len).len hb.len
abbrev WS := List (List Int) × List PcStep × Int
structure Ps (p : Int) (N : Nat) (ps : List (List Int)) (st : List PcStep) : Prop where
 len : ps.length = st.length
 dn : ∀ q ∈ ps, Dn p N q
 sp : ∀ (j : Nat) s q, st[j]? = some s → ps[j]? = some q → s.poly = sp q
structure Wo (p : Int) (N L n : Nat) (s : WS) : Prop where
 ps : Ps p N s.1 s.2.1
 now0 : 0 ≤ s.2.2
 now1 : s.2.2 < s.2.1.length
 lo : L ≤ s.2.1.length
 hi : s.2.1.length ≤ L + 2 * n
 ex : n = 0 ∨ (L : Int) ≤ s.2.2
theorem spec_l20Times_eq {p v : Int} (h : PV p v) {a : List Int} (ha : Dn p (nN v) a) {u : Int} (h1 : 1 ≤ u) (h2 : u ≤ v) : spec_l20Times p v (sp a) u = some (sp (mulT p (nN v) (sp a) (sp (litD p (nN v) u)))) := by
 have h6 := h.v6
 unfold spec_l20Times
 rw [nn_ok (by rw [wr_sm (by omega) (by omega)]; omega), bd_some, shl_bt h1 (by omega), ← sp_lit_pos (p := p) h1 h2, spec_l18Mul_eq h (sp_TOk ha) (sp_TOk (litD_Dn h.pos.1 _)), bd_some]
theorem spec_l20Sum_eq {p v x y : Int} (h : PV p v) (hx : 0 ≤ x ∧ x ≤ 5) (hy : 0 ≤ y ∧ y ≤ 5) {a b : List Int} (ha : Dn p (nN v) a) (hb : Dn p (nN v) b) : spec_l20Sum p v (sp a) x (sp b) y = some (sp (sumD p (nN v) a x b y)) := by
 have hp := h.pos
 unfold spec_l20Sum
 rw [spec_l18Add_dense h hx (spec_l18Dense_nil h.v0 h.v6) (spec_l18Dense_eq h.v0 h.v6 ha.len) (zs_Dn hp.1) ha, bd_some, spec_l18Add_eq h hy (vadd_Dn hp.1 (zs_Dn hp.1).len ha.len) hb, bd_some]
 rfl
abbrev TS := List Int × List (List Int) × List PcStep
structure To (p v : Int) (i : Nat) (w : TS) : Prop where
 len : w.1.length = i
 ps : Ps p (nN v) w.2.1 w.2.2
 le : w.2.2.length ≤ 60 * i
 inr : ∀ k ∈ w.1, 0 ≤ k ∧ k < w.2.2.length
end Go.PF
namespace Go.PF
open Go.Pu
open Go.La (vadd co)
def pvB (p v : Int) : Bool := (p == 2 || p == 3 || p == 5) && inB v 0 6
theorem pvB_iff {p v : Int} : pvB p v = true ↔ PV p v := by
 unfold pvB
 rw [Bool.and_eq_true, Bool.or_eq_true, Bool.or_eq_true, beq_iff_eq, beq_iff_eq, beq_iff_eq, inB_iff]
 constructor
 · rintro ⟨h1, h2, h3⟩; exact ⟨by rcases h1 with (h | h) | h <;> omega, h2, h3⟩
 · rintro ⟨h1, h2, h3⟩; exact ⟨by rcases h1 with h | h | h <;> simp [h], h2, h3⟩
theorem bif_or (a b : Bool) : (bif a then true else b) = (a || b) := by cases a <;> rfl
theorem bif_and (a b : Bool) : (bif a then b else false) = (a && b) := by cases a <;> rfl
theorem spec_l18Prime_eq (p v : Int) : spec_l18Prime p v = pvB p v := by
 unfold spec_l18Prime pvB
 rw [spec_l1In_eq, bif_or, bif_or, bif_and]
theorem impl_ringOf_eq (p v : Int) : impl_ringOf p v = (⟨p, v⟩, pvB p v) := by
 unfold impl_ringOf pvB
 rw [impl_within_eq, bif_or, bif_or, bif_and]
def alg (p : Int) (F : Cnf) : algebra := ⟨⟨p, F.vars⟩, ⟨F.vars, F.clauses⟩, F.clauses.map fun c => clD p (nN F.vars) c⟩
def algB (p : Int) (F : Cnf) : Bool := pvB p F.vars && cnfB F
theorem cnf_bds {F : Cnf} (h : cnfB F = true) : F.clauses.length ≤ 60 ∧ ∀ c ∈ F.clauses, IsC F.vars c := by
 unfold cnfB at h
 rw [Bool.and_eq_true, Bool.and_eq_true, decide_eq_true_eq, List.all_eq_true, len_eq] at h
 exact ⟨by omega, fun c hc => clauseB_iff.1 (h.2 c hc)⟩
theorem impl_algebraOf_eq {p : Int} {F : Cnf} (hF : okCnf F) : impl_algebraOf p F = some (bif algB p F then (some (alg p F), true) else (none, false)) := by
 unfold impl_algebraOf algB
 rw [impl_ringOf_eq]
 cases h1 : pvB p F.vars with
 | false => rfl
 | true =>
  simp only [Bool.not_true, cond_false]
  rw [impl_IsCnf_eq hF, bd_some]
  cases h2 : cnfB F with
  | false => rfl
  | true =>
   have h := pvB_iff.1 h1
   obtain ⟨b1, b2⟩ := cnf_bds h2
   simp only [Bool.not_true, cond_false, bd_some, Bool.and_self, cond_true]
   refine bdR_sim (X := Empty) (F := fun (t : List (List Int)) c => t ++ [clD p (nN F.vars) c]) (t0 := []) (fun i t s => s = (t, p, F.vars, F.vars, F.clauses) ∧ t.length ≤ i ∧ t = (F.clauses.take i).map fun c => clD p (nN F.vars) c) ⟨rfl, Nat.le_refl _, rfl⟩ (fun i c t s hc hs => ?_) (fun s' hs' => ?_)
   · obtain ⟨rfl, hl, ht⟩ := hs
     have hi := (List.getElem?_eq_some_iff.1 hc).1
     refine ⟨(t ++ [clD p (nN F.vars) c], p, F.vars, F.vars, F.clauses), ?_, rfl, by simp; omega, ?_⟩
     · rw [impl_ring_clause_eq (r := ⟨p, F.vars⟩) h (b2 c (List.mem_of_getElem? hc)), bd_some]
       simp only
       rw [app_ok (by simp; unfold lim; omega), bd_some]
     · rw [List.take_add_one, hc, List.map_append, ← ht]; rfl
   · obtain ⟨rfl, _, ht⟩ := hs'
     rw [ht, List.take_length]; rfl
theorem spec_l20Asked_eq {p : Int} {F : Cnf} (hF : okCnf F) : spec_l20Asked p F = some (algB p F) := by
 unfold spec_l20Asked algB
 rw [spec_l18Prime_eq, spec_l2Good_eq hF, bd_some]
 cases pvB p F.vars <;> rfl
end Go.PF
namespace Go.PF
open Go.Pu
def termB (p v : Int) (t : Term) : Bool := inB t.mono 0 (wr ((nN v : Nat) - 1)) && inB t.coeff 1 (wr (p - 1))
def polyB (p v : Int) (A : List Term) : Bool := A.all (termB p v) && adj (fun a b => decide (a.mono < b.mono)) A
theorem sp_of {p : Int} : ∀ (n i : Nat) (A : List Term), (∀ t ∈ A, (i : Int) ≤ t.mono ∧ t.mono < i + n ∧ 1 ≤ t.coeff ∧ t.coeff < p) → A.Pairwise (fun a b => a.mono < b.mono) → 0 < p →
 ∃ a : List Int, a.length = n ∧ (∀ x ∈ a, 0 ≤ x ∧ x < p) ∧ spF i a = A
 | 0, i, [], _, _, _ => ⟨[], rfl, nofun, rfl⟩
 | 0, i, t :: A, h, _, _ => by have := h t (by simp); omega
 | n + 1, i, [], h, hp, h0 => by
  obtain ⟨a, h1, h2, h3⟩ := sp_of n (i + 1) [] nofun .nil h0
  refine ⟨0 :: a, by simp [h1], fun x hx => ?_, by simp [spF, h3]⟩
  rcases List.mem_cons.1 hx with rfl | hx
  · omega
  · exact h2 x hx
 | n + 1, i, t :: A, h, hp, h0 => by
  obtain ⟨p1, p2⟩ := List.pairwise_cons.1 hp
  have ht := h t (by simp)
  by_cases hm : t.mono = i
  · obtain ⟨a, h1, h2, h3⟩ := sp_of n (i + 1) A (fun u hu => by have := h u (by simp [hu]); have := p1 u hu; omega) p2 h0
    refine ⟨t.coeff :: a, by simp [h1], fun x hx => ?_, ?_⟩
    · rcases List.mem_cons.1 hx with rfl | hx
      · omega
      · exact h2 x hx
    · have : (t.coeff == 0) = false := by rw [beq_eq_false_iff_ne]; omega
      simp only [spF, this, cond_false, h3, ← hm]
  · obtain ⟨a, h1, h2, h3⟩ := sp_of n (i + 1) (t :: A) (fun u hu => by
     have := h u hu
     rcases List.mem_cons.1 hu with rfl | hu
     · omega
     · have := p1 u hu; omega) hp h0
    refine ⟨0 :: a, by simp [h1], fun x hx => ?_, by simp [spF, h3]⟩
    rcases List.mem_cons.1 hx with rfl | hx
    · omega
    · exact h2 x hx
theorem polyB_sp {p v : Int} (h : PV p v) {A : List Term} (hA : polyB p v A = true) : ∃ a, Dn p (nN v) a ∧ sp a = A := by
 have hN := nN_le h.v6
 have hp := h.pos
 unfold polyB at hA
 rw [Bool.and_eq_true, List.all_eq_true] at hA
 obtain ⟨a, h1, h2, h3⟩ := sp_of (p := p) (nN v) 0 A (fun t ht => by
  have := hA.1 t ht
  unfold termB at this
  rw [Bool.and_eq_true, inB_iff, inB_iff, wr_of _ (by omega) (by omega), wr_of _ (by omega) (by omega)] at this
  omega) (adj_pairwise (fun a b c h1 h2 => by omega) (fun a b _ _ h => of_decide_eq_true h) hA.2) (by omega)
 exact ⟨a, ⟨h1, h2⟩, h3⟩
theorem bif_congr3 {β : Type} {c d : Bool} {x y u w : β} (h : c = d) (h1 : x = y) (h2 : u = w) : (bif c then x else u) = bif d then y else w := by rw [h, h1, h2]
theorem bif_congr4 {β : Type} {c : Bool} {x y u w : β} (h1 : c = true → x = y) (h2 : u = w) : (bif c then x else u) = bif c then y else w := by
 cases c with
 | true => exact h1 rfl
 | false => exact h2
theorem shl_sub {v : Int} (h0 : 0 ≤ v) (h6 : v ≤ 6) : wr (shlK true 64 1 v - 1) = wr ((nN v : Nat) - 1) := by rw [shl_pow h0 h6]
theorem poly_loop {p v : Int} {A : List Term} (hl : A.length ≤ 9223372036854775807) {body : Nat → Term → Unit → Option (Lp Unit Bool)}
 (hb : ∀ (i : Nat) y u, A[i]? = some y → body i y u = bd (bif !termB p v y then some true else bd (bif decide (0 < ((i : Nat) : Int)) then bd (ix A (wr (((i : Nat) : Int) - 1))) (fun x => some (decide (y.mono ≤ x.mono))) else some false) fun t => some t) fun t => bif t then some (.rt false) else some (.nx ())) :
 bdR (forL A body ()) (fun _ => some true) (fun x => some x) = some (polyB p v A) := by
 have hstep : ∀ (i : Nat) y, A[i]? = some y → body i y () = bif (!termB p v y || (decide (0 < i) && match A[i - 1]? with | some x => decide (y.mono ≤ x.mono) | none => false)) then some (.rt false) else some (.nx ()) := fun i y hy => by
  have hi := (List.getElem?_eq_some_iff.1 hy).1
  rw [hb i y () hy]
  cases termB p v y with
  | false => rfl
  | true =>
   cases i with
   | zero => rfl
   | succ i =>
    rw [show decide (0 < ((i + 1 : Nat) : Int)) = true by rw [decide_eq_true_eq]; omega, wr_of _ (by omega) (by omega), show (((i + 1 : Nat) : Int) - 1) = ((i : Nat) : Int) by omega, ix_get]
    obtain ⟨x, hx⟩ : ∃ x, A[i]? = some x := ⟨_, List.getElem?_eq_getElem (by omega)⟩
    rw [hx, Nat.add_sub_cancel, hx]
    simp
 rw [forL_any (p := fun i y => !termB p v y || (decide (0 < i) && match A[i - 1]? with | some x => decide (y.mono ≤ x.mono) | none => false)) (v := false) hstep,
  anyI_adj (q := fun y => !termB p v y) (r := fun a b => decide (a.mono < b.mono)) (fun y hy => by simp) (fun i x y hx hy => by
   simp only [Nat.add_sub_cancel, hx, Nat.zero_lt_succ, decide_true, Bool.true_and]
   congr 1
   rw [Bool.eq_iff_iff, decide_eq_true_eq, Bool.not_eq_true', decide_eq_false_iff_not]; omega)]
 unfold polyB
 simp only [Bool.not_not]
 cases A.all (termB p v) && adj (fun a b => decide (a.mono < b.mono)) A <;> rfl
theorem spec_l18Good_eq {p v : Int} (h : PV p v) {A : List Term} (hl : A.length ≤ 9223372036854775807) : spec_l18Good p v A = some (polyB p v A) := by
 unfold spec_l18Good
 rw [spec_l18Prime_eq, pvB_iff.2 h, Bool.not_true, cond_false]
 refine poly_loop hl fun i y u _ => ?_
 rw [nn_ok h.v0, bd_some, shl_sub h.v0 h.v6, spec_l1In_eq, spec_l1In_eq]
 unfold termB
 cases inB y.mono 0 (wr ((nN v : Nat) - 1)) <;> cases inB y.coeff 1 (wr (p - 1)) <;> rfl
theorem impl_ring_is_eq {p v : Int} (h : PV p v) {A : List Term} (hl : A.length ≤ 9223372036854775807) : impl_ring_is ⟨p, v⟩ A = some (polyB p v A) := by
 unfold impl_ring_is impl_bitsOk
 refine poly_loop hl fun i y u _ => ?_
 rw [nn_ok h.v0, bd_some, bd_some, shl_sub h.v0 h.v6, impl_within_eq, impl_within_eq]
 unfold termB
 cases inB y.mono 0 (wr ((nN v : Nat) - 1)) <;> cases inB y.coeff 1 (wr (p - 1)) <;> rfl
theorem dense_loop {p : Int} (hp : 1 < p ∧ p ≤ 5) {body : Nat → Term → List Int → Option (Lp (List Int) Empty)}
 (hb : ∀ i y s, body i y s = bd (ix s y.mono) fun x => bd (nz p) fun _ => bd (ix s y.mono) fun _ => bd (put s y.mono ((wr (x + y.coeff)).tmod p)) fun xs => some (Lp.nx xs)) :
 ∀ (a pre : List Int) (i : Nat), (∀ x ∈ a, 0 ≤ x ∧ x < p) → forLFrom body (spF pre.length a) i (pre ++ List.replicate a.length 0) = some (.go (pre ++ a)) := by
 intro a
 induction a with
 | nil => intro pre i _; simp [spF, forLFrom]
 | cons x a ih =>
  intro pre i ha
  have hx := ha x (by simp)
  by_cases h0 : x = 0
  · subst h0
    have := ih (pre ++ [0]) i (fun z hz => ha z (by simp [hz]))
    simp only [spF, BEq.rfl, cond_true]
    rw [List.length_append, List.length_singleton] at this
    rw [List.length_cons, List.replicate_succ]
    simpa using this
  · have hne : (x == 0) = false := by rw [beq_eq_false_iff_ne]; exact h0
    have hget : (pre ++ List.replicate (a.length + 1) 0)[pre.length]? = some (0 : Int) := by
     rw [List.getElem?_append_right (Nat.le_refl _), Nat.sub_self, List.replicate_succ]; rfl
    have e : body i ⟨((pre.length : Nat) : Int), x⟩ (pre ++ List.replicate (a.length + 1) 0) = some (.nx (pre ++ [x] ++ List.replicate a.length 0)) := by
     rw [hb, ix_get, hget, bd_some, nz_ok (by omega), bd_some, bd_some, put_ok (by simp), bd_some]
     show some (Lp.nx (List.set _ _ ((wr (0 + x)).tmod p))) = _
     rw [Int.zero_add, wr_of x (by omega) (by omega), tmod_small hx, List.set_append_right _ _ (Nat.le_refl _), Nat.sub_self, List.replicate_succ, List.set_cons_zero]
     simp
    simp only [spF, hne, cond_false, List.length_cons, forLFrom, e]
    have := ih (pre ++ [x]) (i + 1) (fun z hz => ha z (by simp [hz]))
    rw [List.length_append, List.length_singleton] at this
    rw [this]
    simp
theorem impl_ring_dense_eq {p v : Int} (h : PV p v) {a : List Int} (ha : Dn p (nN v) a) : impl_ring_dense ⟨p, v⟩ (sp a) = some a := by
 unfold impl_ring_dense
 rw [impl_zero_eq (r := ⟨p, v⟩) h, bd_some]
 have := dense_loop (p := p) h.pos (fun _ _ _ => rfl) a [] 0 ha.bd
 rw [List.nil_append, List.nil_append, ha.len, List.length_nil] at this
 unfold forL sp zs
 rw [this]; rfl
theorem sp_inj {p v : Int} (h : PV p v) {a b : List Int} (ha : Dn p (nN v) a) (hb : Dn p (nN v) b) (e : sp a = sp b) : a = b := by
 have h1 := spec_l18Dense_eq h.v0 h.v6 ha.len
 have h2 := spec_l18Dense_eq h.v0 h.v6 hb.len
 rw [e, h2] at h1
 exact (Option.some.inj h1).symm
open Classical in
noncomputable def dnT (p v : Int) (A : List Term) : List Int := if h : ∃ a, Dn p (nN v) a ∧ sp a = A then h.choose else []
theorem dnT_ok {p v : Int} (h : PV p v) {A : List Term} (hA : polyB p v A = true) : Dn p (nN v) (dnT p v A) ∧ sp (dnT p v A) = A := by
 have hx := polyB_sp h hA
 unfold dnT
 rw [dif_pos hx]
 exact hx.choose_spec
end Go.PF
