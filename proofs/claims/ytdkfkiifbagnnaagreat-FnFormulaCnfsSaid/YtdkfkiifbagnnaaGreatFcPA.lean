/- Helpers of the walks and plain laws. -/
import Derived.Test.YtdkfkiifbagnnaaGreatFcPf
import Derived.Test.YtdkfkiifbagnnaaGreatFcLB
set_option linter.unusedVariables false
namespace Go.PF
open Go.Pu
def vr (l : Int) : Int := bif decide (l < 0) then wr (-l) else l
theorem spec_l2Var_eq (l : Int) : spec_l2Var l = vr l := rfl
theorem vr_abs {l : Int} (h1 : -12 ≤ l) (h2 : l ≤ 12) : vr l = l.natAbs := by
 unfold vr
 by_cases h : l < 0
 · simp only [h, decide_true, cond_true]; rw [wr_of _ (by omega) (by omega)]; omega
 · simp only [h, decide_false, cond_false]; omega
theorem impl_abs_eq {l : Int} (h : okI l) : impl_abs l = vr l := by
 obtain ⟨h1, h2⟩ := h
 unfold impl_abs vr mx
 by_cases h0 : l < 0
 · simp only [h0, decide_true, cond_true]
   by_cases hm : l = -9223372036854775808
   · subst hm; decide
   · rw [wr_of _ (by omega) (by omega), if_pos (by omega)]
 · simp only [h0, decide_false, cond_false]
   rw [wr_of _ (by omega) (by omega)]
   by_cases hz : l = 0
   · subst hz; rfl
   · rw [if_neg (by omega)]
def inB (a b c : Int) : Bool := decide (b ≤ a) && decide (a ≤ c)
theorem inB_iff {a b c : Int} : inB a b c = true ↔ b ≤ a ∧ a ≤ c := by simp [inB]
theorem impl_within_eq (a b c : Int) : impl_within a b c = inB a b c := by simp [impl_within, inB]
def varsB (v : Int) : Bool := inB v 0 12
theorem varsB_iff {v : Int} : varsB v = true ↔ 0 ≤ v ∧ v ≤ 12 := inB_iff
theorem impl_varsOk_eq (v : Int) : impl_varsOk v = varsB v := impl_within_eq _ _ _
def litB (v l : Int) : Bool := inB l (wr (-v)) v && !(l == 0)
theorem impl_isLiteral_eq (v l : Int) : impl_isLiteral v l = litB v l := by simp [impl_isLiteral, litB, impl_within_eq, Bool.and_comm]
def clauseB (v : Int) (c : List Int) : Bool := varsB v && (c.all (litB v) && adj (fun a b => decide (vr a < vr b)) c)
theorem impl_IsClause_eq {v : Int} {c : List Int} (hc : okL okI c) : impl_IsClause v c = some (clauseB v c) := by
 unfold impl_IsClause clauseB
 rw [impl_varsOk_eq]
 rw [forL_any (p := fun i y => !litB v y || match i with | 0 => false | i + 1 => match c[i]? with | some x => decide (vr y ≤ vr x) | none => false) (v := false) (fun i y hy => by
  rw [impl_isLiteral_eq]
  cases hl : litB v y with
  | false => simp
  | true =>
   cases i with
   | zero => simp
   | succ i =>
    have hi : i + 1 < c.length := (List.getElem?_eq_some_iff.1 hy).1
    have hp : decide ((0 : Int) < ((i + 1 : Nat) : Int)) = true := by simp
    rw [hp, wr_pred (by omega) hi hc.1, ix_get]
    simp only [Nat.add_sub_cancel]
    rw [List.getElem?_eq_getElem (show i < c.length by omega)]
    simp only [Bool.not_true, cond_false, cond_true, bd_some, Bool.false_or]
    rw [impl_abs_eq (hc.2 _ (List.mem_of_getElem? hy)), impl_abs_eq (hc.2 _ (List.getElem_mem _))])]
 rw [anyI_adj (q := fun y => !litB v y) (r := fun a b => decide (vr a < vr b)) (by intro y _; simp) (by
  intro i x y hx hy
  simp only [hx]
  congr 1
  by_cases h : vr x < vr y
  · simp [h]
  · simp [h]; omega)]
 simp only [Bool.not_not]
 cases (c.all fun y => litB v y) && adj (fun a b => decide (vr a < vr b)) c <;> simp
structure IsC (v : Int) (c : List Int) : Prop where
 lo : 0 ≤ v
 hi : v ≤ 12
 lit : ∀ l ∈ c, -v ≤ l ∧ l ≤ v ∧ l ≠ 0
 srt : c.Pairwise fun a b => a.natAbs < b.natAbs
theorem adj_pairwise {α : Type} {r : α → α → Bool} {R : α → α → Prop} (ht : ∀ a b c, R a b → R b c → R a c) : ∀ {l : List α}, (∀ a b, a ∈ l → b ∈ l → r a b = true → R a b) → adj r l = true → l.Pairwise R := by
 intro l
 induction l with
 | nil => intro _ _; exact .nil
 | cons a l ih =>
  intro hr h
  cases l with
  | nil => simp
  | cons b l =>
   simp only [adj, Bool.and_eq_true] at h
   have hp := ih (fun x y hx hy => hr x y (by simp [hx]) (by simp [hy])) h.2
   have hab := hr a b (by simp) (by simp) h.1
   refine List.pairwise_cons.2 ⟨fun x hx => ?_, hp⟩
   rcases List.mem_cons.1 hx with rfl | hx
   · exact hab
   · exact ht _ _ _ hab ((List.pairwise_cons.1 hp).1 x hx)
theorem adj_of_pairwise {α : Type} {r : α → α → Bool} {l : List α} (h : l.Pairwise fun a b => r a b = true) : adj r l = true := by
 induction l with
 | nil => rfl
 | cons a l ih =>
  cases l with
  | nil => rfl
  | cons b l =>
   obtain ⟨h1, h2⟩ := List.pairwise_cons.1 h
   simp only [adj, Bool.and_eq_true]
   exact ⟨h1 b (by simp), ih h2⟩
theorem litB_iff {v l : Int} (h1 : 0 ≤ v) (h2 : v ≤ 12) : litB v l = true ↔ -v ≤ l ∧ l ≤ v ∧ l ≠ 0 := by
 unfold litB
 rw [wr_of _ (by omega) (by omega)]
 simp [inB]; omega
theorem clauseB_iff {v : Int} {c : List Int} : clauseB v c = true ↔ IsC v c := by
 unfold clauseB
 rw [Bool.and_eq_true, Bool.and_eq_true, varsB_iff, List.all_eq_true]
 constructor
 · rintro ⟨⟨h1, h2⟩, h3, h4⟩
   have hl : ∀ l ∈ c, -v ≤ l ∧ l ≤ v ∧ l ≠ 0 := fun l hl => (litB_iff h1 h2).1 (h3 l hl)
   refine ⟨h1, h2, hl, adj_pairwise (R := fun a b : Int => a.natAbs < b.natAbs) (fun _ _ _ => Nat.lt_trans) (fun a b ha hb hr => ?_) h4⟩
   have := hl a ha; have := hl b hb
   simp only [decide_eq_true_eq] at hr
   rw [vr_abs (by omega) (by omega), vr_abs (by omega) (by omega)] at hr
   omega
 · rintro ⟨h1, h2, h3, h4⟩
   refine ⟨⟨h1, h2⟩, fun l hl => (litB_iff h1 h2).2 (h3 l hl), adj_of_pairwise (List.Pairwise.imp_of_mem ?_ h4)⟩
   intro a b ha hb hr
   have := h3 a ha; have := h3 b hb
   simp only [decide_eq_true_eq]
   rw [vr_abs (by omega) (by omega), vr_abs (by omega) (by omega)]
   omega
theorem srt_len : ∀ {c : List Int} {k n : Nat}, c.Pairwise (fun a b => a.natAbs < b.natAbs) → (∀ l ∈ c, k < l.natAbs ∧ l.natAbs ≤ n) → c.length + k ≤ max k n := by
 intro c
 induction c with
 | nil => intro k n _ _; simp; omega
 | cons a c ih =>
  intro k n h hl
  obtain ⟨h1, h2⟩ := List.pairwise_cons.1 h
  have ha := hl a (by simp)
  have := ih (k := a.natAbs) (n := n) h2 fun l hm => ⟨h1 l hm, (hl l (by simp [hm])).2⟩
  simp only [List.length_cons]; omega
theorem IsC.len {v : Int} {c : List Int} (h : IsC v c) : c.length ≤ 12 := by
 have := srt_len (k := 0) (n := 12) h.srt fun l hl => by have := h.lit l hl; have := h.hi; omega
 omega
theorem IsC.ok {v : Int} {c : List Int} (h : IsC v c) : okL okI c := by
 refine ⟨by have := h.len; omega, fun l hl => ?_⟩
 have := h.lit l hl; have := h.hi
 unfold okI; omega
def cnfB (f : Cnf) : Bool := varsB f.vars && decide (len f.clauses ≤ 60) && f.clauses.all (clauseB f.vars)
theorem impl_IsCnf_eq {f : Cnf} (hf : okCnf f) : impl_IsCnf f = some (cnfB f) := by
 unfold impl_IsCnf cnfB
 rw [impl_varsOk_eq]
 rw [forL_any (p := fun _ c => !clauseB f.vars c) (v := false) (fun i y hy => by
  rw [impl_IsClause_eq (hf.2.2 _ (List.mem_of_getElem? hy)), bd_some])]
 rw [anyI_any, show (f.clauses.any fun y => !clauseB f.vars y) = !f.clauses.all (clauseB f.vars) by rw [List.all_eq_not_any_not, Bool.not_not]]
 cases f.clauses.all (clauseB f.vars) <;> simp
theorem spec_l1Has_eq (c : List Int) (l : Int) : spec_l1Has c l = some (c.contains l) := by
 unfold spec_l1Has
 rw [forL_any (p := fun _ y => y == l) (v := true) (fun i y _ => rfl), anyI_any]
 rw [show (c.any fun y => y == l) = c.contains l by induction c with | nil => rfl | cons x c ih => rw [List.any_cons, List.contains_cons, ih, Bool.beq_comm]]
 cases c.contains l <;> rfl
theorem spec_l2Has_eq (c : List Int) (l : Int) : spec_l2Has c l = some (c.contains l) := by unfold spec_l2Has; rw [spec_l1Has_eq]; rfl
theorem slices_IndexFunc_int_int_ge {c : List Int} {f : Int → Option Bool} {g : Int → Bool} (h : ∀ y ∈ c, f y = some (g y)) : ∃ r, slices_IndexFunc_int_int c f = some r ∧ decide (0 ≤ r) = c.any g ∧ (∀ z, findI (fun _ y => g y) c 0 = some z → r = z.1) ∧ (findI (fun _ y => g y) c 0 = none → r = -1) := by
 unfold slices_IndexFunc_int_int
 rw [forL_find (p := fun _ y => g y) (v := fun i _ => (i : Int)) (fun i y hy => by rw [h y (List.mem_of_getElem? hy), bd_some])]
 cases hf : findI (fun _ y => g y) c 0 with
 | none =>
  refine ⟨-1, rfl, ?_, nofun, fun _ => rfl⟩
  have := findI_none.1 hf
  rw [anyI_any] at this; rw [this]; rfl
 | some z =>
  obtain ⟨_, _, _, h4⟩ := findI_some hf
  rw [anyI_any] at h4
  exact ⟨_, rfl, by rw [h4]; simp, fun z' hz => (by cases hz; rfl), nofun⟩
theorem slices_ContainsFunc_int_int_eq {c : List Int} {f : Int → Option Bool} {g : Int → Bool} (h : ∀ y ∈ c, f y = some (g y)) : slices_ContainsFunc_int_int c f = some (c.any g) := by
 obtain ⟨r, h1, h2, _⟩ := slices_IndexFunc_int_int_ge h
 unfold slices_ContainsFunc_int_int; rw [h1, bd_some, h2]
end Go.PF
namespace Go.PF
open Go.Pu
theorem slices_Clone_int_int_eq {c : List Int} (hl : c.length ≤ lim) : slices_Clone_int_int c = some c := by
 unfold slices_Clone_int_int; rw [app_ok (by simpa using hl)]; rfl
def putL (c : List Int) (l : Int) : List Int := c.takeWhile (fun y => decide (vr y < vr l)) ++ l :: c.dropWhile (fun y => decide (vr y < vr l))
theorem spec_l1Own_eq {c : List Int} (hl : c.length ≤ lim) : spec_l1Own c = some c := by
 unfold spec_l1Own; rw [app_ok (by simpa using hl)]; rfl
theorem takeWhile_le {α : Type} {p : α → Bool} (l : List α) : (l.takeWhile p).length ≤ l.length := (List.takeWhile_prefix p).length_le
theorem take_takeWhile {α : Type} {p : α → Bool} (l : List α) : l.take (l.takeWhile p).length = l.takeWhile p := by
 conv => lhs; rw [← List.takeWhile_append_dropWhile (p := p) (l := l)]
 rw [List.takeWhile_append_dropWhile]
 exact List.prefix_iff_eq_take.1 (List.takeWhile_prefix p) |>.symm
theorem drop_takeWhile {α : Type} {p : α → Bool} (l : List α) : l.drop (l.takeWhile p).length = l.dropWhile p := by
 have h := List.takeWhile_append_dropWhile (p := p) (l := l)
 have h2 : l.drop (l.takeWhile p).length = (l.takeWhile p ++ l.dropWhile p).drop (l.takeWhile p).length := by rw [h]
 rw [h2, List.drop_left]
theorem spec_l2Put_eq {c : List Int} {l : Int} (hl : c.length + 1 ≤ lim) : spec_l2Put c l = some (putL c l) := by
 unfold spec_l2Put putL
 have hl' : c.length + 1 ≤ 4294967296 := hl
 rw [iter_while (xs := c) (p := fun y => decide (vr y < vr l)) (fun i y hy => by
  have hi := (List.getElem?_eq_some_iff.1 hy).1
  have hd : decide ((i : Int) < len c) = true := by rw [len_eq]; simp; omega
  rw [hd, ix_get, hy]
  simp only [cond_true, bd_some, spec_l2Var_eq]
  rw [wr_succ hi (by omega)]; rfl) (by
  have hd : decide (((c.length : Nat) : Int) < len c) = false := by rw [len_eq]; simp
  rw [hd]; rfl), bdR_go]
 have hk := takeWhile_le (p := fun y => decide (vr y < vr l)) c
 rw [show (0 : Int) = ((0 : Nat) : Int) from rfl, cut_ok (Nat.zero_le _) hk, bd_some, List.drop_zero, take_takeWhile, spec_l1Own_eq (by omega), bd_some, app_ok (by simp; omega), bd_some,
  len_eq, cut_ok hk (Nat.le_refl _), bd_some, List.take_length, drop_takeWhile, app_ok, bd_some]
 · simp
 · have := congrArg List.length (List.takeWhile_append_dropWhile (p := fun y => decide (vr y < vr l)) (l := c))
   simp only [List.length_append] at this ⊢
   simp only [List.length_singleton]
   unfold lim; omega
theorem putL_length (c : List Int) (l : Int) : (putL c l).length = c.length + 1 := by
 have := congrArg List.length (List.takeWhile_append_dropWhile (p := fun y => decide (vr y < vr l)) (l := c))
 unfold putL; simp only [List.length_append, List.length_cons] at this ⊢; omega
def joinL : List Int → List Int → Option (List Int)
 | s, [] => some s
 | s, y :: b => bif s.contains (wr (-y)) then none else joinL (bif !s.contains y then putL s y else s) b
theorem spec_l2Join_eq {a b : List Int} (hl : a.length + b.length ≤ lim) : spec_l2Join a b = some (match joinL a b with | some s => (s, true) | none => ([], false)) := by
 unfold spec_l2Join
 rw [spec_l1Own_eq (by omega), bd_some]
 have key : ∀ (F : Nat → Int → List Int → Option (Lp (List Int) (List Int × Bool))), (∀ i y s, F i y s = bd (PF.spec_l2Has s (wr (-y))) (fun r200 => (bif r200 then some (Lp.rt ([], false)) else bd (PF.spec_l2Has s y) (fun r222 => (bif (!r222) then bd (PF.spec_l2Put s y) (fun r239 => some (Lp.nx r239)) else some (Lp.nx s)))))) →
  ∀ (b : List Int) (i : Nat) (s : List Int), s.length + b.length ≤ lim → forLFrom F b i s = some (match joinL s b with | some s => .go s | none => .rt ([], false)) := by
  intro F hF b
  induction b with
  | nil => intro i s _; rfl
  | cons y b ih =>
   intro i s hs
   simp only [List.length_cons] at hs
   rw [forLFrom, hF, spec_l2Has_eq, bd_some, spec_l2Has_eq, bd_some, joinL]
   cases s.contains (wr (-y)) with
   | true => rfl
   | false =>
    simp only [cond_false]
    cases s.contains y with
    | true => simp only [Bool.not_true, cond_false]; exact ih (i + 1) s (by omega)
    | false =>
     simp only [Bool.not_false, cond_true]
     rw [spec_l2Put_eq (c := s) (by omega), bd_some]
     exact ih (i + 1) _ (by rw [putL_length]; omega)
 unfold forL
 rw [key _ (fun _ _ _ => rfl) b 0 a hl]
 cases joinL a b <;> rfl
abbrev Srt (c : List Int) : Prop := c.Pairwise fun a b => a.natAbs < b.natAbs
def Sm (c : List Int) : Prop := ∀ l ∈ c, -12 ≤ l ∧ l ≤ 12 ∧ l ≠ 0
theorem putL_mem {c : List Int} {l x : Int} : x ∈ putL c l ↔ x = l ∨ x ∈ c := by
 have h := List.takeWhile_append_dropWhile (p := fun y => decide (vr y < vr l)) (l := c)
 have : x ∈ c ↔ x ∈ c.takeWhile (fun y => decide (vr y < vr l)) ∨ x ∈ c.dropWhile (fun y => decide (vr y < vr l)) := by rw [← List.mem_append, h]
 unfold putL
 rw [this, List.mem_append, List.mem_cons]
 constructor
 · rintro (h | h | h)
   · exact .inr (.inl h)
   · exact .inl h
   · exact .inr (.inr h)
 · rintro (h | h | h)
   · exact .inr (.inl h)
   · exact .inl h
   · exact .inr (.inr h)
theorem putL_srt {c : List Int} {l : Int} (hc : Srt c) (hs : Sm c) (hl : -12 ≤ l ∧ l ≤ 12) (hn : ∀ x ∈ c, x.natAbs ≠ l.natAbs) : Srt (putL c l) := by
 have hv : ∀ x ∈ c, (decide (vr x < vr l) = true ↔ x.natAbs < l.natAbs) := fun x hx => by
  have := hs x hx
  rw [decide_eq_true_eq, vr_abs (by omega) (by omega), vr_abs hl.1 hl.2]; omega
 unfold putL
 induction c with
 | nil => simp
 | cons y c ih =>
  obtain ⟨h1, h2⟩ := List.pairwise_cons.1 hc
  rw [List.takeWhile_cons, List.dropWhile_cons]
  by_cases hy : decide (vr y < vr l) = true
  · rw [if_pos hy, if_pos hy, List.cons_append]
    have ih := ih h2 (fun x hx => hs x (by simp [hx])) (fun x hx => hn x (by simp [hx])) (fun x hx => hv x (by simp [hx]))
    refine List.pairwise_cons.2 ⟨fun x hx => ?_, ih⟩
    rcases (putL_mem (c := c) (l := l)).1 hx with rfl | hx
    · exact (hv y (by simp)).1 hy
    · exact h1 x hx
  · rw [if_neg hy, if_neg hy, List.nil_append]
    have hly : l.natAbs < y.natAbs := by
     have := hn y (by simp)
     have h3 : ¬ y.natAbs < l.natAbs := fun h => hy ((hv y (by simp)).2 h)
     omega
    refine List.pairwise_cons.2 ⟨fun x hx => ?_, hc⟩
    rcases List.mem_cons.1 hx with rfl | hx
    · exact hly
    · have := h1 x hx; omega
theorem joinL_spec : ∀ {b s : List Int}, Srt s → Sm s → Srt b → Sm b →
 (if ∃ y ∈ b, -y ∈ s then joinL s b = none else ∃ t, joinL s b = some t ∧ Srt t ∧ ∀ x, x ∈ t ↔ x ∈ s ∨ x ∈ b) := by
 intro b
 induction b with
 | nil => intro s hs _ _ _; simp only [List.not_mem_nil, false_and, exists_false, if_false, or_false]; exact ⟨s, rfl, hs, fun _ => Iff.rfl⟩
 | cons y b ih =>
  intro s hs hs2 hb hb2
  obtain ⟨h1, h2⟩ := List.pairwise_cons.1 hb
  have hy := hb2 y (by simp)
  have hw : wr (-y) = -y := wr_of _ (by omega) (by omega)
  simp only [joinL, hw]
  by_cases hn : -y ∈ s
  · rw [if_pos ⟨y, by simp, hn⟩, List.contains_iff_mem.2 hn]; rfl
  · have hnc : s.contains (-y) = false := by rw [Bool.eq_false_iff]; exact fun h => hn (List.contains_iff_mem.1 h)
    rw [hnc, cond_false]
    by_cases hin : y ∈ s
    · rw [List.contains_iff_mem.2 hin]
      simp only [Bool.not_true, cond_false]
      have := ih hs hs2 h2 (fun x hx => hb2 x (by simp [hx]))
      have e1 : (∃ z ∈ y :: b, -z ∈ s) ↔ ∃ z ∈ b, -z ∈ s := by
       constructor
       · rintro ⟨z, hz, hz2⟩
         rcases List.mem_cons.1 hz with rfl | hz
         · exact absurd hz2 hn
         · exact ⟨z, hz, hz2⟩
       · rintro ⟨z, hz, hz2⟩; exact ⟨z, by simp [hz], hz2⟩
      simp only [e1]
      split at this
      · rename_i hex; rw [if_pos hex]; exact this
      · rename_i hex
        rw [if_neg hex]
        obtain ⟨t, t1, t2, t3⟩ := this
        refine ⟨t, t1, t2, fun x => ?_⟩
        rw [t3, List.mem_cons]
        constructor
        · rintro (h | h)
          · exact .inl h
          · exact .inr (.inr h)
        · rintro (h | rfl | h)
          · exact .inl h
          · exact .inl hin
          · exact .inr h
    · have hic : s.contains y = false := by rw [Bool.eq_false_iff]; exact fun h => hin (List.contains_iff_mem.1 h)
      rw [hic]
      simp only [Bool.not_false, cond_true]
      have hne : ∀ x ∈ s, x.natAbs ≠ y.natAbs := fun x hx e => by
       have : x = y ∨ x = -y := by omega
       rcases this with rfl | rfl
       · exact hin hx
       · exact hn hx
      have := ih (putL_srt hs hs2 ⟨hy.1, hy.2.1⟩ hne) (fun x hx => by
       rcases putL_mem.1 hx with rfl | hx
       · exact hy
       · exact hs2 x hx) h2 (fun x hx => hb2 x (by simp [hx]))
      have e1 : (∃ z ∈ y :: b, -z ∈ s) ↔ ∃ z ∈ b, -z ∈ putL s y := by
       constructor
       · rintro ⟨z, hz, hz2⟩
         rcases List.mem_cons.1 hz with rfl | hz
         · exact absurd hz2 hn
         · exact ⟨z, hz, putL_mem.2 (.inr hz2)⟩
       · rintro ⟨z, hz, hz2⟩
         rcases putL_mem.1 hz2 with e | hz2
         · have := h1 z hz; omega
         · exact ⟨z, by simp [hz], hz2⟩
      simp only [e1]
      split at this
      · rename_i hex; rw [if_pos hex]; exact this
      · rename_i hex
        rw [if_neg hex]
        obtain ⟨t, t1, t2, t3⟩ := this
        refine ⟨t, t1, t2, fun x => ?_⟩
        rw [t3, putL_mem, List.mem_cons]
        constructor
        · rintro ((h | h) | h)
          · exact .inr (.inl h)
          · exact .inl h
          · exact .inr (.inr h)
        · rintro (h | h | h)
          · exact .inl (.inr h)
          · exact .inl (.inl h)
          · exact .inr h
end Go.PF
namespace Go.PF
open Go.Pu
theorem srt_unique : ∀ {a b : List Int}, Srt a → Srt b → (∀ x, x ∈ a ↔ x ∈ b) → a = b := by
 intro a
 induction a with
 | nil =>
  intro b _ _ h
  cases b with
  | nil => rfl
  | cons y b => exact absurd ((h y).2 (by simp)) (by simp)
 | cons x a ih =>
  intro b ha hb h
  cases b with
  | nil => exact absurd ((h x).1 (by simp)) (by simp)
  | cons y b =>
   obtain ⟨a1, a2⟩ := List.pairwise_cons.1 ha
   obtain ⟨b1, b2⟩ := List.pairwise_cons.1 hb
   have hxy : x = y := by
    rcases List.mem_cons.1 ((h x).1 (by simp)) with e | e
    · exact e
    · rcases List.mem_cons.1 ((h y).2 (by simp)) with e' | e'
      · exact e'.symm
      · have := b1 x e; have := a1 y e'; omega
   subst hxy
   rw [ih a2 b2 fun z => ?_]
   constructor
   · intro hz
     rcases List.mem_cons.1 ((h z).1 (by simp [hz])) with e | e
     · subst e; have := a1 z hz; omega
     · exact e
   · intro hz
     rcases List.mem_cons.1 ((h z).2 (by simp [hz])) with e | e
     · subst e; have := b1 z hz; omega
     · exact e
theorem compactL_mem {A : Type} [DecidableEq A] : ∀ {l : List A} {x : A}, x ∈ compactL l ↔ x ∈ l
 | [], x => by simp [compactL]
 | [y], x => by simp [compactL]
 | y :: z :: r, x => by
  rw [compactL]
  split
  · rename_i h; subst h
    rw [compactL_mem]; simp
  · rw [List.mem_cons, compactL_mem]; simp
theorem compactL_strict {A : Type} [DecidableEq A] {R : A → A → Prop} (ha : ∀ a b, R a b → R b a → a = b) : ∀ {l : List A}, l.Pairwise R → (compactL l).Pairwise fun a b => R a b ∧ a ≠ b
 | [], _ => by simp [compactL]
 | [y], _ => by simp [compactL]
 | y :: z :: r, h => by
  obtain ⟨h1, h2⟩ := List.pairwise_cons.1 h
  rw [compactL]
  split
  · exact compactL_strict ha h2
  · rename_i hne
    refine List.pairwise_cons.2 ⟨fun x hx => ?_, compactL_strict ha h2⟩
    have hx' := compactL_mem.1 hx
    refine ⟨h1 x hx', fun e => ?_⟩
    subst e
    rcases List.mem_cons.1 hx' with e | e
    · exact hne e
    · exact hne (ha _ _ (h1 z (by simp)) ((List.pairwise_cons.1 h2).1 y e))
def litLe (x y : Int) : Prop := impl_abs x < impl_abs y ∨ (impl_abs x = impl_abs y ∧ y ≤ x)
def cmpL (x y : Int) : Int := if impl_abs x < impl_abs y then -1 else if impl_abs y < impl_abs x then 1 else if y < x then -1 else if x < y then 1 else 0
theorem impl_compareLiterals_cmpL (x y : Int) : impl_compareLiterals x y = some (cmpL x y) := by
 have hc : ∀ a b : Int, cmp_Compare_int a b = if a < b then -1 else if b < a then 1 else 0 := fun a b => by
  unfold cmp_Compare_int cmp_isNaN_int
  simp only [BEq.rfl, Bool.not_true, cond_false]
  by_cases h1 : a < b
  · simp [h1]
  · by_cases h2 : b < a <;> simp [h1, h2]
 unfold impl_compareLiterals cmp_Or_int cmpL
 rw [hc, hc]
 by_cases h1 : impl_abs x < impl_abs y
 · simp [h1, forL, forLFrom]
 · by_cases h2 : impl_abs y < impl_abs x
   · simp [h1, h2, forL, forLFrom]
   · by_cases h3 : y < x
     · simp [h1, h2, h3, forL, forLFrom]
     · by_cases h4 : x < y <;> simp [h1, h2, h3, h4, forL, forLFrom]
theorem cmpL_neg {x y : Int} : cmpL x y < 0 ↔ impl_abs x < impl_abs y ∨ (impl_abs x = impl_abs y ∧ y < x) := by
 unfold cmpL
 split
 · omega
 · split
   · omega
   · split
     · omega
     · split <;> omega
theorem leF_lit {x y : Int} : leF (fun x0 x1 => PF.impl_compareLiterals x0 x1) x y = true ↔ litLe x y := by
 unfold leF litLe
 simp only [impl_compareLiterals_cmpL]
 rw [Bool.not_eq_true', decide_eq_false_iff_not, cmpL_neg]
 omega
theorem sort_lit {xs : List Int} (hl : xs.length < lim) : slices_SortFunc_int_int xs (fun x0 x1 => PF.impl_compareLiterals x0 x1) = some (xs.mergeSort (leF fun x0 x1 => PF.impl_compareLiterals x0 x1)) := by
 unfold slices_SortFunc_int_int sortF
 rw [if_pos]
 refine ⟨cmpL, hl, fun x _ y _ => impl_compareLiterals_cmpL x y, fun x _ => ?_, fun x _ y _ z _ h1 h2 => ?_, fun x _ y _ z _ h1 h2 => ?_, fun x _ y _ h1 h2 => ?_⟩
 · rw [cmpL_neg]; omega
 · rw [cmpL_neg] at *; omega
 · rw [cmpL_neg] at *; omega
 · rw [cmpL_neg] at *; omega
theorem sorted_lit (xs : List Int) : (xs.mergeSort (leF fun x0 x1 => PF.impl_compareLiterals x0 x1)).Pairwise litLe := by
 have := List.pairwise_mergeSort (le := leF fun x0 x1 => PF.impl_compareLiterals x0 x1) (fun a b c h1 h2 => by
  rw [leF_lit] at *; unfold litLe at *; omega) (fun a b => by
  rw [Bool.or_eq_true, leF_lit, leF_lit]; unfold litLe; omega) xs
 exact this.imp fun h => leF_lit.1 h
def noComp (t : List Int) : Bool := adj (fun a b => !(b == wr (-a))) t
theorem impl_clause_eq {c : List Int} (hl : c.length < lim) : impl_clause c = some (let t := compactL (c.mergeSort (leF fun x0 x1 => PF.impl_compareLiterals x0 x1)); bif noComp t then (t, true) else ([], false)) := by
 unfold impl_clause
 rw [slices_Clone_int_int_eq (by omega), bd_some, sort_lit hl, bd_some]
 unfold slices_Compact_int_int
 rw [bd_some]
 simp only
 generalize ht : compactL (c.mergeSort (leF fun x0 x1 => PF.impl_compareLiterals x0 x1)) = t
 have htl : t.length ≤ 4294967296 := by
  have : ∀ l : List Int, (compactL l).length ≤ l.length := by
   intro l
   induction l using compactL.induct with
   | case1 => simp [compactL]
   | case2 => simp [compactL]
   | case3 y r ih => rw [compactL, if_pos rfl]; simp only [List.length_cons] at ih ⊢; omega
   | case4 x y r h ih => rw [compactL, if_neg h]; simp only [List.length_cons] at ih ⊢; omega
  have h1 := this (c.mergeSort (leF fun x0 x1 => PF.impl_compareLiterals x0 x1))
  rw [ht, List.length_mergeSort] at h1
  unfold lim at hl; omega
 cases t with
 | nil =>
  rw [iter_bk (s' := 1) rfl]; rfl
 | cons x t =>
  have key : ∀ (m : List Int) (k : Nat), k + 1 + m.length = (x :: t).length → (∀ i y, m[i]? = some y → (x :: t)[k + 1 + i]? = some y) → iter (S := Int) (X := ((List Int) × Bool)) (fun s49 => (bif (decide (s49 < (len (x :: t)))) then bd (ix (x :: t) s49) (fun x94 => bd (ix (x :: t) (wr (s49 - 1))) (fun x102 => (bif (x94 == (wr (-x102))) then some (Lp.rt ([], false)) else some (Lp.nx (wr (s49 + 1)))))) else some (Lp.bk s49))) ((k + 1 : Nat) : Int) =
   some (bif anyI (fun i y => match i with | 0 => false | i + 1 => match (x :: t)[i]? with | some z => y == wr (-z) | none => false) m (k + 1) then .rt ([], false) else .go (((x :: t).length : Nat) : Int)) := by
   intro m
   induction m with
   | nil =>
    intro k hk _
    simp only [List.length_nil, Nat.add_zero] at hk
    rw [iter_bk (s' := ((k + 1 : Nat) : Int))]
    · rw [hk]; rfl
    · have hd : decide (((k + 1 : Nat) : Int) < len (x :: t)) = false := by rw [len_eq, ← hk]; simp
      rw [hd]; rfl
   | cons y m ih =>
    intro k hk hm
    simp only [List.length_cons (a := y)] at hk
    have hy : (x :: t)[k + 1]? = some y := by simpa using hm 0 y rfl
    have hd : decide (((k + 1 : Nat) : Int) < len (x :: t)) = true := by rw [len_eq]; simp only [decide_eq_true_eq]; omega
    have hkl : k < (x :: t).length := by omega
    have hz := List.getElem?_eq_getElem hkl
    simp only [anyI]
    cases hb : (y == wr (-(x :: t)[k])) with
    | true =>
     rw [iter_rt (x := ([], false))]
     · simp [hz, hb]
     · simp only [hd, cond_true, ix_get, hy, bd_some, wr_pred (show 0 < k + 1 by omega) (show k + 1 < (x :: t).length by omega) (by omega), Nat.add_sub_cancel, hz, hb]
    | false =>
     rw [iter_nx (s' := ((k + 1 + 1 : Nat) : Int))]
     · rw [ih (k + 1) (by omega) fun i z hz => by have := hm (i + 1) z (by simpa using hz); rwa [show k + 1 + (i + 1) = k + 1 + 1 + i by omega] at this]
       simp [hz, hb]
     · simp only [hd, cond_true, ix_get, hy, bd_some, wr_pred (show 0 < k + 1 by omega) (show k + 1 < (x :: t).length by omega) (by omega), Nat.add_sub_cancel, hz, hb, cond_false]
       rw [wr_succ (n := (x :: t).length) (by omega) (by omega)]; simp
  have hk := key t 0 (by simp; omega) (by intro i y hy; rw [show 0 + 1 + i = i + 1 by omega]; simpa using hy)
  rw [show ((0 + 1 : Nat) : Int) = 1 from rfl] at hk
  rw [hk]
  have ha := anyI_adj (l := x :: t) (p := fun i y => match i with | 0 => false | i + 1 => match (x :: t)[i]? with | some z => y == wr (-z) | none => false) (q := fun _ => false) (r := fun a b => !(b == wr (-a))) (fun _ _ => rfl) (fun i a b h1 _ => by simp only [h1]; simp)
  simp only [anyI, Bool.false_or, Nat.zero_add] at ha
  rw [show (0 + 1 : Nat) = 1 from rfl, ha]
  unfold noComp
  rw [show ((x :: t).all fun _ => !false) = true by simp]
  cases adj (fun a b => !(b == wr (-a))) (x :: t) <;> rfl
def joined (a b : List Int) : List Int × Bool := match joinL a b with | some s => (s, true) | none => ([], false)
theorem clause_joined {a b : List Int} (ha : Srt a) (hb : Srt b) (sa : Sm a) (sb : Sm b) (hl : a.length + b.length < lim) : impl_clause (a ++ b) = some (joined a b) := by
 rw [impl_clause_eq (by simpa using hl)]
 simp only
 generalize ht : compactL ((a ++ b).mergeSort (leF fun x0 x1 => PF.impl_compareLiterals x0 x1)) = t
 have hm : ∀ x, x ∈ t ↔ x ∈ a ∨ x ∈ b := fun x => by rw [← ht, compactL_mem, List.mem_mergeSort, List.mem_append]
 have hs : Sm t := fun x hx => by
  rcases (hm x).1 hx with h | h
  · exact sa x h
  · exact sb x h
 have hab : ∀ x ∈ t, impl_abs x = x.natAbs := fun x hx => by
  have := hs x hx
  rw [impl_abs_eq (by unfold okI; omega), vr_abs this.1 this.2.1]
 have hlt : t.Pairwise fun x y => litLe x y ∧ x ≠ y := by
  rw [← ht]
  exact compactL_strict (fun x y h1 h2 => by unfold litLe at *; omega) (sorted_lit _)
 have hw : ∀ x ∈ t, wr (-x) = -x := fun x hx => by have := hs x hx; exact wr_of _ (by omega) (by omega)
 have hspec := joinL_spec ha sa hb sb
 unfold joined
 by_cases hex : ∃ y ∈ b, -y ∈ a
 · rw [if_pos hex] at hspec
   rw [hspec]
   have hn : noComp t = false := by
    cases hn : noComp t with
    | false => rfl
    | true =>
     exfalso
     -- neighbours have other variables, so all have
     have hsrt : Srt t := by
      refine adj_pairwise (r := fun x y => !(y == wr (-x)) && decide (x.natAbs < y.natAbs ∨ (x.natAbs = y.natAbs ∧ y < x))) (R := fun x y : Int => x.natAbs < y.natAbs) (fun _ _ _ => Nat.lt_trans) (fun x y hx hy hr => ?_) ?_
      · have h1 := hs x hx; have h2 := hs y hy
        simp only [Bool.and_eq_true, Bool.not_eq_true', beq_eq_false_iff_ne, ne_eq, decide_eq_true_eq] at hr
        rw [hw x hx] at hr
        omega
      · have hp : t.Pairwise fun x y => (decide (x.natAbs < y.natAbs ∨ (x.natAbs = y.natAbs ∧ y < x))) = true := by
         refine List.Pairwise.imp_of_mem ?_ hlt
         intro x y hx hy h
         simp only [decide_eq_true_eq]
         unfold litLe at h
         rw [hab x hx, hab y hy] at h
         omega
        have h1 := adj_of_pairwise hp
        unfold noComp at hn
        clear hp hlt hm hspec ht hs hab hw
        revert h1 hn
        generalize t = t
        intro hn h1
        induction t with
        | nil => rfl
        | cons x t ih =>
         cases t with
         | nil => rfl
         | cons y t =>
          simp only [adj, Bool.and_eq_true] at hn h1 ⊢
          exact ⟨⟨hn.1, h1.1⟩, ih hn.2 h1.2⟩
     obtain ⟨y, hy, hy2⟩ := hex
     have h1 := (hm y).2 (.inr hy)
     have h2 := (hm (-y)).2 (.inl hy2)
     have h0 := sb y hy
     -- two of one variable
     obtain ⟨i, hi⟩ := List.mem_iff_getElem?.1 h1
     obtain ⟨j, hj⟩ := List.mem_iff_getElem?.1 h2
     have hlen1 := (List.getElem?_eq_some_iff.1 hi).1
     have hlen2 := (List.getElem?_eq_some_iff.1 hj).1
     rw [List.getElem?_eq_getElem hlen1] at hi
     rw [List.getElem?_eq_getElem hlen2] at hj
     simp only [Option.some.injEq] at hi hj
     have hpw := List.pairwise_iff_getElem.1 hsrt
     rcases Nat.lt_trichotomy i j with h | h | h
     · have := hpw i j hlen1 hlen2 h; rw [hi, hj] at this; omega
     · subst h; rw [hi] at hj; omega
     · have := hpw j i hlen2 hlen1 h; rw [hi, hj] at this; omega
   rw [hn]; rfl
 · rw [if_neg hex] at hspec
   obtain ⟨s, h1, h2, h3⟩ := hspec
   rw [h1]
   have hne : ∀ x ∈ t, -x ∉ t := fun x hx hx2 => by
    have h0 := hs x hx
    rcases (hm x).1 hx with ha1 | hb1 <;> rcases (hm (-x)).1 hx2 with ha2 | hb2
    · have hpw := List.pairwise_iff_getElem.1 ha
      obtain ⟨i, hi1, hi⟩ := List.getElem_of_mem ha1
      obtain ⟨j, hj1, hj⟩ := List.getElem_of_mem ha2
      rcases Nat.lt_trichotomy i j with h | h | h
      · have := hpw i j hi1 hj1 h; rw [hi, hj] at this; omega
      · subst h; rw [hi] at hj; omega
      · have := hpw j i hj1 hi1 h; rw [hi, hj] at this; omega
    · exact hex ⟨-x, hb2, by rw [Int.neg_neg]; exact ha1⟩
    · exact hex ⟨x, hb1, ha2⟩
    · have hpw := List.pairwise_iff_getElem.1 hb
      obtain ⟨i, hi1, hi⟩ := List.getElem_of_mem hb1
      obtain ⟨j, hj1, hj⟩ := List.getElem_of_mem hb2
      rcases Nat.lt_trichotomy i j with h | h | h
      · have := hpw i j hi1 hj1 h; rw [hi, hj] at this; omega
      · subst h; rw [hi] at hj; omega
      · have := hpw j i hj1 hi1 h; rw [hi, hj] at this; omega
   have hn : noComp t = true := by
    unfold noComp
    refine adj_of_pairwise (List.Pairwise.imp_of_mem ?_ hlt)
    intro x y hx hy _
    rw [hw x hx]
    simp only [Bool.not_eq_true', beq_eq_false_iff_ne, ne_eq]
    intro e; subst e; exact hne x hx hy
   have hsrt : Srt t := by
    refine List.Pairwise.imp_of_mem ?_ hlt
    intro x y hx hy h
    unfold litLe at h
    rw [hab x hx, hab y hy] at h
    have : y ≠ -x := fun e => by subst e; exact hne x hx hy
    omega
   rw [hn]
   rw [srt_unique hsrt h2 fun x => by rw [hm, h3]]; rfl
end Go.PF
namespace Go.PF
open Go.Pu
structure okC (n : Nat) (c : l1Cur) : Prop where
 code : okL okU8 c.code
 lo : 0 ≤ c.at_
 hi : c.at_ + n ≤ 4611686018427387904
theorem okC.le {n m : Nat} {c : l1Cur} (h : okC n c) (hm : m ≤ n := by omega) : okC m c := ⟨h.code, h.lo, by have := h.hi; omega⟩
def Dr {A : Type} (n : Nat) (x : Option (A × l1Cur)) (Q : A → Prop) : Prop := ∃ a c, x = some (a, c) ∧ okC n c ∧ Q a
theorem wrk_nn {n : Int} (h0 : 0 ≤ n) (h1 : n < 9223372036854775808) : wrk true 64 n = n := by
 unfold wrk
 have h2 : (n % (2 ^ 64 : Int)) = n := Int.emod_eq_of_lt h0 (by omega)
 rw [h2]
 simp only [Bool.true_and]
 rw [if_neg]
 simp
 omega
theorem andK_small (x : Int) : 0 ≤ andK false 64 x 255 ∧ andK false 64 x 255 ≤ 255 := by
 unfold andK
 have h : ((BitVec.ofInt 64 x &&& BitVec.ofInt 64 255).toNat : Int) ≤ 255 := by
  rw [BitVec.toNat_and]
  have : (BitVec.ofInt 64 x).toNat &&& (BitVec.ofInt 64 255).toNat ≤ (BitVec.ofInt 64 255).toNat := Nat.and_le_right
  have e : (BitVec.ofInt 64 255).toNat = 255 := by decide
  omega
 generalize hk : ((BitVec.ofInt 64 x &&& BitVec.ofInt 64 255).toNat : Int) = k at *
 have h0 : 0 ≤ k := by rw [← hk]; exact Int.natCast_nonneg _
 unfold wrk
 simp only [Bool.false_and, Bool.false_eq_true, if_false]
 rw [Int.emod_eq_of_lt h0 (by omega)]
 exact ⟨h0, h⟩
theorem dr_next {n : Nat} {c : l1Cur} (h : okC (n + 1) c) : Dr n (spec_l1Cur_next c) fun b => 0 ≤ b ∧ b ≤ 255 := by
 have hl := h.lo; have hh := h.hi
 have hw : wr (c.at_ + 1) = c.at_ + 1 := wr_of _ (by omega) (by omega)
 have tail : ∀ s : Int, 0 ≤ s → s ≤ 255 → Dr n (bif (decide ((wr (c.at_ + 1)) ≤ (len c.code))) then some (s, (l1Cur.mk c.code (wr (c.at_ + 1)) (wrk false 64 ((wrk false 64 ((wrk false 64 (c.seed * 6364136223846793005)) + (wrk false 64 s))) + 337411)))) else some ((wrk true 64 (andK false 64 (shrK 64 (wrk false 64 ((wrk false 64 ((wrk false 64 (c.seed * 6364136223846793005)) + (wrk false 64 s))) + 337411)) 40) 255)), (l1Cur.mk c.code (wr (c.at_ + 1)) (wrk false 64 ((wrk false 64 ((wrk false 64 (c.seed * 6364136223846793005)) + (wrk false 64 s))) + 337411))))) (fun b => 0 ≤ b ∧ b ≤ 255) := by
  intro s h0 h1
  rw [hw]
  cases decide (c.at_ + 1 ≤ len c.code)
  · have := andK_small (shrK 64 (wrk false 64 ((wrk false 64 ((wrk false 64 (c.seed * 6364136223846793005)) + (wrk false 64 s))) + 337411)) 40)
    refine ⟨_, _, rfl, ⟨h.code, by show 0 ≤ c.at_ + 1; omega, by show c.at_ + 1 + _ ≤ _; omega⟩, ?_⟩
    show 0 ≤ wrk true 64 _ ∧ wrk true 64 _ ≤ 255
    rw [wrk_nn this.1 (by omega)]; exact this
  · exact ⟨_, _, rfl, ⟨h.code, by show 0 ≤ c.at_ + 1; omega, by show c.at_ + 1 + _ ≤ _; omega⟩, h0, h1⟩
 unfold spec_l1Cur_next
 cases hd : decide (c.at_ < len c.code) with
 | false => exact tail 0 (by omega) (by omega)
 | true =>
  have h2 : c.at_ < c.code.length := of_decide_eq_true hd
  obtain ⟨x, hx, hg⟩ := ix_of h.lo h2
  have hm := h.code.2 x (List.mem_of_getElem? hg)
  simp only [cond_true]
  rw [hx, bd_some, bdR_go, wrk_nn hm.1 (by have := hm.2; omega)]
  exact tail x hm.1 hm.2
theorem Dr.bind {A B : Type} {n m : Nat} {x : Option (A × l1Cur)} {Q : A → Prop} {k : A × l1Cur → Option (B × l1Cur)} {R : B → Prop} (h : Dr n x Q) (hk : ∀ a c, okC n c → Q a → Dr m (k (a, c)) R) : Dr m (bd x k) R := by
 obtain ⟨a, c, rfl, hc, hq⟩ := h
 exact hk a c hc hq
theorem dr_pick {n : Nat} {c : l1Cur} (h : okC (n + 2) c) (k : Int) : Dr n (spec_l1Cur_pick c k) fun x => 0 ≤ x ∧ x ≤ 65535 ∧ (x = 0 ∨ x < k) := by
 unfold spec_l1Cur_pick
 cases hd : decide (k ≤ 1) with
 | true => exact ⟨_, _, rfl, h.le, by omega, by omega, .inl rfl⟩
 | false =>
  have hk : 1 < k := by have := of_decide_eq_false hd; omega
  have hz : nz k = some () := by unfold nz; rw [if_neg (by omega)]
  simp only [cond_false]
  have small : ∀ x : Int, 0 ≤ x → x ≤ 65535 → 0 ≤ x.tmod k ∧ x.tmod k ≤ 65535 ∧ (x.tmod k = 0 ∨ x.tmod k < k) := fun x h0 h1 => by
   rw [Int.tmod_eq_emod_of_nonneg h0]
   have g1 := Int.emod_nonneg x (show k ≠ 0 by omega)
   have g2 := Int.emod_lt_of_pos x (show 0 < k by omega)
   have g3 : x % k ≤ x := by
    have e := Int.mul_ediv_add_emod x k
    have := Int.mul_nonneg (show 0 ≤ k by omega) (Int.ediv_nonneg h0 (show 0 ≤ k by omega))
    omega
   exact ⟨g1, by omega, .inr g2⟩
  refine (dr_next (n := n + 1) h).bind fun b c1 hc1 hb => ?_
  cases decide (200 < k) with
  | true =>
   simp only [cond_true]
   refine (dr_next (n := n) hc1).bind fun b2 c2 hc2 hb2 => ?_
   rw [hz, bd_some]
   have e1 : wr (b * 256) = b * 256 := wr_of _ (by omega) (by omega)
   have e2 : wr (b * 256 + b2) = b * 256 + b2 := wr_of _ (by omega) (by omega)
   exact ⟨_, _, rfl, hc2, by show 0 ≤ (wr (wr (b * 256) + b2)).tmod k ∧ _; rw [e1, e2]; exact small _ (by omega) (by omega)⟩
  | false =>
   simp only [cond_false]
   rw [hz, bd_some]
   exact ⟨_, _, rfl, hc1.le, small b hb.1 (by omega)⟩
theorem dr_one {n : Nat} {c : l1Cur} (h : okC (n + 2) c) (k : Int) : Dr n (spec_l1Cur_one c k) fun _ => True := by
 unfold spec_l1Cur_one
 exact (dr_pick h k).bind fun a c1 h1 _ => ⟨_, _, rfl, h1, trivial⟩
theorem dr_ix {A : Type} {l : List A} (h : l ≠ []) {x : Int} (h0 : 0 ≤ x) (h1 : x = 0 ∨ x < len l) : ∃ y, ix l x = some y ∧ y ∈ l := by
 have hl : 0 < l.length := List.length_pos_iff.2 h
 rw [len_eq] at h1
 obtain ⟨y, hy, hg⟩ := ix_of (xs := l) h0 (by omega)
 exact ⟨y, hy, List.mem_of_getElem? hg⟩
theorem dr_among {n : Nat} {c : l1Cur} (h : okC (n + 2) c) {l : List Int} (hl : l ≠ []) : Dr n (spec_l1Cur_among c l) fun x => x ∈ l := by
 unfold spec_l1Cur_among
 refine (dr_pick h (len l)).bind fun a c1 h1 hq => ?_
 obtain ⟨y, hy, hm⟩ := dr_ix hl hq.1 hq.2.2
 show Dr n (bd (ix l a) _) _
 rw [hy]
 exact ⟨_, _, rfl, h1, hm⟩
theorem dr_of {n : Nat} {c : l1Cur} (h : okC (n + 2) c) {l : List ByteArray} (hl : l ≠ []) : Dr n (spec_l1Cur_of c l) fun x => x ∈ l := by
 unfold spec_l1Cur_of
 refine (dr_pick h (len l)).bind fun a c1 h1 hq => ?_
 obtain ⟨y, hy, hm⟩ := dr_ix hl hq.1 hq.2.2
 show Dr n (bd (ix l a) _) _
 rw [hy]
 exact ⟨_, _, rfl, h1, hm⟩
theorem iter_near {T X : Type} {body : T → Option (Lp T X)} (m : T → Nat) (I : T → Prop) (P : Rs T X → Prop)
 (h : ∀ s, I s → (∃ s', body s = some (.nx s') ∧ I s' ∧ m s' < m s) ∨ (∃ s', body s = some (.bk s') ∧ P (.go s')) ∨ ∃ x, body s = some (.rt x) ∧ P (.rt x)) : ∀ s, I s → ∃ q, iter body s = some q ∧ P q := by
 have key : ∀ k s, m s < k → I s → ∃ q, iter body s = some q ∧ P q := by
  intro k
  induction k with
  | zero => intro s hk; omega
  | succ k ih =>
   intro s hk hi
   rcases h s hi with ⟨s', hb, hi', hm⟩ | ⟨s', hb, hp⟩ | ⟨x, hb, hp⟩
   · obtain ⟨q, hq, hp⟩ := ih s' (by omega) hi'
     exact ⟨q, (iter_nx hb).trans hq, hp⟩
   · exact ⟨_, iter_bk hb, hp⟩
   · exact ⟨_, iter_rt hb, hp⟩
 intro s hi
 exact key _ s (Nat.lt_succ_self _) hi
theorem dr_loop {T B : Type} {body : T → Option (Lp T Empty)} {s0 : T} {k : T → Option (B × l1Cur)} {lx : Empty → Option (B × l1Cur)} {n : Nat} {R : B → Prop} (m : T → Nat) (I : T → Prop) (J : T → Prop)
 (h0 : I s0) (h : ∀ s, I s → (∃ s', body s = some (.nx s') ∧ I s' ∧ m s' < m s) ∨ (∃ s', body s = some (.bk s') ∧ J s')) (hk : ∀ s, J s → Dr n (k s) R) : Dr n (bdR (iter body s0) k lx) R := by
 obtain ⟨q, hq, hp⟩ := iter_near (body := body) m I (fun q => match q with | .go s => J s | .rt x => x.elim) (fun s hs => by
  rcases h s hs with g | g
  · exact .inl g
  · exact .inr (.inl g)) s0 h0
 rw [hq]
 cases q with
 | go s => exact hk s hp
 | rt x => exact x.elim
end Go.PF
namespace Go.PF
open Go.Pu
def tl (b : Nat → Bool) (l : Int) : Bool := b l.natAbs == decide (0 < l)
def tc (b : Nat → Bool) (c : List Int) : Bool := c.any (tl b)
end Go.PF
namespace Go.PF
open Go.Pu
def lexC : List Int → List Int → Int
 | [], [] => 0
 | [], _ :: _ => -1
 | _ :: _, [] => 1
 | x :: a, y :: b => bif !(cmpL x y == 0) then cmpL x y else lexC a b
def cmpC (a b : List Int) : Int := if a.length < b.length then -1 else if b.length < a.length then 1 else lexC a b
abbrev SrtC (xs : List (List Int)) : Prop := xs.Pairwise fun a b => cmpC a b < 0
end Go.PF
namespace Go.PF
open Go.Pu
structure Cfg (V : Int) (n : Nat) (xs : List (List Int)) : Prop where
 srt : SrtC xs
 len : xs.length ≤ n
 cl : ∀ c ∈ xs, IsC V c
theorem slices_IndexFunc_LL_ge {c : List (List Int)} {f : List Int → Option Bool} {g : List Int → Bool} (h : ∀ y ∈ c, f y = some (g y)) : ∃ r, slices_IndexFunc_LLint_Lint c f = some r ∧ decide (0 ≤ r) = c.any g := by
 unfold slices_IndexFunc_LLint_Lint
 rw [forL_find (p := fun _ y => g y) (v := fun i _ => (i : Int)) (fun i y hy => by rw [h y (List.mem_of_getElem? hy), bd_some])]
 cases hf : findI (fun _ y => g y) c 0 with
 | none =>
  refine ⟨-1, rfl, ?_⟩
  have := findI_none.1 hf
  rw [anyI_any] at this; rw [this]; rfl
 | some z =>
  obtain ⟨_, _, _, h4⟩ := findI_some hf
  rw [anyI_any] at h4
  exact ⟨_, rfl, by rw [h4]; simp⟩
end Go.PF
namespace Go.Pu
theorem wrk_nat {n : Nat} (h : n < 9223372036854775808) : wrk true 64 (n : Int) = (n : Int) := by
 unfold wrk
 have h1 : ((n : Int) % (2 ^ 64 : Int)) = (n : Int) := Int.emod_eq_of_lt (by omega) (by omega)
 rw [h1]
 simp only [Bool.true_and]
 rw [if_neg]
 simp
 omega
theorem ofInt_nat {w n : Nat} : BitVec.ofInt w (n : Int) = BitVec.ofNat w n := by
 apply BitVec.eq_of_toNat_eq
 simp
theorem andK_nat {a b : Nat} (ha : a < 9223372036854775808) (hb : b < 9223372036854775808) : andK true 64 (a : Int) (b : Int) = ((a &&& b : Nat) : Int) := by
 unfold andK
 rw [ofInt_nat, ofInt_nat, BitVec.toNat_and, BitVec.toNat_ofNat, BitVec.toNat_ofNat, Nat.mod_eq_of_lt (by omega), Nat.mod_eq_of_lt (by omega)]
 exact wrk_nat (Nat.lt_of_le_of_lt Nat.and_le_left ha)
theorem shlK_nat {k : Nat} (hk : k ≤ 62) : shlK true 64 1 (k : Int) = ((2 ^ k : Nat) : Int) := by
 unfold shlK
 have h1 : min ((k : Int)).toNat 64 = k := by simp; omega
 rw [h1]
 have hp : 2 ^ k ≤ 2 ^ 62 := Nat.pow_le_pow_right (by omega) hk
 have := wrk_nat (n := 2 ^ k) (by omega)
 simpa using this
theorem shrK_nat {n k : Nat} (hk : k ≤ 63) : shrK 64 (n : Int) (k : Int) = ((n >>> k : Nat) : Int) := by
 unfold shrK
 have h1 : min ((k : Int)).toNat 64 = k := by simp; omega
 rw [h1, Nat.shiftRight_eq_div_pow]
 rw [Int.fdiv_eq_ediv_of_nonneg _ (Int.le_of_lt (Int.pow_pos (by omega)))]
 simp
theorem bit_nat {n k : Nat} (hn : n < 9223372036854775808) (hk : k ≤ 63) : (andK true 64 (shrK 64 (n : Int) (k : Int)) 1 == 1) = n.testBit k := by
 rw [shrK_nat hk]
 have h1 : n >>> k < 9223372036854775808 := Nat.lt_of_le_of_lt (Nat.shiftRight_le n k) hn
 have := andK_nat h1 (show 1 < 9223372036854775808 by omega)
 rw [show (1 : Int) = ((1 : Nat) : Int) from rfl, this]
 unfold Nat.testBit
 rw [Nat.and_comm]
 have hb : 1 &&& n >>> k = 0 ∨ 1 &&& n >>> k = 1 := by
  have : 1 &&& n >>> k ≤ 1 := Nat.and_le_left
  omega
 rcases hb with h | h <;> rw [h] <;> rfl
end Go.Pu
namespace Go.PF
open Go.Pu
theorem cnfB_rng {f : Cnf} (h : cnfB f = true) : 0 ≤ f.vars ∧ f.vars ≤ 12 := by
 unfold cnfB at h
 simp only [Bool.and_eq_true] at h
 exact varsB_iff.1 h.1.1
theorem cnfB_isC {f : Cnf} (h : cnfB f = true) : ∀ c ∈ f.clauses, IsC f.vars c := fun c hc => by
 unfold cnfB at h
 simp only [Bool.and_eq_true] at h
 exact clauseB_iff.1 (List.all_eq_true.1 h.2 c hc)
theorem cnfB_len {f : Cnf} (h : cnfB f = true) : f.clauses.length ≤ 60 := by
 unfold cnfB at h
 simp only [Bool.and_eq_true] at h
 have := of_decide_eq_true h.1.2
 rw [len_eq] at this
 omega
def bt' (n : Nat) : Nat → Bool := fun u => n.testBit (u - 1)
def modB (K : List (List Int)) (n : Nat) : Bool := K.all fun c => tc (bt' n) c
theorem impl_holds_eq {V : Int} {c : List Int} (hc : IsC V c) {n : Nat} (hn : n < 9223372036854775808) : impl_holds c (n : Int) = some (tc (bt' n) c) := by
 unfold impl_holds
 rw [slices_ContainsFunc_int_int_eq (g := tl (bt' n)) fun l hl => ?_]
 · rfl
 · have h1 := hc.lit l hl; have h2 := hc.hi
   have ha : impl_abs l = (l.natAbs : Int) := by rw [impl_abs_eq (by unfold okI; omega), vr_abs (by omega) (by omega)]
   have hw : wr (impl_abs l - 1) = ((l.natAbs - 1 : Nat) : Int) := by rw [ha, wr_of _ (by omega) (by omega)]; omega
   show bd (nn (wr (impl_abs l - 1))) _ = _
   rw [hw]
   have hnn : nn ((l.natAbs - 1 : Nat) : Int) = some () := by unfold nn; rw [if_neg (by omega)]
   rw [hnn, bd_some, bit_nat hn (by omega)]
   rfl
theorem contains_LL {c : List (List Int)} {f : List Int → Option Bool} {g : List Int → Bool} (h : ∀ y ∈ c, f y = some (g y)) : slices_ContainsFunc_LLint_Lint c f = some (c.any g) := by
 obtain ⟨r, h1, h2⟩ := slices_IndexFunc_LL_ge h
 unfold slices_ContainsFunc_LLint_Lint
 rw [h1, bd_some, h2]
theorem impl_isModel_eq {V : Int} {K : List (List Int)} (hK : ∀ c ∈ K, IsC V c) {n : Nat} (hn : n < 9223372036854775808) : impl_isModel K (n : Int) = some (modB K n) := by
 unfold impl_isModel
 rw [contains_LL (g := fun c => !tc (bt' n) c) fun c hc => ?_]
 · rw [bd_some]
   unfold modB
   congr 1
   induction K with
   | nil => rfl
   | cons c K ih =>
    have := ih fun d hd => hK d (List.mem_cons_of_mem _ hd)
    simp only [List.any_cons, List.all_cons, Bool.not_or, Bool.not_not, this]
 · unfold impl_isModel_1
   rw [impl_holds_eq (hK c hc) hn, bd_some]
theorem loop_r {σ X B : Type} {m : Nat} {body : Nat → σ → Option (Lp σ X)} {k : σ → Option B} {lx : X → Option B} {R : B → Prop} (I : Nat → σ → Prop) {s0 : σ} (h0 : I 0 s0)
 (h : ∀ i s, i < m → I i s → (∃ s', body i s = some (.nx s') ∧ I (i + 1) s') ∨ ∃ x r, body i s = some (.rt x) ∧ lx x = some r ∧ R r) (hk : ∀ s, I m s → ∃ r, k s = some r ∧ R r) : ∃ r, bdR (forR 0 m body s0) k lx = some r ∧ R r := by
 have key : ∀ (n i : Nat) (s : σ), i + n = m → I i s → ∃ r, bdR (forFrom body n i s) k lx = some r ∧ R r := by
  intro n
  induction n with
  | zero => intro i s hi hI; rw [Nat.add_zero] at hi; subst hi; exact hk s hI
  | succ n ih =>
   intro i s hi hI
   unfold forFrom
   rcases h i s (by omega) hI with ⟨s', e, hI'⟩ | ⟨x, r, e, e2, hr⟩
   · rw [e]; exact ih (i + 1) s' (by omega) hI'
   · rw [e]; exact ⟨r, e2, hr⟩
 exact key m 0 s0 (by omega) h0
def satB (V : Nat) (K : List (List Int)) : Bool := (List.range (2 ^ V)).any (modB K)
theorem shl_vars {F : Cnf} (hF : cnfB F = true) : shlK true 64 1 F.vars = ((2 ^ F.vars.toNat : Nat) : Int) ∧ 2 ^ F.vars.toNat ≤ 4096 ∧ nn F.vars = some () ∧ chk (shlK true 64 1 F.vars) = some (2 ^ F.vars.toNat) := by
 have hv := cnfB_rng hF
 have hp : 2 ^ F.vars.toNat ≤ 2 ^ 12 := Nat.pow_le_pow_right (by omega) (by omega)
 have hs : shlK true 64 1 F.vars = ((2 ^ F.vars.toNat : Nat) : Int) := by
  have := shlK_nat (k := F.vars.toNat) (by omega)
  rwa [Int.toNat_of_nonneg hv.1] at this
 refine ⟨hs, hp, by unfold nn; rw [if_neg (by omega)], ?_⟩
 rw [hs]
 unfold chk
 rw [if_pos (by omega), Int.toNat_natCast]
theorem impl_IsSatisfiable_eq {F : Cnf} (hF : cnfB F = true) : impl_IsSatisfiable F = some (satB F.vars.toNat F.clauses, true) := by
 have hv := cnfB_rng hF; have hC := cnfB_isC hF; have hN := cnfB_len hF
 have hok : okCnf F := ⟨by unfold okI; omega, ⟨by omega, fun c h => (hC c h).ok⟩⟩
 obtain ⟨hs, hp, hnn, hck⟩ := shl_vars hF
 have key : ∃ r, impl_satisfiable F.vars F.clauses = some r ∧ r = satB F.vars.toNat F.clauses := by
  unfold impl_satisfiable
  rw [hnn, bd_some, hck, bd_some]
  have := loop_r (B := Bool) (m := 2 ^ F.vars.toNat) (s0 := false) (k := fun s => some s) (lx := fun x => some x) (R := fun r => r = satB F.vars.toNat F.clauses) (body := fun i156 s156 => bd (PF.impl_isModel F.clauses ((i156 : Nat) : Int)) (fun r256 => bd (bif r256 then bd (β := _) (some (true, false) : Option (Bool × Bool)) (fun s278 => some (s278.1, (!s278.2))) else some (s156, false)) (fun t273 => (bif t273.2 then some (Lp.rt t273.1) else some (Lp.nx t273.1)))))
   (fun i s => s = false ∧ ∀ j, j < i → modB F.clauses j = false) ⟨rfl, fun j hj => by omega⟩ (fun i s hi hs => by
    obtain ⟨rfl, hs⟩ := hs
    rw [impl_isModel_eq hC (by omega), bd_some]
    cases hm : modB F.clauses i with
    | true => exact .inr ⟨true, true, rfl, rfl, (List.any_eq_true.2 ⟨i, List.mem_range.2 hi, hm⟩).symm⟩
    | false => exact .inl ⟨false, rfl, rfl, fun j hj => by
     rcases Nat.lt_succ_iff_lt_or_eq.1 hj with h | rfl
     · exact hs j h
     · exact hm⟩) (fun s hs => ⟨s, rfl, by
    rw [hs.1]
    symm
    unfold satB
    rw [Bool.eq_false_iff]
    intro h
    obtain ⟨j, hj, hm⟩ := List.any_eq_true.1 h
    rw [hs.2 j (List.mem_range.1 hj)] at hm; cases hm⟩)
  obtain ⟨r, e, hr⟩ := this
  exact ⟨r, by rw [e, bd_some], hr⟩
 obtain ⟨r, e, rfl⟩ := key
 unfold impl_IsSatisfiable
 rw [impl_IsCnf_eq hok, bd_some, hF]
 simp only [Bool.not_true, cond_false]
 rw [e, bd_some]
end Go.PF
namespace Go.PF
open Go.Pu
def bs (b : ByteArray) : List UInt8 := b.data.toList
theorem bs_app (a b : ByteArray) : bs (a ++ b) = bs a ++ bs b := by unfold bs; rw [ByteArray.data_append, Array.toList_append]
theorem bs_ext {a b : ByteArray} (h : bs a = bs b) : a = b := by
 apply ByteArray.ext
 exact Array.ext' h
theorem bs_len (a : ByteArray) : (bs a).length = a.size := by unfold bs; rw [Array.length_toList]; rfl
theorem bs_cut (s : ByteArray) (a b : Nat) : bs (s.extract a b) = ((bs s).take b).drop a := by
 unfold bs
 rw [ByteArray.data_extract, Array.toList_extract, List.extract_eq_take_drop, List.drop_take]
def tx (l : List UInt8) : ByteArray := ⟨l.toArray⟩
theorem bs_tx (l : List UInt8) : bs (tx l) = l := by simp [bs, tx]
theorem tx_bs (s : ByteArray) : tx (bs s) = s := bs_ext (bs_tx _)
theorem tx_inj {a b : List UInt8} (h : tx a = tx b) : a = b := by rw [← bs_tx a, h, bs_tx]
theorem tx_size (l : List UInt8) : (tx l).size = l.length := by rw [← bs_len, bs_tx]
inductive Ft where
 | leaf (c : UInt8)
 | neg (a : Ft)
 | bin (op : UInt8) (a b : Ft)
deriving DecidableEq
def isLf (c : UInt8) : Bool := (97 ≤ c && c ≤ 102) || c == 48 || c == 49
def isOp (c : UInt8) : Bool := c == 38 || c == 124 || c == 62
def Ft.txt : Ft → List UInt8
 | .leaf c => [c]
 | .neg a => 126 :: a.txt
 | .bin op a b => 40 :: (a.txt ++ op :: (b.txt ++ [41]))
def Ft.wf : Ft → Bool
 | .leaf c => isLf c
 | .neg a => a.wf
 | .bin op a b => isOp op && a.wf && b.wf
def Ft.dep : Ft → Nat
 | .leaf _ => 1
 | .neg a => a.dep + 1
 | .bin _ a b => max a.dep b.dep + 1
theorem Ft.dep_le (t : Ft) : t.dep ≤ t.txt.length := by
 induction t with
 | leaf c => simp [Ft.dep, Ft.txt]
 | neg a ih => simp [Ft.dep, Ft.txt, ih]
 | bin op a b iha ihb => simp only [Ft.dep, Ft.txt, List.length_cons, List.length_append, List.length_nil]; omega
theorem Ft.dep_pos (t : Ft) : 0 < t.dep := by cases t <;> simp [Ft.dep]
theorem Ft.txt_ne (t : Ft) : t.txt ≠ [] := by cases t <;> simp [Ft.txt]
def pf : Nat → List UInt8 → Option (Ft × List UInt8)
 | 0, _ => none
 | _ + 1, [] => none
 | n + 1, c :: r =>
  if isLf c then some (.leaf c, r)
  else if c = 126 then (pf n r).map fun z => (.neg z.1, z.2)
  else if c = 40 then
   match pf n r with
   | some (a, o :: r2) => if isOp o then
    match pf n r2 with
    | some (b, d :: r3) => if d = 41 then some (.bin o a b, r3) else none
    | _ => none
    else none
   | _ => none
  else none
theorem pf_some : ∀ {n : Nat} {s : List UInt8} {t : Ft} {r : List UInt8}, pf n s = some (t, r) → s = t.txt ++ r ∧ t.wf = true
 | 0, _, _, _, h => by cases h
 | _ + 1, [], _, _, h => by cases h
 | n + 1, c :: s, t, r, h => by
  simp only [pf] at h
  split at h
  · rename_i hc; cases h; exact ⟨rfl, hc⟩
  split at h
  · rename_i hc
    cases hp : pf n s with
    | none => rw [hp] at h; cases h
    | some z =>
     rw [hp] at h; cases h
     obtain ⟨h1, h2⟩ := pf_some (t := z.1) (r := z.2) hp
     subst hc
     exact ⟨by rw [Ft.txt, List.cons_append, ← h1], h2⟩
  split at h
  · rename_i hc; subst hc
    split at h
    · rename_i a o r2 hp
      split at h
      · rename_i ho
        split at h
        · rename_i b d r3 hq
          split at h
          · rename_i hd; cases h; subst hd
            obtain ⟨h1, h2⟩ := pf_some hp
            obtain ⟨h3, h4⟩ := pf_some hq
            exact ⟨by rw [h1, h3]; simp [Ft.txt], by simp [Ft.wf, ho, h2, h4]⟩
          · cases h
        · cases h
      · cases h
    · cases h
  · cases h
theorem isLf_not {c : UInt8} (h : isLf c = true) : c ≠ 126 ∧ c ≠ 40 := by
 constructor <;> (rintro rfl; revert h; decide)
theorem pf_txt {t : Ft} (h : t.wf = true) : ∀ {n : Nat} (r : List UInt8), t.dep ≤ n → pf n (t.txt ++ r) = some (t, r) := by
 induction t with
 | leaf c => intro n r hn; cases n with
  | zero => simp [Ft.dep] at hn
  | succ n => simp only [Ft.txt, List.cons_append, List.nil_append, pf]; rw [if_pos (show isLf c = true from h)]
 | neg a ih => intro n r hn; cases n with
  | zero => simp [Ft.dep] at hn
  | succ n =>
   simp only [Ft.dep] at hn
   rw [Ft.txt, List.cons_append, pf, if_neg (by decide), if_pos rfl, ih h r (by omega)]; rfl
 | bin op a b iha ihb => intro n r hn; cases n with
  | zero => simp [Ft.dep] at hn
  | succ n =>
   simp only [Ft.dep] at hn
   simp only [Ft.wf, Bool.and_eq_true] at h
   rw [Ft.txt, List.cons_append, List.append_assoc, pf, if_neg (by decide), if_neg (by decide), if_pos rfl, iha h.1.2 _ (by omega)]
   simp only [h.1.1, if_true, List.cons_append, List.append_assoc]
   rw [ihb h.2 _ (by omega)]
   simp
def P (s : List UInt8) : Option (Ft × List UInt8) := pf s.length s
theorem P_some {s : List UInt8} {t : Ft} {r : List UInt8} : P s = some (t, r) ↔ s = t.txt ++ r ∧ t.wf = true := by
 constructor
 · exact pf_some
 · rintro ⟨rfl, h⟩
   exact pf_txt h r (by have := t.dep_le; rw [List.length_append]; omega)
theorem pf_P {n : Nat} {s : List UInt8} (h : s.length ≤ n) : pf n s = P s := by
 cases hp : pf n s with
 | some z => exact (P_some.2 (pf_some (t := z.1) (r := z.2) hp)).symm
 | none =>
  cases hq : P s with
  | none => rfl
  | some z =>
   obtain ⟨h1, h2⟩ := P_some.1 (show P s = some (z.1, z.2) from hq)
   have := pf_txt h2 (n := n) z.2 (by have := z.1.dep_le; rw [h1, List.length_append] at h; omega)
   rw [← h1, hp] at this; cases this
def F? (s : List UInt8) : Option Ft := match P s with | some (t, []) => some t | _ => none
theorem F?_some {s : List UInt8} {t : Ft} : F? s = some t ↔ s = t.txt ∧ t.wf = true := by
 unfold F?
 constructor
 · intro h
   split at h
   · rename_i t' hp; cases h
     have := P_some.1 hp
     exact ⟨by simpa using this.1, this.2⟩
   · cases h
 · rintro ⟨rfl, h⟩
   rw [P_some (t := t) (r := []) |>.2 ⟨by simp, h⟩]
theorem txt_inj {s t : Ft} (hs : s.wf = true) (ht : t.wf = true) {r q : List UInt8} (h : s.txt ++ r = t.txt ++ q) : s = t ∧ r = q := by
 have h1 := (P_some (s := s.txt ++ r) (t := s) (r := r)).2 ⟨rfl, hs⟩
 rw [h, (P_some (s := t.txt ++ q) (t := t) (r := q)).2 ⟨rfl, ht⟩] at h1
 cases h1; exact ⟨rfl, rfl⟩
theorem P_cons (c : UInt8) (r : List UInt8) : P (c :: r) = if isLf c then some (.leaf c, r)
 else if c = 126 then (P r).map fun z => (.neg z.1, z.2)
 else if c = 40 then
  match P r with
  | some (a, o :: r2) => if isOp o then
   match P r2 with
   | some (b, d :: r3) => if d = 41 then some (.bin o a b, r3) else none
   | _ => none
   else none
  | _ => none
 else none := by
 unfold P
 simp only [List.length_cons, pf]
 split
 · rfl
 split
 · rfl
 split
 · split
   · rename_i a o r2 hp
     split
     · have hl : r2.length ≤ r.length := by
        have := (pf_some hp).1; rw [this]; simp; omega
       rw [pf_P hl]; rfl
     · rfl
   · rfl
 · rfl
theorem P_nil : P [] = none := rfl
def Ft.fo : Ft → Fo
 | .leaf c => .node (c.toNat : Int) .nil .nil (tx [c])
 | .neg a => .node 126 a.fo .nil (tx (Ft.neg a).txt)
 | .bin op a b => .node (op.toNat : Int) a.fo b.fo (tx (Ft.bin op a b).txt)
end Go.PF
namespace Go.PF
open Go.Pu
section
variable {α : Type}
structure STO (lt : α → α → Bool) : Prop where
 irr : ∀ a, lt a a = false
 tr : ∀ a b c, lt a b = true → lt b c = true → lt a c = true
 tot : ∀ a b, lt a b = false → lt b a = false → a = b
variable {lt : α → α → Bool}
theorem STO.asym (h : STO lt) {a b : α} (h1 : lt a b = true) : lt b a = false := by
 cases hb : lt b a with
 | false => rfl
 | true => have := h.tr _ _ _ h1 hb; rw [h.irr] at this; cases this
def SS (lt : α → α → Bool) (l : List α) : Prop := l.Pairwise fun a b => lt a b = true
theorem SS.nil : SS lt [] := List.Pairwise.nil
theorem SS.cons {a : α} {l : List α} : SS lt (a :: l) ↔ (∀ b ∈ l, lt a b = true) ∧ SS lt l := List.pairwise_cons
theorem SS.nodup (hs : STO lt) {l : List α} (h : SS lt l) : l.Nodup := h.imp fun {a b} hab e => by subst e; rw [hs.irr] at hab; cases hab
theorem SS.ext (hs : STO lt) : ∀ {l m : List α}, SS lt l → SS lt m → (∀ x, x ∈ l ↔ x ∈ m) → l = m
 | [], [], _, _, _ => rfl
 | [], b :: m, _, _, h => absurd ((h b).2 (by simp)) (by simp)
 | a :: l, [], _, _, h => absurd ((h a).1 (by simp)) (by simp)
 | a :: l, b :: m, h1, h2, h => by
  have h1' := SS.cons.1 h1
  have h2' := SS.cons.1 h2
  have hab : a = b := by
   rcases List.mem_cons.1 ((h a).1 (by simp)) with e | e
   · exact e
   rcases List.mem_cons.1 ((h b).2 (by simp)) with e' | e'
   · exact e'.symm
   have := hs.asym (h1'.1 b e'); rw [h2'.1 a e] at this; cases this
  subst hab
  rw [SS.ext hs h1'.2 h2'.2 fun x => ?_]
  constructor
  · intro hx
    rcases List.mem_cons.1 ((h x).1 (by simp [hx])) with e | e
    · subst e; have := h1'.1 _ hx; rw [hs.irr] at this; cases this
    · exact e
  · intro hx
    rcases List.mem_cons.1 ((h x).2 (by simp [hx])) with e | e
    · subst e; have := h2'.1 _ hx; rw [hs.irr] at this; cases this
    · exact e
def insO (lt : α → α → Bool) (x : α) : List α → List α
 | [] => [x]
 | y :: l => if lt y x then y :: insO lt x l else if lt x y then x :: y :: l else y :: l
theorem mem_insO (hs : STO lt) {x z : α} : ∀ {l : List α}, z ∈ insO lt x l ↔ z = x ∨ z ∈ l
 | [] => by simp [insO]
 | y :: l => by
  simp only [insO]
  split
  · simp only [List.mem_cons, mem_insO hs]
    constructor <;> (rintro (h | h | h) <;> simp [h])
  split
  · simp
  · rename_i h1 h2
    have : x = y := hs.tot _ _ (by simpa using h2) (by simpa using h1)
    subst this
    simp only [List.mem_cons]
    constructor
    · exact Or.inr
    · rintro (h | h)
      · exact .inl h
      · exact h
theorem SS_insO (hs : STO lt) {x : α} : ∀ {l : List α}, SS lt l → SS lt (insO lt x l)
 | [], _ => by simp [insO, SS]
 | y :: l, h => by
  have h' := SS.cons.1 h
  simp only [insO]
  split
  · rename_i h1
    refine SS.cons.2 ⟨fun b hb => ?_, SS_insO hs h'.2⟩
    rcases (mem_insO hs).1 hb with rfl | hb
    · exact h1
    · exact h'.1 b hb
  split
  · rename_i h1 h2
    refine SS.cons.2 ⟨fun b hb => ?_, h⟩
    rcases List.mem_cons.1 hb with rfl | hb
    · exact h2
    · exact hs.tr _ _ _ h2 (h'.1 b hb)
  · exact h
def setO (lt : α → α → Bool) (l : List α) : List α := l.foldr (insO lt) []
theorem mem_setO (hs : STO lt) {z : α} {l : List α} : z ∈ setO lt l ↔ z ∈ l := by
 induction l with
 | nil => simp [setO]
 | cons a l ih => simp only [setO, List.foldr_cons, List.mem_cons] at ih ⊢; rw [mem_insO hs, ih]
theorem SS_setO (hs : STO lt) {l : List α} : SS lt (setO lt l) := by
 induction l with
 | nil => exact SS.nil
 | cons a l ih => exact SS_insO hs ih
end
theorem ltB_irr : ∀ a : List UInt8, ltB a a = false
 | [] => rfl
 | x :: a => by simp [ltB, ltB_irr a]
theorem ltB_tr : ∀ {a b c : List UInt8}, ltB a b = true → ltB b c = true → ltB a c = true
 | [], [], _, h, _ => by cases h
 | _ :: _, [], _, h, _ => by cases h
 | _, _ :: _, [], _, h => by cases h
 | [], _ :: _, _ :: _, _, _ => rfl
 | x :: a, y :: b, z :: c, h1, h2 => by
  simp only [ltB, Bool.or_eq_true, decide_eq_true_eq, Bool.and_eq_true, beq_iff_eq] at *
  rcases h1 with h1 | ⟨rfl, h1⟩ <;> rcases h2 with h2 | ⟨rfl, h2⟩
  · exact .inl (UInt8.lt_trans h1 h2)
  · exact .inl h1
  · exact .inl h2
  · exact .inr ⟨rfl, ltB_tr h1 h2⟩
theorem ltB_tot : ∀ {a b : List UInt8}, ltB a b = false → ltB b a = false → a = b
 | [], [], _, _ => rfl
 | [], _ :: _, h, _ => by cases h
 | _ :: _, [], _, h => by cases h
 | x :: a, y :: b, h1, h2 => by
  simp only [ltB, Bool.or_eq_false_iff, decide_eq_false_iff_not, Bool.and_eq_false_iff, beq_eq_false_iff_ne] at *
  have e : x = y := UInt8.le_antisymm (UInt8.not_lt.1 h2.1) (UInt8.not_lt.1 h1.1)
  subst e
  have h3 : ltB a b = false := h1.2.resolve_left (fun h => h rfl)
  have h4 : ltB b a = false := h2.2.resolve_left (fun h => h rfl)
  rw [ltB_tot h3 h4]
end Go.PF
namespace Go.PF
open Go.Pu
theorem bs_at {s : ByteArray} {k : Nat} : (bs s)[k]? = s.data[k]? := by unfold bs; rw [Array.getElem?_toList]
theorem ixS_at {s : ByteArray} {k : Nat} {c : UInt8} (h : (bs s)[k]? = some c) : ixS s (k : Int) = some (c.toNat : Int) := by
 unfold ixS; rw [if_pos (by omega), ← bs_at]; simp [h]
theorem toList_bs (s : ByteArray) : s.toList = bs s := by
 have key : ∀ (n i : Nat) (r : List UInt8), s.size - i = n → ByteArray.toList.loop s i r = r.reverse ++ (bs s).drop i := by
  intro n
  induction n with
  | zero =>
   intro i r h
   unfold ByteArray.toList.loop
   rw [if_neg (by omega), List.drop_eq_nil_of_le (by rw [bs_len]; omega), List.append_nil]
  | succ n ih =>
   intro i r h
   unfold ByteArray.toList.loop
   rw [if_pos (by omega), ih (i + 1) _ (by omega)]
   have hi : i < (bs s).length := by rw [bs_len]; omega
   rw [List.drop_eq_getElem_cons hi, List.reverse_cons, List.append_assoc]
   congr 1
   have : s.get! i = (bs s)[i] := by
    unfold bs ByteArray.get!
    simp
    have hs : i < s.data.size := by have := bs_len s; rw [bs_len] at hi; exact hi
    rw [getElem!_pos s.data i hs]
    exact (Array.getElem_toList _).symm
   rw [this]; rfl
 unfold ByteArray.toList
 rw [key _ 0 [] rfl]; simp
theorem eqS (a b : ByteArray) : (a.toList == b.toList) = decide (a = b) := by
 rw [toList_bs, toList_bs]
 by_cases h : a = b
 · subst h; simp
 · have : bs a ≠ bs b := fun e => h (bs_ext e)
   simp [h, this]
theorem u8i {c d : UInt8} : ((c.toNat : Int) == (d.toNat : Int)) = (c == d) := by
 by_cases h : c = d
 · subst h; simp
 · have : c.toNat ≠ d.toNat := fun e => h (UInt8.toNat_inj.1 e)
   rw [beq_eq_false_iff_ne.2 h, beq_eq_false_iff_ne.2 (by omega)]
theorem c48 (c : UInt8) : ((c.toNat : Int) == 48) = (c == 48) := u8i (d := 48)
theorem c49 (c : UInt8) : ((c.toNat : Int) == 49) = (c == 49) := u8i (d := 49)
theorem c126 (c : UInt8) : ((c.toNat : Int) == 126) = (c == 126) := u8i (d := 126)
theorem c40 (c : UInt8) : ((c.toNat : Int) == 40) = (c == 40) := u8i (d := 40)
theorem c41 (c : UInt8) : ((c.toNat : Int) == 41) = (c == 41) := u8i (d := 41)
theorem c38 (c : UInt8) : ((c.toNat : Int) == 38) = (c == 38) := u8i (d := 38)
theorem c124 (c : UInt8) : ((c.toNat : Int) == 124) = (c == 124) := u8i (d := 124)
theorem c62 (c : UInt8) : ((c.toNat : Int) == 62) = (c == 62) := u8i (d := 62)
theorem cge (c : UInt8) : decide (97 ≤ (c.toNat : Int)) = decide (97 ≤ c) := by
 have : (97 ≤ c) ↔ 97 ≤ c.toNat := UInt8.le_iff_toNat_le
 simp only [this]; exact decide_eq_decide.2 (by omega)
theorem cle (c : UInt8) : decide ((c.toNat : Int) ≤ 102) = decide (c ≤ 102) := by
 have : (c ≤ 102) ↔ c.toNat ≤ 102 := UInt8.le_iff_toNat_le
 simp only [this]; exact decide_eq_decide.2 (by omega)
theorem clt (c : UInt8) : decide ((c.toNat : Int) < 103) = decide (c ≤ 102) := by
 have : (c ≤ 102) ↔ c.toNat ≤ 102 := UInt8.le_iff_toNat_le
 simp only [this]; exact decide_eq_decide.2 (by omega)
theorem isLf_spec (c : UInt8) : isLf c = ((c == 48) || (c == 49) || (decide (97 ≤ c) && decide (c ≤ 102))) := by
 unfold isLf
 cases decide (97 ≤ c) <;> cases decide (c ≤ 102) <;> cases (c == 48) <;> cases (c == 49) <;> rfl
def endV (s : ByteArray) (k : Nat) : Int := match P ((bs s).drop k) with
 | some (t, _) => ((k + t.txt.length : Nat) : Int)
 | none => -1
theorem P_rest {l : List UInt8} {t : Ft} {r : List UInt8} (h : P l = some (t, r)) : r = l.drop t.txt.length := by
 rw [(P_some.1 h).1]; simp
theorem P_drop {s : ByteArray} {k : Nat} {t : Ft} {r : List UInt8} (h : P ((bs s).drop k) = some (t, r)) : r = (bs s).drop (k + t.txt.length) ∧ k + t.txt.length ≤ s.size := by
 have h1 := P_rest h
 have h2 := congrArg List.length (P_some.1 h).1
 have h3 := List.length_pos_iff.2 t.txt_ne
 rw [List.length_drop, List.length_append, bs_len] at h2
 rw [List.drop_drop] at h1
 exact ⟨h1, by omega⟩
theorem wr_k {k : Nat} (h : k ≤ 1000000) : wr ((k : Int) + 1) = ((k + 1 : Nat) : Int) := by rw [wr_of _ (by omega) (by omega)]; rfl
theorem spec_l22End_F_eq (s : ByteArray) (hs : s.size ≤ 1000) : ∀ (n k : Nat), s.size - k < n → spec_l22End_F n s (k : Int) = some (endV s k)
 | 0, _, h => by omega
 | n + 1, k, h => by
  show spec_l22End_B (spec_l22End_F n) s (k : Int) = _
  unfold spec_l22End_B
  by_cases hk : s.size ≤ k
  · rw [bifT (by simp; omega)]
    unfold endV
    rw [List.drop_eq_nil_of_le (by rw [bs_len]; exact hk), P_nil]
  · rw [bifF (by simp; omega)]
    have hkl : k < (bs s).length := by rw [bs_len]; omega
    obtain ⟨c, hc⟩ : ∃ c, (bs s)[k]? = some c := ⟨_, List.getElem?_eq_getElem hkl⟩
    have hd : (bs s).drop k = c :: (bs s).drop (k + 1) := by
     rw [List.drop_eq_getElem_cons hkl]; congr 1
     rw [List.getElem?_eq_getElem hkl] at hc; exact Option.some.inj hc
    have hi := ixS_at hc
    simp only [hi, bd_some, c48, c49, c126, c40, cge, cle]
    have hP : endV s k = match P (c :: (bs s).drop (k + 1)) with | some (t, _) => ((k + t.txt.length : Nat) : Int) | none => -1 := by unfold endV; rw [hd]
    rw [hP, P_cons]
    have e1 : (bd (bif c == 48 then some true else some (c == 49)) fun t26 => bd (bif t26 then some true else bd (bif decide (97 ≤ c) then some (decide (c ≤ 102)) else some false) fun t66 => some t66) fun t55 => (some t55 : Option Bool)) = some (isLf c) := by
     rw [isLf_spec]
     cases decide (97 ≤ c) <;> cases decide (c ≤ 102) <;> cases (c == 48) <;> cases (c == 49) <;> rfl
    have step : ∀ {B : Type} (K : Bool → Option B), (bd (bif c == 48 then some true else some (c == 49)) fun t26 => bd (bif t26 then some true else bd (bif decide (97 ≤ c) then some (decide (c ≤ 102)) else some false) fun t66 => some t66) K) = K (isLf c) := by
     intro B K
     rw [isLf_spec]
     cases decide (97 ≤ c) <;> cases decide (c ≤ 102) <;> cases (c == 48) <;> cases (c == 49) <;> rfl
    rw [step]
    by_cases hl : isLf c = true
    · rw [hl, cond_true, if_pos rfl, wr_k (by omega)]; rfl
    · rw [Bool.not_eq_true] at hl
      rw [hl, cond_false, if_neg (by simp)]
      by_cases h126 : c = 126
      · subst h126
        rw [if_pos rfl]
        simp only [beq_self_eq_true, cond_true]
        rw [wr_k (by omega), spec_l22End_F_eq s hs n (k + 1) (by omega), bd_some]
        unfold endV
        cases P ((bs s).drop (k + 1)) with
        | none => rfl
        | some z =>
         obtain ⟨a, r⟩ := z
         show some ((k + 1 + a.txt.length : Nat) : Int) = some ((k + (126 :: a.txt).length : Nat) : Int)
         rw [List.length_cons, show k + 1 + a.txt.length = k + (a.txt.length + 1) by omega]
      · rw [if_neg h126, beq_eq_false_iff_ne.2 h126, cond_false]
        by_cases h40 : c = 40
        · subst h40
          rw [if_pos rfl]
          simp only [beq_self_eq_true, Bool.not_true, cond_false]
          rw [wr_k (by omega), spec_l22End_F_eq s hs n (k + 1) (by omega), bd_some]
          cases hp : P ((bs s).drop (k + 1)) with
          | none =>
           have : endV s (k + 1) = -1 := by unfold endV; rw [hp]
           rw [this]; rfl
          | some z =>
           obtain ⟨a, r⟩ := z
           have ev : endV s (k + 1) = ((k + 1 + a.txt.length : Nat) : Int) := by unfold endV; rw [hp]
           obtain ⟨hr, hle⟩ := P_drop hp
           rw [ev]
           generalize hm : k + 1 + a.txt.length = m at hr hle
           rw [bifF (show decide ((m : Int) < 0) = false by simp)]
           by_cases hms : s.size ≤ m
           · rw [bifT (show decide ((s.size : Int) ≤ (m : Int)) = true by simp; omega), bd_some, cond_true]
             rw [hr, List.drop_eq_nil_of_le (by rw [bs_len]; exact hms)]
           · rw [bifF (show decide ((s.size : Int) ≤ (m : Int)) = false by simp; omega)]
             have hml : m < (bs s).length := by rw [bs_len]; omega
             obtain ⟨o, ho⟩ : ∃ o, (bs s)[m]? = some o := ⟨_, List.getElem?_eq_getElem hml⟩
             have hdm : (bs s).drop m = o :: (bs s).drop (m + 1) := by
              rw [List.drop_eq_getElem_cons hml]; congr 1
              rw [List.getElem?_eq_getElem hml] at ho; exact Option.some.inj ho
             have him := ixS_at ho
             simp only [him, bd_some, c38, c124, c62]
             rw [hr, hdm]
             have stp : ∀ {B : Type} (K : Bool → Option B), (bd (bif !(o == 38) then some (!(o == 124)) else some false) fun t152 => bd (bif t152 then some (!(o == 62)) else some false) K) = K (!isOp o) := by
              intro B K
              unfold isOp
              cases (o == 38) <;> cases (o == 124) <;> cases (o == 62) <;> rfl
             have stp2 : (bd (bif !(o == 38) then some (!(o == 124)) else some false) fun t152 => bd (bif t152 then some (!(o == 62)) else some false) fun t167 => some t167) = some (!isOp o) := stp _
             rw [stp2, bd_some]
             dsimp only
             by_cases hop : isOp o = true
             · rw [hop, Bool.not_true, cond_false, if_pos rfl, wr_k (by omega), spec_l22End_F_eq s hs n (m + 1) (by omega), bd_some]
               cases hq : P ((bs s).drop (m + 1)) with
               | none =>
                have : endV s (m + 1) = -1 := by unfold endV; rw [hq]
                rw [this]; rfl
               | some z =>
                obtain ⟨b, r3⟩ := z
                have ev2 : endV s (m + 1) = ((m + 1 + b.txt.length : Nat) : Int) := by unfold endV; rw [hq]
                obtain ⟨hr3, hle3⟩ := P_drop hq
                rw [ev2]
                generalize hj : m + 1 + b.txt.length = j at hr3 hle3
                rw [bifF (show decide ((j : Int) < 0) = false by simp)]
                by_cases hjs : s.size ≤ j
                · rw [bifT (show decide ((s.size : Int) ≤ (j : Int)) = true by simp; omega), bd_some, cond_true]
                  rw [hr3, List.drop_eq_nil_of_le (by rw [bs_len]; exact hjs)]
                · rw [bifF (show decide ((s.size : Int) ≤ (j : Int)) = false by simp; omega)]
                  have hjl : j < (bs s).length := by rw [bs_len]; omega
                  obtain ⟨d, hd'⟩ : ∃ d, (bs s)[j]? = some d := ⟨_, List.getElem?_eq_getElem hjl⟩
                  have hdj : (bs s).drop j = d :: (bs s).drop (j + 1) := by
                   rw [List.drop_eq_getElem_cons hjl]; congr 1
                   rw [List.getElem?_eq_getElem hjl] at hd'; exact Option.some.inj hd'
                  have hij := ixS_at hd'
                  simp only [hij, bd_some, c41]
                  rw [hr3, hdj]
                  dsimp only
                  by_cases h41 : d = 41
                  · subst h41
                    rw [if_pos rfl, wr_k (by omega)]
                    show some ((j + 1 : Nat) : Int) = some ((k + (Ft.bin o a b).txt.length : Nat) : Int)
                    have : j + 1 = k + (Ft.bin o a b).txt.length := by
                     simp only [Ft.txt, List.length_cons, List.length_append, List.length_nil]; omega
                    rw [this]
                  · rw [if_neg h41, beq_eq_false_iff_ne.2 h41]; rfl
             · rw [Bool.not_eq_true] at hop
               rw [hop, Bool.not_false, cond_true, if_neg (by simp)]
        · rw [if_neg h40, beq_eq_false_iff_ne.2 h40]; rfl
theorem spec_l22End_eq {s : ByteArray} (hs : s.size ≤ 1000) (k : Nat) : spec_l22End s (k : Int) = some (endV s k) := by
 unfold spec_l22End
 exact spec_l22End_F_eq s hs _ _ (by rw [deep_eq]; omega)
def goodB (s : ByteArray) : Bool := decide (s.size ≤ 80) && (F? (bs s)).isSome
theorem spec_l22Good_eq (s : ByteArray) : spec_l22Good s = some (goodB s) := by
 unfold spec_l22Good goodB
 by_cases h0 : 0 < s.size
 · rw [bifT (decide_eq_true (show 0 < (s.size : Int) by omega))]
   by_cases h80 : s.size ≤ 80
   · rw [bifT (show decide ((s.size : Int) ≤ 80) = true by simp; omega)]
     have := spec_l22End_eq (s := s) (by omega) 0
     rw [show ((0 : Nat) : Int) = 0 from rfl] at this
     rw [this, bd_some, bd_some]
     rw [show decide (s.size ≤ 80) = true by simp [h80], Bool.true_and]
     congr 1
     unfold endV F?
     rw [List.drop_zero]
     cases hp : P (bs s) with
     | none =>
      show ((-1 : Int) == (s.size : Int)) = false
      rw [beq_eq_false_iff_ne]; omega
     | some z =>
      obtain ⟨t, r⟩ := z
      have h1 := congrArg List.length (P_some.1 hp).1
      rw [List.length_append, bs_len] at h1
      cases r with
      | nil =>
       show (((0 + t.txt.length : Nat) : Int) == (s.size : Int)) = true
       rw [List.length_nil] at h1
       rw [beq_iff_eq]; omega
      | cons x r =>
       show (((0 + t.txt.length : Nat) : Int) == (s.size : Int)) = false
       rw [List.length_cons] at h1
       rw [beq_eq_false_iff_ne]; omega
   · rw [bifF (show decide ((s.size : Int) ≤ 80) = false by simp; omega)]
     simp [h80]
 · rw [bifF (decide_eq_false (show ¬ (0 < (s.size : Int)) by omega))]
   have e : bs s = [] := List.eq_nil_of_length_eq_zero (by rw [bs_len]; omega)
   rw [e, show F? [] = none from rfl]
   simp
end Go.PF
namespace Go.PF
open Go.Pu
theorem cutS_ok {s : ByteArray} {a b : Nat} (h1 : a ≤ b) (h2 : b ≤ s.size) : cutS s (a : Int) (b : Int) = some (tx (((bs s).take b).drop a)) := by
 unfold cutS
 rw [if_pos (by omega)]
 congr 1
 apply bs_ext
 rw [bs_tx, bs_cut]; simp
theorem catS_ok {a b : ByteArray} (h : a.size + b.size ≤ 1000000000) : catS a b = some (a ++ b) := by unfold catS; rw [if_pos (by omega)]
theorem chrS_ok {c : UInt8} (h : c < 128) : chrS (c.toNat : Int) = some (tx [c]) := by
 have h' : c.toNat < 128 := h
 unfold chrS
 rw [if_pos (by omega)]
 congr 1
 apply bs_ext
 rw [bs_tx]
 show [UInt8.ofNat ((c.toNat : Int)).toNat] = [c]
 simp
theorem isLf_128 {c : UInt8} (h : isLf c = true) : c < 128 := by
 show c.toNat < 128
 rw [isLf_spec] at h
 simp only [Bool.or_eq_true, Bool.and_eq_true, decide_eq_true_eq, beq_iff_eq] at h
 rcases h with (rfl | rfl) | ⟨_, h⟩
 · decide
 · decide
 · have : c.toNat ≤ 102 := UInt8.le_iff_toNat_le.1 h
   omega
theorem isOp_128 {c : UInt8} (h : isOp c = true) : c < 128 := by
 unfold isOp at h
 simp only [Bool.or_eq_true, beq_iff_eq] at h
 rcases h with (rfl | rfl) | rfl <;> decide
theorem fo_get (t : Ft) : ∃ n, t.fo.get = some n ∧ n.text = tx t.txt ∧ n.fo = t.fo := by
 cases t with
 | leaf c => exact ⟨_, rfl, rfl, rfl⟩
 | neg a => exact ⟨_, rfl, rfl, rfl⟩
 | bin op a b => exact ⟨_, rfl, rfl, rfl⟩
theorem impl_leaf_eq {c : UInt8} (h : isLf c = true) : impl_leaf (c.toNat : Int) = some (Ft.leaf c).fo := by
 unfold impl_leaf
 rw [chrS_ok (isLf_128 h)]; rfl
theorem impl_not_eq {a : Ft} (h : a.txt.length ≤ 1000000) : impl_not a.fo = some (Ft.neg a).fo := by
 obtain ⟨n, h1, h2, _⟩ := fo_get a
 unfold impl_not
 rw [h1, bd_some, h2, catS_ok (by rw [tx_size]; show 1 + _ ≤ _; omega), bd_some]
 have e : ByteArray.mk #[126] ++ tx a.txt = tx (126 :: a.txt) := bs_ext (by rw [bs_app, bs_tx, bs_tx]; rfl)
 rw [e]; rfl
theorem impl_join_eq {o : UInt8} {a b : Ft} (ho : isOp o = true) (h : (Ft.bin o a b).txt.length ≤ 1000000) : impl_join (o.toNat : Int) a.fo b.fo = some (Ft.bin o a b).fo := by
 obtain ⟨n, h1, h2, _⟩ := fo_get a
 obtain ⟨m, h3, h4, _⟩ := fo_get b
 simp only [Ft.txt, List.length_cons, List.length_append, List.length_nil] at h
 have s1 : (ByteArray.mk #[40]).size = 1 := rfl
 have s2 : (ByteArray.mk #[41]).size = 1 := rfl
 unfold impl_join
 rw [h1, bd_some, h2, catS_ok (by rw [tx_size, s1]; omega), bd_some, chrS_ok (isOp_128 ho), bd_some, catS_ok (by rw [ByteArray.size_append, tx_size, tx_size, s1]; simp only [List.length_cons, List.length_nil]; omega), bd_some, h3, bd_some, h4,
  catS_ok (by rw [ByteArray.size_append, ByteArray.size_append, tx_size, tx_size, tx_size, s1]; simp only [List.length_cons, List.length_nil]; omega), bd_some,
  catS_ok (by rw [ByteArray.size_append, ByteArray.size_append, ByteArray.size_append, tx_size, tx_size, tx_size, s1, s2]; simp only [List.length_cons, List.length_nil]; omega), bd_some]
 have e : ByteArray.mk #[40] ++ tx a.txt ++ tx [o] ++ tx b.txt ++ ByteArray.mk #[41] = tx (Ft.bin o a b).txt := by
  apply bs_ext
  rw [bs_app, bs_app, bs_app, bs_app, bs_tx, bs_tx, bs_tx, bs_tx]
  simp [Ft.txt, bs]
 rw [e]; rfl
theorem isLetter_eq (c : UInt8) : impl_isLetter (c.toNat : Int) = (decide (97 ≤ c) && decide (c ≤ 102)) := by
 unfold impl_isLetter
 rw [cge, clt]
 cases decide (97 ≤ c) <;> rfl
theorem hasS_op (o : UInt8) : strings_Contains (ByteArray.mk #[38, 124, 62]) (tx [o]) = some (isOp o) := by
 unfold strings_Contains hasS
 have : (tx [o]).data.toList = [o] := bs_tx [o]
 rw [this]
 show some (decide (0 ≤ Go.Lib.indexByte [38, 124, 62] o)) = _
 congr 1
 revert o
 have key : ((List.range 256).all fun n => decide (0 ≤ Go.Lib.indexByte [38, 124, 62] (UInt8.ofNat n)) == isOp (UInt8.ofNat n)) = true := by decide +kernel
 intro o _
 have := List.all_eq_true.1 key o.toNat (List.mem_range.2 o.toNat_lt)
 rw [beq_iff_eq] at this
 simpa using this
def fromV (s : ByteArray) : Fo × ByteArray × Bool := match P (bs s) with
 | some (t, r) => (t.fo, tx r, true)
 | none => (.nil, tx [], false)
theorem isEmp (s : ByteArray) : (s.toList == (ByteArray.mk #[]).toList) = (bs s).isEmpty := by
 rw [toList_bs, toList_bs, show bs (ByteArray.mk #[]) = [] from rfl]
 cases bs s <;> rfl
theorem impl_parseFrom_F_eq : ∀ (n : Nat) (s : ByteArray), s.size < n → s.size ≤ 100000 → impl_parseFrom_F n s = some (fromV s)
 | 0, _, h, _ => by omega
 | n + 1, s, h, hs => by
  show impl_parseFrom_B (impl_parseFrom_F n) s = _
  unfold impl_parseFrom_B fromV
  rw [isEmp]
  cases hb : bs s with
  | nil => rfl
  | cons c r =>
   have hsz := bs_len s
   rw [hb, List.length_cons] at hsz
   have hi : ixS s 0 = some (c.toNat : Int) := ixS_at (k := 0) (by rw [hb]; rfl)
   have hc : cutS s 1 (s.size : Int) = some (tx r) := by
    have := cutS_ok (s := s) (a := 1) (b := s.size) (by omega) (by omega)
    rw [show ((1 : Nat) : Int) = 1 from rfl] at this
    rw [this, hb]
    congr 2
    rw [← hsz]; simp
   have rl : (tx r).size = r.length := tx_size r
   rw [show (c :: r).isEmpty = false from rfl, cond_false, hi, bd_some, hc, bd_some]
   simp only [isLetter_eq, c48, c49, c126, c40]
   rw [P_cons]
   have e1 : (bif (bif (decide (97 ≤ c) && decide (c ≤ 102)) then true else (c == 48)) then true else (c == 49)) = isLf c := by
    rw [isLf_spec]
    cases decide (97 ≤ c) <;> cases decide (c ≤ 102) <;> cases (c == 48) <;> cases (c == 49) <;> rfl
   rw [e1]
   by_cases hl : isLf c = true
   · rw [hl, cond_true, if_pos rfl, impl_leaf_eq hl]; rfl
   · rw [Bool.not_eq_true] at hl
     rw [hl, cond_false, if_neg (by simp)]
     have ih : impl_parseFrom_F n (tx r) = some (fromV (tx r)) := impl_parseFrom_F_eq n (tx r) (by omega) (by omega)
     rw [ih, bd_some]
     by_cases h126 : c = 126
     · subst h126
       rw [if_pos rfl]
       simp only [beq_self_eq_true, cond_true]
       unfold fromV
       rw [bs_tx]
       cases hp : P r with
       | none => rfl
       | some z =>
        obtain ⟨a, r'⟩ := z
        have h1 := congrArg List.length (P_some.1 hp).1
        rw [List.length_append] at h1
        show bd (impl_not a.fo) (fun r72 => some (r72, tx r', true)) = _
        rw [impl_not_eq (by omega)]; rfl
     · rw [if_neg h126, beq_eq_false_iff_ne.2 h126, cond_false]
       by_cases h40 : c = 40
       · subst h40
         rw [if_pos rfl]
         simp only [beq_self_eq_true, Bool.not_true, cond_false]
         unfold fromV
         rw [bs_tx, bd_some]
         cases hp : P r with
         | none => rfl
         | some z =>
          obtain ⟨a, r1⟩ := z
          have l1 := congrArg List.length (P_some.1 hp).1
          rw [List.length_append] at l1
          dsimp only
          rw [Bool.not_true, isEmp, bs_tx]
          cases r1 with
          | nil => rfl
          | cons o r2 =>
           have t1 : (tx (o :: r2)).size = r2.length + 1 := tx_size _
           have c01 : cutS (tx (o :: r2)) 0 1 = some (tx [o]) := by
            have := cutS_ok (s := tx (o :: r2)) (a := 0) (b := 1) (by omega) (by omega)
            rw [show ((0 : Nat) : Int) = 0 from rfl, show ((1 : Nat) : Int) = 1 from rfl] at this
            rw [this, bs_tx]; rfl
           have c1e : cutS (tx (o :: r2)) 1 ((tx (o :: r2)).size : Int) = some (tx r2) := by
            have := cutS_ok (s := tx (o :: r2)) (a := 1) (b := (tx (o :: r2)).size) (by omega) (by omega)
            rw [show ((1 : Nat) : Int) = 1 from rfl] at this
            rw [this, bs_tx, t1]; simp
           have io : ixS (tx (o :: r2)) 0 = some (o.toNat : Int) := ixS_at (k := 0) (by rw [bs_tx]; rfl)
           rw [show (o :: r2).isEmpty = false from rfl, cond_false, cond_false, c01, bd_some, hasS_op, bd_some, bd_some, io, bd_some, c1e, bd_some]
           dsimp only
           by_cases hop : isOp o = true
           · have l2 : r2.length < s.size := by simp only [List.length_cons] at l1; omega
             have ih2 : impl_parseFrom_F n (tx r2) = some (fromV (tx r2)) := impl_parseFrom_F_eq n (tx r2) (by rw [tx_size]; simp only [List.length_cons] at l1; omega) (by rw [tx_size]; omega)
             rw [hop, Bool.not_true, cond_false, if_pos rfl, ih2, bd_some]
             unfold fromV
             rw [bs_tx]
             cases hq : P r2 with
             | none => rfl
             | some z =>
              obtain ⟨b, r3⟩ := z
              have l3 := congrArg List.length (P_some.1 hq).1
              rw [List.length_append] at l3
              dsimp only
              rw [Bool.not_true, isEmp, bs_tx]
              cases r3 with
              | nil => rfl
              | cons d r4 =>
               have t3 : (tx (d :: r4)).size = r4.length + 1 := tx_size _
               have io3 : ixS (tx (d :: r4)) 0 = some (d.toNat : Int) := ixS_at (k := 0) (by rw [bs_tx]; rfl)
               have c3e : cutS (tx (d :: r4)) 1 ((tx (d :: r4)).size : Int) = some (tx r4) := by
                have := cutS_ok (s := tx (d :: r4)) (a := 1) (b := (tx (d :: r4)).size) (by omega) (by omega)
                rw [show ((1 : Nat) : Int) = 1 from rfl] at this
                rw [this, bs_tx, t3]; simp
               rw [show (d :: r4).isEmpty = false from rfl, cond_false, cond_false, io3, bd_some, bd_some, c41]
               dsimp only
               by_cases h41 : d = 41
               · subst h41
                 rw [if_pos rfl]
                 simp only [beq_self_eq_true, Bool.not_true, cond_false]
                 rw [impl_join_eq hop (by simp only [Ft.txt, List.length_cons, List.length_append, List.length_nil] at *; omega), bd_some, c3e]; rfl
               · rw [if_neg h41, beq_eq_false_iff_ne.2 h41]; rfl
           · rw [Bool.not_eq_true] at hop
             rw [hop, Bool.not_false, cond_true, if_neg (by simp)]; rfl
       · rw [if_neg h40, beq_eq_false_iff_ne.2 h40]; rfl
theorem impl_parse_eq (s : ByteArray) : impl_parse s = some (match F? (bs s) with | some t => if s.size ≤ 80 then (t.fo, true) else (.nil, false) | none => (.nil, false)) := by
 unfold impl_parse
 by_cases h80 : s.size ≤ 80
 · rw [bifF (show decide (80 < (s.size : Int)) = false by simp; omega)]
   unfold impl_parseFrom
   rw [impl_parseFrom_F_eq deep s (by rw [deep_eq]; omega) (by omega), bd_some]
   unfold fromV F?
   cases hp : P (bs s) with
   | none => rfl
   | some z =>
    obtain ⟨t, r⟩ := z
    dsimp only
    rw [Bool.not_true, isEmp, bs_tx]
    cases r with
    | nil => simp [h80]
    | cons x r => simp
 · rw [bifT (show decide (80 < (s.size : Int)) = true by simp; omega)]
   cases F? (bs s) <;> simp [h80]
theorem good_iff {s : ByteArray} : goodB s = true ↔ ∃ t, F? (bs s) = some t ∧ s.size ≤ 80 := by
 unfold goodB
 rw [Bool.and_eq_true, decide_eq_true_iff, Option.isSome_iff_exists]
 constructor
 · rintro ⟨h1, t, h2⟩; exact ⟨t, h2, h1⟩
 · rintro ⟨t, h2, h1⟩; exact ⟨h1, t, h2⟩
theorem impl_parse_good {s : ByteArray} {t : Ft} (h : F? (bs s) = some t) (h80 : s.size ≤ 80) : impl_parse s = some (t.fo, true) := by
 rw [impl_parse_eq, h]; simp [h80]
theorem impl_parse_bad {s : ByteArray} (h : goodB s = false) : impl_parse s = some (.nil, false) := by
 rw [impl_parse_eq]
 cases e : F? (bs s) with
 | none => rfl
 | some t =>
  have : ¬ s.size ≤ 80 := fun g => by
   rw [good_iff.2 ⟨t, e, g⟩] at h; cases h
  simp [this]
theorem impl_IsFormula_eq (s : ByteArray) : impl_IsFormula s = some (goodB s) := by
 unfold impl_IsFormula
 cases h : goodB s with
 | true =>
  obtain ⟨t, h1, h2⟩ := good_iff.1 h
  rw [impl_parse_good h1 h2]; rfl
 | false => rw [impl_parse_bad h]; rfl
end Go.PF
namespace Go.PF
open Go.Pu
theorem join_ok {o a b : ByteArray} (ho : o.size ≤ 10) (ha : a.size ≤ 1000000) (hb : b.size ≤ 1000000) : ∃ t, spec_l22Join o a b = some t ∧ t.size = a.size + b.size + o.size + 2 := by
 have s1 : (ByteArray.mk #[40]).size = 1 := rfl
 have s2 : (ByteArray.mk #[41]).size = 1 := rfl
 unfold spec_l22Join
 rw [catS_ok (by rw [s1]; omega), bd_some, catS_ok (by rw [ByteArray.size_append, s1]; omega), bd_some, catS_ok (by rw [ByteArray.size_append, ByteArray.size_append, s1]; omega), bd_some,
  catS_ok (by rw [ByteArray.size_append, ByteArray.size_append, ByteArray.size_append, s1, s2]; omega), bd_some]
 refine ⟨_, rfl, ?_⟩
 rw [ByteArray.size_append, ByteArray.size_append, ByteArray.size_append, ByteArray.size_append, s1, s2]; omega
def costF : Nat → Nat
 | 0 => 10
 | m + 1 => 2 * costF m + 10
def sizeF : Nat → Nat
 | 0 => 4
 | m + 1 => 2 * sizeF m + 4
theorem size_le : ∀ {m k : Nat}, m ≤ k → sizeF m ≤ sizeF k := by
 intro m k h
 induction h with
 | refl => omega
 | step h ih => rw [sizeF]; omega
theorem cost_pos (m : Nat) : 10 ≤ costF m := by cases m <;> simp [costF]
theorem size_pos (m : Nat) : 4 ≤ sizeF m := by cases m <;> simp [sizeF]
abbrev leafs : List ByteArray := [(ByteArray.mk #[97]), (ByteArray.mk #[98]), (ByteArray.mk #[99]), (ByteArray.mk #[97]), (ByteArray.mk #[98]), (ByteArray.mk #[100]), (ByteArray.mk #[48]), (ByteArray.mk #[49]), (ByteArray.mk #[102]), (ByteArray.mk #[101]), (ByteArray.mk #[99]), (ByteArray.mk #[97])]
theorem leafs_1 : ∀ x ∈ leafs, x.size = 1 := by
 intro x hx
 simp only [leafs, List.mem_cons, List.not_mem_nil, or_false] at hx
 rcases hx with h | h | h | h | h | h | h | h | h | h | h | h <;> rw [h] <;> rfl
abbrev signs : List ByteArray := [(ByteArray.mk #[38]), (ByteArray.mk #[124]), (ByteArray.mk #[62])]
theorem signs_1 : ∀ x ∈ signs, x.size = 1 := by
 intro x hx
 simp only [signs, List.mem_cons, List.not_mem_nil, or_false] at hx
 rcases hx with h | h | h <;> rw [h] <;> rfl
theorem dr_formula22 : ∀ (m fuel n : Nat) (c : l1Cur) (s : Int), m ≤ 12 → m < fuel → s ≤ m → okC (n + costF m) c → Dr n (spec_l1Cur_formula22_F fuel c s) fun t => t.size ≤ sizeF m
  | m, 0, _, _, _, _, hf, _, _ => by omega
  | m, fuel + 1, n, c, s, h12, hf, hs, hc => by
    have hsz := size_pos m
    have hco := cost_pos m
    have hb : sizeF m ≤ 40000 := by have := size_le h12; have e : sizeF 12 = 32764 := by decide
                                    omega
    show Dr n (spec_l1Cur_formula22_B _ _ _) _
    unfold spec_l1Cur_formula22_B
    have leaf : ∀ {c : l1Cur}, okC (n + 2) c → Dr n (bd (PF.spec_l1Cur_of c leafs) (fun r60 => some (r60.1, r60.2))) fun t => t.size ≤ sizeF m := fun hc =>
      (dr_of hc (by simp)).bind fun a c1 h1 ha => ⟨_, _, rfl, h1, by have := leafs_1 a ha; dsimp only; omega⟩
    by_cases h1 : s ≤ 1
    · rw [decide_eq_true h1, cond_true, bd_some]
      exact leaf hc.le
    · rw [decide_eq_false h1, cond_false]
      obtain ⟨k, rfl⟩ : ∃ k, m = k + 1 := ⟨m - 1, by omega⟩
      rw [costF] at hc
      obtain ⟨b1, c1, e1, hc1, _⟩ := dr_one (n := n + (2 * costF k + 8)) (hc.le (by omega)) 6
      rw [e1, bd_some, bd_some]
      cases b1 with
      | true => exact leaf hc1.le
      | false =>
        dsimp only
        rw [cond_false]
        have hw : ∀ x : Int, 1 ≤ x → x ≤ s - 1 → wr x = x := fun x _ _ => wr_of _ (by omega) (by omega)
        refine (dr_one (n := n + (2 * costF k + 6)) (hc1.le (by omega)) 4).bind fun b2 c2 hc2 _ => ?_
        have kco := cost_pos k
        rw [sizeF] at hb ⊢
        cases b2 with
        | true =>
          dsimp only
          rw [cond_true, hw (s - 1) (by omega) (by omega)]
          refine (dr_formula22 k fuel n c2 (s - 1) (by omega) (by omega) (by omega) (hc2.le (by omega))).bind fun t c3 hc3 ht => ?_
          dsimp only
          rw [catS_ok (by show 1 + _ ≤ _; omega), bd_some]
          refine ⟨_, _, rfl, hc3, ?_⟩
          dsimp only
          rw [ByteArray.size_append]; show 1 + _ ≤ _; omega
        | false =>
          dsimp only
          rw [cond_false, hw (s - 1) (by omega) (by omega)]
          refine (dr_pick (n := n + (2 * costF k + 4)) (hc2.le (by omega)) (s - 1)).bind fun x c3 hc3 hx => ?_
          dsimp only
          refine (dr_of (n := n + (2 * costF k + 2)) (hc3.le (by omega)) (by simp)).bind fun o c4 hc4 ho => ?_
          have ho1 := signs_1 o ho
          dsimp only
          have x1 : 1 + x ≤ s - 1 := by rcases hx.2.2 with h | h <;> omega
          rw [hw (1 + x) (by omega) x1, hw (s - (1 + x)) (by omega) (by omega)]
          refine (dr_formula22 k fuel (n + costF k) c4 (1 + x) (by omega) (by omega) (by omega) (hc4.le (by omega))).bind fun a c5 hc5 ha => ?_
          dsimp only
          refine (dr_formula22 k fuel n c5 (s - (1 + x)) (by omega) (by omega) (by omega) hc5).bind fun b c6 hc6 hb' => ?_
          dsimp only
          obtain ⟨t, t1, t2⟩ := join_ok (o := o) (a := a) (b := b) (by omega) (by omega) (by omega)
          rw [t1, bd_some]
          exact ⟨_, _, rfl, hc6, by dsimp only; omega⟩
theorem dr_formula {n : Nat} {c : l1Cur} (h : okC (n + 6000) c) : Dr n (spec_l1Cur_formula c) fun t => t.size ≤ 40000 := by
 unfold spec_l1Cur_formula
 refine (dr_among (n := n + 5998) (h.le (by omega)) (by simp)).bind fun x c1 h1 hx => ?_
 dsimp only
 have hx8 : x ≤ (8 : Nat) := by
  simp only [List.mem_cons, List.not_mem_nil, or_false] at hx
  omega
 have e8 : costF 8 = 5110 := by decide
 have s8 : sizeF 8 = 2044 := by decide
 refine (dr_formula22 8 deep n c1 x (by omega) (by rw [deep_eq]; omega) hx8 (h1.le (by omega))).bind fun t c2 h2 ht => ?_
 dsimp only
 rw [spec_l22Good_eq, bd_some]
 cases goodB t
 · exact ⟨_, _, rfl, h2, by decide⟩
 · exact ⟨_, _, rfl, h2, by dsimp only; omega⟩
theorem cutT_ok {s : ByteArray} {a b : Int} (h0 : 0 ≤ a) (h1 : a ≤ b) (h2 : b ≤ s.size) : ∃ t, cutS s a b = some t ∧ (t.size : Int) = b - a := by
 obtain ⟨x, rfl⟩ := Int.eq_ofNat_of_zero_le h0
 obtain ⟨y, rfl⟩ := Int.eq_ofNat_of_zero_le (show 0 ≤ b by omega)
 refine ⟨_, cutS_ok (by omega) (by omega), ?_⟩
 rw [tx_size, List.length_drop, List.length_take, bs_len]; omega
theorem dr_spoilt {n : Nat} {c : l1Cur} {s u : ByteArray} (h : okC (n + 10) c) (hs : s.size ≤ 1000000) (hu : 1 ≤ u.size) (hu2 : u.size ≤ 1000) : Dr n (spec_l1Cur_spoilt c s u) fun t => t.size ≤ s.size + 1 := by
 unfold spec_l1Cur_spoilt
 rw [eqS]
 by_cases h0 : s = ByteArray.mk #[]
 · rw [decide_eq_true h0, cond_true]
   obtain ⟨t, t1, t2⟩ := cutT_ok (s := u) (a := 0) (b := 1) (by omega) (by omega) (by omega)
   rw [t1, bd_some]
   exact ⟨_, _, rfl, h.le, by dsimp only; omega⟩
 · rw [decide_eq_false h0, cond_false]
   have hp : 0 < s.size := by
    rcases Nat.eq_zero_or_pos s.size with e | e
    · exact absurd (bs_ext (by rw [List.eq_nil_of_length_eq_zero (show (bs s).length = 0 by rw [bs_len]; exact e)]; rfl)) h0
    · exact e
   refine (dr_pick (n := n + 8) (h.le (by omega)) (s.size : Int)).bind fun x c1 h1 hx => ?_
   dsimp only
   refine (dr_pick (n := n + 6) (h1.le (by omega)) (u.size : Int)).bind fun y c2 h2 hy => ?_
   dsimp only
   have x1 : x < s.size := by rcases hx.2.2 with e | e <;> omega
   have y1 : y < u.size := by rcases hy.2.2 with e | e <;> omega
   obtain ⟨p, p1, p2⟩ := cutT_ok (s := u) (a := y) (b := u.size) hy.1 (by omega) (by omega)
   rw [p1, bd_some]
   obtain ⟨q, q1, q2⟩ := cutT_ok (s := p) (a := 0) (b := 1) (by omega) (by omega) (by omega)
   rw [q1, bd_some]
   refine (dr_pick (n := n) (h2.le (by omega)) 3).bind fun z c3 h3 hz => ?_
   dsimp only
   obtain ⟨a, a1, a2⟩ := cutT_ok (s := s) (a := 0) (b := x) (by omega) hx.1 (by omega)
   obtain ⟨b, b1, b2⟩ := cutT_ok (s := s) (a := x) (b := s.size) hx.1 (by omega) (by omega)
   obtain ⟨d, d1, d2⟩ := cutT_ok (s := s) (a := x + 1) (b := s.size) (by omega) (by omega) (by omega)
   have hw : wr (x + 1) = x + 1 := wr_of _ (by omega) (by omega)
   rw [hw, a1, b1, d1]
   simp only [bd_some]
   cases z == 0 with
   | true =>
    rw [cond_true, catS_ok (by omega), bd_some, catS_ok (by rw [ByteArray.size_append]; omega), bd_some]
    exact ⟨_, _, rfl, h3, by dsimp only; rw [ByteArray.size_append, ByteArray.size_append]; omega⟩
   | false =>
    rw [cond_false]
    cases z == 1 with
    | true =>
     rw [cond_true, catS_ok (by omega), bd_some, catS_ok (by rw [ByteArray.size_append]; omega), bd_some]
     exact ⟨_, _, rfl, h3, by dsimp only; rw [ByteArray.size_append, ByteArray.size_append]; omega⟩
    | false =>
     rw [cond_false, catS_ok (by omega), bd_some]
     exact ⟨_, _, rfl, h3, by dsimp only; rw [ByteArray.size_append]; omega⟩
theorem dr_formulaText {n : Nat} {c : l1Cur} (h : okC (n + 6100) c) : Dr n (spec_l1Cur_formulaText c) fun t => t.size ≤ 100000 := by
 unfold spec_l1Cur_formulaText
 refine (dr_formula (n := n + 100) (h.le (by omega))).bind fun t c1 h1 ht => ?_
 dsimp only
 refine (dr_pick (n := n + 98) (h1.le (by omega)) 16).bind fun x c2 h2 hx => ?_
 dsimp only
 cases x == 0 with
 | true =>
  rw [cond_true]
  refine (dr_spoilt (n := n) (h2.le (by omega)) (by omega) (by decide) (by decide)).bind fun y c3 h3 hy => ⟨_, _, rfl, h3, by dsimp only; omega⟩
 | false =>
  rw [cond_false]
  cases x == 1 with
  | true =>
   rw [cond_true]
   refine (dr_pick (n := n) (h2.le (by omega)) 4).bind fun y c3 h3 hy => ?_
   dsimp only
   have y4 : y < 4 := by rcases hy.2.2 with e | e <;> omega
   have hw : wr (78 + y) = 78 + y := wr_of _ (by omega) (by omega)
   rw [hw]
   refine dr_loop (fun s => 100000 - s.size) (fun s => s.size ≤ 50000) (fun s => s.size ≤ 50000) (by omega) (fun s hs => ?_) (fun s hs => ⟨_, _, rfl, h3, by dsimp only; omega⟩)
   by_cases g : (s.size : Int) < 78 + y
   · rw [decide_eq_true g, cond_true, catS_ok (by show 1 + _ ≤ _; omega), bd_some]
     refine .inl ⟨_, rfl, ?_, ?_⟩
     · rw [ByteArray.size_append]; show 1 + _ ≤ _; omega
     · rw [ByteArray.size_append]; show 100000 - (1 + _) < _; omega
   · rw [decide_eq_false g, cond_false]
     exact .inr ⟨_, rfl, hs⟩
  | false =>
   rw [cond_false]
   cases x == 2 with
   | true =>
    rw [cond_true]
    refine (dr_of (n := n) (h2.le (by omega)) (by simp)).bind fun y c3 h3 hy => ⟨_, _, rfl, h3, ?_⟩
    dsimp only
    simp only [List.mem_cons, List.not_mem_nil, or_false] at hy
    rcases hy with e | e | e | e | e | e | e <;> rw [e] <;> decide
   | false => exact ⟨_, _, rfl, h2.le, by dsimp only; omega⟩
end Go.PF
namespace Go.PF
open Go.Pu
abbrev ltF (a b : ByteArray) : Bool := spec_l22Before a b
theorem ltF_eq (a b : ByteArray) : ltF a b = (decide (a.size < b.size) || (decide (a.size = b.size) && ltB (bs a) (bs b))) := by
 unfold ltF spec_l22Before
 by_cases h : a.size = b.size
 · rw [show ((a.size : Int) == (b.size : Int)) = true by rw [beq_iff_eq]; omega, Bool.not_true, cond_false]
   rw [show decide (a.size < b.size) = false from decide_eq_false (by omega), decide_eq_true h, Bool.false_or, Bool.true_and]
   unfold ltS; rw [toList_bs, toList_bs]
 · rw [show ((a.size : Int) == (b.size : Int)) = false by rw [beq_eq_false_iff_ne]; omega, Bool.not_false, cond_true, decide_eq_false h, Bool.false_and, Bool.or_false]
   exact decide_eq_decide.2 (by omega)
theorem STO_F : STO ltF := by
 refine ⟨fun a => ?_, fun a b c h1 h2 => ?_, fun a b h1 h2 => ?_⟩
 · rw [ltF_eq, ltB_irr]; simp
 · rw [ltF_eq] at *
   simp only [Bool.or_eq_true, Bool.and_eq_true, decide_eq_true_eq] at *
   rcases h1 with h1 | ⟨h1, g1⟩ <;> rcases h2 with h2 | ⟨h2, g2⟩
   · exact .inl (by omega)
   · exact .inl (by omega)
   · exact .inl (by omega)
   · exact .inr ⟨by omega, ltB_tr g1 g2⟩
 · rw [ltF_eq] at *
   simp only [Bool.or_eq_false_iff, Bool.and_eq_false_iff, decide_eq_false_iff_not] at *
   have e : a.size = b.size := by omega
   exact bs_ext (ltB_tot (h1.2.resolve_left fun g => g e) (h2.2.resolve_left fun g => g e.symm))
theorem cmpB : ∀ a b : List UInt8, (Go.Lib.compareBytes a b < 0 ↔ ltB a b = true) ∧ (Go.Lib.compareBytes a b = 0 ↔ a = b)
 | [], [] => by simp [Go.Lib.compareBytes, ltB]
 | [], _ :: _ => by simp [Go.Lib.compareBytes, ltB]
 | _ :: _, [] => by simp [Go.Lib.compareBytes, ltB]
 | x :: a, y :: b => by
  have ih := cmpB a b
  unfold Go.Lib.compareBytes
  simp only [ltB, Bool.or_eq_true, decide_eq_true_eq, Bool.and_eq_true, beq_iff_eq, List.cons.injEq]
  by_cases h1 : x < y
  · have : x ≠ y := fun e => by subst e; exact UInt8.lt_irrefl _ h1
    simp [h1, this]
  · by_cases h2 : y < x
    · have : x ≠ y := fun e => by subst e; exact UInt8.lt_irrefl _ h2
      simp [h1, h2, this]
    · have : x = y := UInt8.le_antisymm (UInt8.not_lt.1 h2) (UInt8.not_lt.1 h1)
      subst this
      simp [h1, ih]
def cmpF (a b : ByteArray) : Int := if a.size < b.size then -1 else if b.size < a.size then 1 else cmpS a b
theorem impl_compareFormulas_eq (a b : ByteArray) : impl_compareFormulas a b = some (cmpF a b) := by
 unfold impl_compareFormulas
 have hN : ∀ x : Int, cmp_isNaN_int x = false := fun x => by unfold cmp_isNaN_int; simp
 have hc : cmp_Compare_int (a.size : Int) (b.size : Int) = if a.size < b.size then -1 else if b.size < a.size then 1 else 0 := by
  unfold cmp_Compare_int
  rw [hN, hN, cond_false, cond_false]
  by_cases h1 : a.size < b.size
  · rw [bifT (decide_eq_true (by omega)), if_pos h1]
  · rw [bifF (decide_eq_false (by omega)), if_neg h1]
    by_cases h2 : b.size < a.size
    · rw [bifT (decide_eq_true (by omega)), if_pos h2]
    · rw [bifF (decide_eq_false (by omega)), if_neg h2]
 rw [hc]
 unfold cmp_Or_int cmpF strings_Compare
 rw [forL_find (p := fun _ y => !(y == 0)) (v := fun _ y => y) (fun i y _ => rfl)]
 by_cases h1 : a.size < b.size
 · rw [if_pos h1, if_pos h1]; rfl
 · rw [if_neg h1, if_neg h1]
   by_cases h2 : b.size < a.size
   · rw [if_pos h2, if_pos h2]; rfl
   · rw [if_neg h2, if_neg h2]
     cases hz : cmpS a b == 0 with
     | true =>
      have : cmpS a b = 0 := by simpa using hz
      rw [this]; rfl
     | false =>
      have e : findI (fun _ (y : Int) => !(y == 0)) [0, cmpS a b] 0 = some (1, cmpS a b) := by
       simp [findI, hz]
      rw [e]; rfl
theorem cmpF_neg (a b : ByteArray) : decide (cmpF a b < 0) = ltF a b := by
 rw [ltF_eq]
 unfold cmpF cmpS
 have hk := cmpB (bs a) (bs b)
 by_cases h1 : a.size < b.size
 · rw [if_pos h1]; simp [h1]
 · rw [if_neg h1]
   by_cases h2 : b.size < a.size
   · rw [if_pos h2]; simp [h1]; omega
   · rw [if_neg h2, decide_eq_false h1, Bool.false_or, decide_eq_true (show a.size = b.size by omega), Bool.true_and]
     show decide (Go.Lib.compareBytes (bs a) (bs b) < 0) = _
     cases hl : ltB (bs a) (bs b) with
     | true => exact decide_eq_true (hk.1.2 hl)
     | false => exact decide_eq_false fun g => by rw [hk.1.1 g] at hl; cases hl
structure Side (l : List ByteArray) : Prop where
 len : l.length ≤ 12
 good : ∀ x ∈ l, goodB x = true
 ord : SS ltF l
theorem spec_l22Put_eq {l : List ByteArray} {s : ByteArray} (hs : SS ltF l) (hl : l.length ≤ 1000000) : spec_l22Put l s = some (insO ltF s l) := by
 unfold spec_l22Put
 have key : ∀ (m : List ByteArray) (k : Nat), l.drop k = m → k ≤ l.length → ∃ j : Nat, k ≤ j ∧ j ≤ l.length ∧ iter (fun s21 => bd (bif (decide (s21 < (len l))) then bd (ix l s21) (fun x96 => some (spec_l22Before x96 s)) else some false) (fun t83 => (bif t83 then some (Lp.nx (wr (s21 + 1))) else some (Lp.bk s21)) : Bool → Option (Lp Int Empty))) (k : Int) = some (.go (j : Int))
  ∧ (∀ i, k ≤ i → i < j → ∀ x, l[i]? = some x → ltF x s = true) ∧ (∀ x, l[j]? = some x → ltF x s = false) := by
  intro m
  induction m with
  | nil =>
   intro k hk hle
   have e : k = l.length := by
    have := congrArg List.length hk
    rw [List.length_drop, List.length_nil] at this; omega
   refine ⟨k, Nat.le_refl _, hle, iter_bk ?_, fun i h1 h2 => by omega, fun x hx => by have := lt_of_get hx; omega⟩
   rw [bifF (decide_eq_false (by rw [len_eq]; omega))]; rfl
  | cons x m ih =>
   intro k hk hle
   have hkl : k < l.length := by
    have := congrArg List.length hk
    rw [List.length_drop, List.length_cons] at this; omega
   have hx : l[k]? = some x := by
    have : (l.drop k)[0]? = some x := by rw [hk]; rfl
    rwa [List.getElem?_drop, Nat.add_zero] at this
   have hk' : l.drop (k + 1) = m := by
    rw [← List.tail_drop, hk]; rfl
   cases hb : ltF x s with
   | true =>
    obtain ⟨j, h1, h2, h3, h4, h5⟩ := ih (k + 1) hk' (by omega)
    refine ⟨j, by omega, h2, ?_, fun i g1 g2 y hy => ?_, h5⟩
    · rw [iter_nx (s' := ((k + 1 : Nat) : Int))]
      · exact h3
      · rw [bifT (decide_eq_true (by rw [len_eq]; omega)), ix_get, hx, bd_some, bd_some]
        rw [show spec_l22Before x s = true from hb, cond_true, wr_k (by omega)]
    · by_cases e : i = k
      · subst e; rw [hx] at hy; cases hy; exact hb
      · exact h4 i (by omega) g2 y hy
   | false =>
    refine ⟨k, Nat.le_refl _, hle, iter_bk ?_, fun i g1 g2 => by omega, fun y hy => by rw [hx] at hy; cases hy; exact hb⟩
    rw [bifT (decide_eq_true (by rw [len_eq]; omega)), ix_get, hx, bd_some, bd_some]
    rw [show spec_l22Before x s = false from hb, cond_false]
 obtain ⟨j, _, hj, e1, h1, h2⟩ := key l 0 rfl (Nat.zero_le _)
 rw [show ((0 : Nat) : Int) = 0 from rfl] at e1
 rw [e1, bdR_go]
 have hmem : ∀ z, z ∈ l.take j ++ s :: l.drop j ↔ z = s ∨ z ∈ l := fun z => by
  rw [List.mem_append, List.mem_cons]
  conv => rhs; rw [← List.take_append_drop j l, List.mem_append]
  constructor
  · rintro (h | h | h)
    · exact .inr (.inl h)
    · exact .inl h
    · exact .inr (.inr h)
  · rintro (h | h | h)
    · exact .inr (.inl h)
    · exact .inl h
    · exact .inr (.inr h)
 have before : ∀ x ∈ l.take j, ltF x s = true := fun x hx => by
  obtain ⟨i, hi⟩ := List.getElem?_of_mem hx
  rw [List.getElem?_take] at hi
  split at hi
  · exact h1 i (by omega) (by assumption) x hi
  · cases hi
 have ins : (∀ x, l[j]? = some x → x ≠ s) → insO ltF s l = l.take j ++ s :: l.drop j := by
  intro hne
  refine SS.ext STO_F (SS_insO STO_F hs) ?_ fun z => by rw [mem_insO STO_F, hmem]
  refine List.pairwise_append.2 ⟨hs.sublist (List.take_sublist ..), ?_, fun a ha b hb => ?_⟩
  · refine List.pairwise_cons.2 ⟨fun b hb => ?_, hs.sublist (List.drop_sublist ..)⟩
    cases hd : l.drop j with
    | nil => rw [hd] at hb; simp at hb
    | cons y r =>
     have hy : l[j]? = some y := by
      have : (l.drop j)[0]? = some y := by rw [hd]; rfl
      rwa [List.getElem?_drop, Nat.add_zero] at this
     have sy : ltF s y = true := by
      cases q : ltF s y with
      | true => rfl
      | false => exact absurd (STO_F.tot _ _ (h2 y hy) q) (hne y hy)
     rw [hd] at hb
     rcases List.mem_cons.1 hb with rfl | hb
     · exact sy
     · have := hs.sublist (List.drop_sublist j l)
       rw [hd] at this
       exact STO_F.tr _ _ _ sy ((List.pairwise_cons.1 this).1 b hb)
  · rcases List.mem_cons.1 hb with rfl | hb
    · exact before a ha
    · have : l = l.take j ++ l.drop j := (List.take_append_drop j l).symm
      have hp : SS ltF (l.take j ++ l.drop j) := by rw [← this]; exact hs
      exact (List.pairwise_append.1 hp).2.2 a ha b hb
 have tail_ : bd (cut l 0 (j : Int)) (fun xs12143 => bd (app [] xs12143) (fun xs15143 => bd (app xs15143 [s]) (fun xs24143 => bd (cut l (j : Int) (len l)) (fun xs33143 => bd (app xs24143 xs33143) (fun xs36143 => some xs36143))))) = some (l.take j ++ s :: l.drop j) := by
  have c1 := cut_ok (xs := l) (a := 0) (b := j) (by omega) hj
  have c2 := cut_ok (xs := l) (a := j) (b := l.length) hj (by omega)
  rw [show ((0 : Nat) : Int) = 0 from rfl] at c1
  have lt : (l.take j).length = j := by rw [List.length_take]; omega
  rw [c1, bd_some, List.drop_zero, app_ok (by rw [lt]; simp; unfold lim; omega), bd_some, List.nil_append, app_ok (by rw [lt]; simp; unfold lim; omega), bd_some, len_eq, c2, bd_some, List.take_length,
   app_ok (by rw [List.length_append, lt, List.length_drop]; simp; unfold lim; omega), bd_some, List.append_assoc]; rfl
 by_cases hjl : j < l.length
 · obtain ⟨x, hx⟩ : ∃ x, l[j]? = some x := ⟨_, List.getElem?_eq_getElem hjl⟩
   rw [bifT (decide_eq_true (by rw [len_eq]; omega)), ix_get, hx, bd_some, bd_some, eqS]
   by_cases e : x = s
   · rw [decide_eq_true e, cond_true]
     congr 1
     have hsl : s ∈ l := e ▸ List.mem_of_getElem? hx
     exact SS.ext STO_F hs (SS_insO STO_F hs) fun z => by
      rw [mem_insO STO_F]
      exact ⟨.inr, fun h => h.elim (fun h => h ▸ hsl) id⟩
   · rw [decide_eq_false e, cond_false, tail_, ins fun y hy => by rw [hx] at hy; cases hy; exact e]
 · rw [bifF (decide_eq_false (by rw [len_eq]; omega)), bd_some, cond_false, tail_, ins fun y hy => by have := lt_of_get hy; omega]
end Go.PF
namespace Go.PF
open Go.Pu
instance memS (s : ByteArray) (c : List ByteArray) : Decidable (s ∈ c) := decidable_of_iff ((c.any fun x => decide (x = s)) = true) (by simp)
end Go.PF
namespace Go.PF
open Go.Pu
def Ft.opI : Ft → Int
 | .leaf c => c.toNat
 | .neg _ => 126
 | .bin op _ _ => op.toNat
def Ft.tA : Ft → ByteArray
 | .leaf _ => tx []
 | .neg a => tx a.txt
 | .bin _ a _ => tx a.txt
def Ft.tB : Ft → ByteArray
 | .leaf _ => tx []
 | .neg _ => tx []
 | .bin _ _ b => tx b.txt
theorem ft_of {s : ByteArray} {t : Ft} (h : F? (bs s) = some t) : s = tx t.txt ∧ t.wf = true := by
 have := F?_some.1 h
 exact ⟨by rw [← this.1, tx_bs], this.2⟩
theorem F?_tx {t : Ft} (h : t.wf = true) : F? (bs (tx t.txt)) = some t := by rw [bs_tx]; exact F?_some.2 ⟨rfl, h⟩
theorem spec_l22Parts_eq {s : ByteArray} {t : Ft} (h : F? (bs s) = some t) (hs : s.size ≤ 1000) : spec_l22Parts s = some (t.opI, t.tA, t.tB) := by
 obtain ⟨e, hw⟩ := ft_of h
 unfold spec_l22Parts
 have hb : bs s = t.txt := by rw [e, bs_tx]
 have hz := bs_len s
 rw [hb] at hz
 cases t with
 | leaf c =>
  have hi : ixS s 0 = some (c.toNat : Int) := ixS_at (k := 0) (by rw [hb]; rfl)
  have hl := isLf_not (show isLf c = true from hw)
  simp only [hi, bd_some, c126, c40]
  rw [beq_eq_false_iff_ne.2 hl.1, cond_false, beq_eq_false_iff_ne.2 hl.2]; rfl
 | neg a =>
  have hi : ixS s 0 = some (((126 : UInt8).toNat : Nat) : Int) := ixS_at (k := 0) (by rw [hb]; rfl)
  simp only [hi, bd_some, c126, c40, beq_self_eq_true, cond_true]
  simp only [Ft.txt, List.length_cons] at hz
  have := cutS_ok (s := s) (a := 1) (b := s.size) (by omega) (by omega)
  rw [show ((1 : Nat) : Int) = 1 from rfl] at this
  rw [this, bd_some, hb, ← hz]
  simp [Ft.opI, Ft.tA, Ft.tB, Ft.txt, tx]
 | bin op a b =>
  have hi : ixS s 0 = some (((40 : UInt8).toNat : Nat) : Int) := ixS_at (k := 0) (by rw [hb]; rfl)
  simp only [Ft.wf, Bool.and_eq_true] at hw
  simp only [Ft.txt, List.length_cons, List.length_append, List.length_nil] at hz
  simp only [hi, bd_some, c126, c40, beq_self_eq_true, Bool.not_true, cond_false]
  rw [show ((40 : UInt8) == 126) = false from rfl, cond_false]
  have he : endV s 1 = ((1 + a.txt.length : Nat) : Int) := by
   unfold endV
   rw [hb]
   have : P (List.drop 1 (Ft.bin op a b).txt) = some (a, op :: (b.txt ++ [41])) := P_some.2 ⟨by simp [Ft.txt], hw.1.2⟩
   rw [this]
  have h1 := spec_l22End_eq hs 1
  rw [show ((1 : Nat) : Int) = 1 from rfl] at h1
  rw [h1, bd_some, he]
  have ho : ixS s ((1 + a.txt.length : Nat) : Int) = some (op.toNat : Int) := ixS_at (by
   rw [hb]; simp only [Ft.txt]
   rw [show 1 + a.txt.length = a.txt.length + 1 by omega, List.getElem?_cons_succ, List.getElem?_append_right (by omega)]; simp)
  have c1 := cutS_ok (s := s) (a := 1) (b := 1 + a.txt.length) (by omega) (by omega)
  rw [show ((1 : Nat) : Int) = 1 from rfl] at c1
  have c2 := cutS_ok (s := s) (a := 1 + a.txt.length + 1) (b := s.size - 1) (by omega) (by omega)
  rw [ho, bd_some, c1, bd_some, wr_k (by omega), show wr ((s.size : Int) - 1) = ((s.size - 1 : Nat) : Int) by rw [wr_of _ (by omega) (by omega)]; omega, c2, bd_some, hb]
  have e1 : ((Ft.bin op a b).txt.take (1 + a.txt.length)).drop 1 = a.txt := by
   simp only [Ft.txt]
   rw [show 1 + a.txt.length = a.txt.length + 1 by omega, List.take_succ_cons]
   simp
  have e2 : ((Ft.bin op a b).txt.take (s.size - 1)).drop (1 + a.txt.length + 1) = b.txt := by
   simp only [Ft.txt]
   rw [show s.size - 1 = (a.txt.length + (1 + b.txt.length)) + 1 by omega, List.take_succ_cons, show 1 + a.txt.length + 1 = (a.txt.length + 1) + 1 by omega, List.drop_succ_cons, List.take_length_add_append,
    show a.txt.length + 1 = a.txt.length + 1 from rfl, List.drop_length_add_append]
   rw [show 1 + b.txt.length = b.txt.length + 1 by omega, List.take_succ_cons]
   simp
  rw [e1, e2]; rfl
theorem Ft.get_eq (t : Ft) : ∃ n, t.fo.get = some n ∧ n.op = t.opI ∧ n.text = tx t.txt := by
 cases t with
 | leaf c => exact ⟨_, rfl, rfl, rfl⟩
 | neg a => exact ⟨_, rfl, rfl, rfl⟩
 | bin op a b => exact ⟨_, rfl, rfl, rfl⟩
theorem leaf_ne {c : UInt8} (h : isLf c = true) : c ≠ 126 ∧ c ≠ 38 ∧ c ≠ 124 ∧ c ≠ 62 := by
 refine ⟨?_, ?_, ?_, ?_⟩ <;> (rintro rfl; revert h; decide)
theorem insO_len {x : ByteArray} : ∀ {l : List ByteArray}, (insO ltF x l).length ≤ l.length + 1
 | [] => by simp [insO]
 | y :: l => by
  have := insO_len (x := x) (l := l)
  unfold insO
  split
  · simp only [List.length_cons]; omega
  · split
    · simp only [List.length_cons]; omega
    · simp only [List.length_cons]; omega
theorem setO_len : ∀ {l : List ByteArray}, (setO ltF l).length ≤ l.length
 | [] => by simp [setO]
 | x :: l => by
  have h1 := setO_len (l := l)
  have h2 := insO_len (x := x) (l := setO ltF l)
  unfold setO at *
  rw [List.foldr_cons, List.length_cons]; omega
end Go.PF
namespace Go.PF
open Go.Pu
def Ft.subs : Ft → List Ft
 | .leaf c => [.leaf c]
 | .neg a => .neg a :: a.subs
 | .bin o a b => .bin o a b :: (a.subs ++ b.subs)
theorem Ft.subs_self (t : Ft) : t ∈ t.subs := by cases t <;> simp [Ft.subs]
theorem Ft.subs_wf : ∀ {t : Ft}, t.wf = true → ∀ x ∈ t.subs, x.wf = true
 | .leaf c, h, x, hx => by simp only [Ft.subs, List.mem_singleton] at hx; rw [hx]; exact h
 | .neg a, h, x, hx => by
  simp only [Ft.subs, List.mem_cons] at hx
  rcases hx with rfl | hx
  · exact h
  · exact Ft.subs_wf (t := a) h x hx
 | .bin o a b, h, x, hx => by
  have h' := h
  simp only [Ft.wf, Bool.and_eq_true] at h'
  simp only [Ft.subs, List.mem_cons, List.mem_append] at hx
  rcases hx with rfl | hx | hx
  · exact h
  · exact Ft.subs_wf h'.1.2 x hx
  · exact Ft.subs_wf h'.2 x hx
theorem Ft.subs_len : ∀ t : Ft, t.subs.length ≤ t.txt.length
 | .leaf c => by simp [Ft.subs, Ft.txt]
 | .neg a => by have := a.subs_len; simp only [Ft.subs, Ft.txt, List.length_cons]; omega
 | .bin o a b => by
  have := a.subs_len; have := b.subs_len
  simp only [Ft.subs, Ft.txt, List.length_cons, List.length_append, List.length_nil]; omega
theorem Ft.subs_txt : ∀ {t x : Ft}, x ∈ t.subs → x.txt.length ≤ t.txt.length ∧ (x.txt.length = t.txt.length → x = t)
 | .leaf c, x, hx => by simp only [Ft.subs, List.mem_singleton] at hx; rw [hx]; exact ⟨Nat.le_refl _, fun _ => rfl⟩
 | .neg a, x, hx => by
  simp only [Ft.subs, List.mem_cons] at hx
  rcases hx with rfl | hx
  · exact ⟨Nat.le_refl _, fun _ => rfl⟩
  · have := Ft.subs_txt hx
    simp only [Ft.txt, List.length_cons]
    exact ⟨by omega, by omega⟩
 | .bin o a b, x, hx => by
  simp only [Ft.subs, List.mem_cons, List.mem_append] at hx
  simp only [Ft.txt, List.length_cons, List.length_append, List.length_nil]
  rcases hx with rfl | hx | hx
  · exact ⟨by simp [Ft.txt], fun _ => rfl⟩
  · have := Ft.subs_txt hx; exact ⟨by omega, by omega⟩
  · have := Ft.subs_txt hx; exact ⟨by omega, by omega⟩
abbrev txB (t : Ft) : ByteArray := tx t.txt
theorem txB_inj {a b : Ft} (ha : a.wf = true) (hb : b.wf = true) (h : txB a = txB b) : a = b :=
 (txt_inj ha hb (r := []) (q := []) (by rw [tx_inj h])).1
theorem spec_all_F : ∀ (n : Nat) (t : Ft) (L : List ByteArray), t.wf = true → t.dep ≤ n → t.txt.length ≤ 1000 → SS ltF L → L.length + t.txt.length ≤ 1000000 →
 ∃ r, spec_l22All_F n L (txB t) = some r ∧ SS ltF r ∧ (∀ x, x ∈ r ↔ x ∈ L ∨ x ∈ t.subs.map txB) ∧ r.length ≤ L.length + t.subs.length
 | 0, t, L, _, hn, _, _, _ => by have := t.dep_pos; omega
 | n + 1, t, L, hw, hn, hz, hs, hl => by
  have hi := insO_len (x := txB t) (l := L)
  have hs1 := SS_insO STO_F (x := txB t) hs
  show ∃ r, spec_l22All_B _ _ _ = some r ∧ _
  unfold spec_l22All_B
  have hp := t.txt_ne
  have hpos : 0 < t.txt.length := List.length_pos_iff.2 hp
  rw [spec_l22Put_eq hs (by omega), bd_some, spec_l22Parts_eq (F?_tx hw) (by rw [tx_size]; omega), bd_some]
  cases t with
  | leaf c =>
   have hc : isLf c = true := hw
   simp only [Ft.opI, c126, c38, c124, c62]
   have h1 : (c == 126) = false := beq_eq_false_iff_ne.2 (isLf_not hc).1
   have h2 : (c == 38) = false := by rw [beq_eq_false_iff_ne]; rintro rfl; revert hc; decide
   have h3 : (c == 124) = false := by rw [beq_eq_false_iff_ne]; rintro rfl; revert hc; decide
   have h4 : (c == 62) = false := by rw [beq_eq_false_iff_ne]; rintro rfl; revert hc; decide
   rw [h1, h2, h3, h4]
   exact ⟨_, rfl, hs1, fun x => by rw [mem_insO STO_F]; simp [Ft.subs, or_comm], by simp only [Ft.subs, List.length_singleton]; omega⟩
  | neg a =>
   simp only [Ft.dep] at hn
   simp only [Ft.txt, List.length_cons] at hz hl
   obtain ⟨r, r1, r2, r3, r4⟩ := spec_all_F n a _ hw (by omega) (by omega) hs1 (by omega)
   show ∃ r, (bd (spec_l22All_F n (insO ltF (txB (Ft.neg a)) L) (txB a)) fun r35 => some r35) = some r ∧ _
   rw [r1, bd_some]
   refine ⟨r, rfl, r2, fun x => ?_, by simp only [Ft.subs, List.length_cons]; omega⟩
   rw [r3, mem_insO STO_F]
   simp only [Ft.subs, List.map_cons, List.mem_cons]
   constructor
   · rintro ((h | h) | h)
     · exact .inr (.inl h)
     · exact .inl h
     · exact .inr (.inr h)
   · rintro (h | h | h)
     · exact .inl (.inr h)
     · exact .inl (.inl h)
     · exact .inr h
  | bin o a b =>
   simp only [Ft.dep] at hn
   simp only [Ft.wf, Bool.and_eq_true] at hw
   have sa := a.subs_len
   simp only [Ft.txt, List.length_cons, List.length_append, List.length_nil] at hz hl
   obtain ⟨r, r1, r2, r3, r4⟩ := spec_all_F n a _ hw.1.2 (by omega) (by omega) hs1 (by omega)
   obtain ⟨q, q1, q2, q3, q4⟩ := spec_all_F n b r hw.2 (by omega) (by omega) r2 (by omega)
   refine ⟨q, ?_, q2, fun x => ?_, by simp only [Ft.subs, List.length_cons, List.length_append]; omega⟩
   · have ho := hw.1.1
     unfold isOp at ho
     simp only [Bool.or_eq_true, beq_iff_eq] at ho
     show (bif (Ft.bin o a b).opI == 126 then _ else _) = _
     simp only [Ft.opI, c126, c38, c124, c62]
     have e1 : (o == 126) = false := by rcases ho with (rfl | rfl) | rfl <;> rfl
     rw [e1, cond_false]
     have e2 : (bif o == 38 then (some (Rs.go (o == 38)) : Option (Rs Bool Empty)) else bif o == 124 then some (Rs.go (o == 124)) else some (Rs.go (o == 62))) = some (.go true) := by rcases ho with (rfl | rfl) | rfl <;> rfl
     rw [e2, bdR_go, cond_true]
     show bd (spec_l22All_F n (insO ltF (txB (Ft.bin o a b)) L) (txB a)) (fun r60 => bd (spec_l22All_F n r60 (txB b)) fun r68 => some r68) = _
     rw [r1, bd_some, q1, bd_some]
   · rw [q3, r3, mem_insO STO_F]
     simp only [Ft.subs, List.map_cons, List.map_append, List.mem_cons, List.mem_append]
     constructor
     · rintro (((h | h) | h) | h)
       · exact .inr (.inl h)
       · exact .inl h
       · exact .inr (.inr (.inl h))
       · exact .inr (.inr (.inr h))
     · rintro (h | h | h | h)
       · exact .inl (.inl (.inr h))
       · exact .inl (.inl (.inl h))
       · exact .inl (.inr h)
       · exact .inr h
def partT (t : Ft) : List ByteArray := setO ltF (t.subs.map txB)
theorem spec_all_eq {t : Ft} (hw : t.wf = true) (hz : t.txt.length ≤ 80) : spec_l22All [] (txB t) = some (partT t) := by
 obtain ⟨r, r1, r2, r3, _⟩ := spec_all_F deep t [] hw (by have := t.dep_le; rw [deep_eq]; omega) (by omega) SS.nil (by simp; omega)
 unfold spec_l22All partT
 rw [r1]
 congr 1
 exact SS.ext STO_F r2 (SS_setO STO_F) fun x => by rw [r3, mem_setO STO_F]; simp
theorem partT_len (t : Ft) : (partT t).length ≤ t.txt.length := by
 have := setO_len (l := t.subs.map txB)
 rw [List.length_map] at this
 have := t.subs_len
 unfold partT; omega
theorem collect_F : ∀ (n : Nat) (t : Ft) (L : List Fo), t.dep ≤ n → L.length + t.txt.length ≤ 1000000 → impl_formula_collect_F n t.fo L = some (L ++ t.subs.map Ft.fo)
 | 0, t, L, hn, _ => by have := t.dep_pos; omega
 | n + 1, .leaf c, L, _, hl => by
  simp only [Ft.txt, List.length_cons, List.length_nil] at hl
  show impl_formula_collect_B _ _ _ = _
  unfold impl_formula_collect_B
  rw [app_ok (by simp [lim]; omega), bd_some]
  rfl
 | n + 1, .neg a, L, hn, hl => by
  simp only [Ft.txt, List.length_cons] at hl
  simp only [Ft.dep] at hn
  show impl_formula_collect_B _ _ _ = _
  unfold impl_formula_collect_B
  rw [app_ok (by simp [lim]; omega), bd_some]
  show bd (some _) _ = _
  rw [bd_some]
  show bdR (bif !a.fo.isNil then bd (impl_formula_collect_F n a.fo (L ++ [(Ft.neg a).fo])) _ else _) (fun s => bif !Fo.nil.isNil then _ else some s) _ = _
  have hn' : a.fo.isNil = false := by cases a <;> rfl
  rw [hn', Bool.not_false, cond_true, collect_F n a _ (by omega) (by simp; omega), bd_some, bdR_go]
  show some _ = _
  simp [Ft.subs]
 | n + 1, .bin o a b, L, hn, hl => by
  have sa := a.subs_len
  simp only [Ft.txt, List.length_cons, List.length_append, List.length_nil] at hl
  simp only [Ft.dep] at hn
  show impl_formula_collect_B _ _ _ = _
  unfold impl_formula_collect_B
  rw [app_ok (by simp [lim]; omega), bd_some]
  show bd (some _) _ = _
  rw [bd_some]
  show bdR (bif !a.fo.isNil then bd (impl_formula_collect_F n a.fo (L ++ [(Ft.bin o a b).fo])) _ else _) (fun s => bif !b.fo.isNil then bd (impl_formula_collect_F n b.fo s) _ else some s) _ = _
  have ha' : a.fo.isNil = false := by cases a <;> rfl
  have hb' : b.fo.isNil = false := by cases b <;> rfl
  rw [ha', hb', Bool.not_false, cond_true, collect_F n a _ (by omega) (by simp; omega), bd_some, bdR_go, cond_true, collect_F n b _ (by omega) (by simp; omega), bd_some]
  simp [Ft.subs]
end Go.PF
namespace Go.PF
open Go.Pu
def tfo (x : Fo) : ByteArray := match x.get with | some n => n.text | none => ByteArray.empty
theorem tfo_fo (t : Ft) : tfo t.fo = txB t := by cases t <;> rfl
theorem parts_1_eq (a b : Ft) : impl_formula_parts_1 a.fo b.fo = some (cmpF (txB a) (txB b)) := by
 obtain ⟨n, h1, _, h2⟩ := a.get_eq
 obtain ⟨m, h3, _, h4⟩ := b.get_eq
 unfold impl_formula_parts_1
 rw [h1, bd_some, h3, bd_some, h2, h4, impl_compareFormulas_eq, bd_some]
theorem parts_2_eq (a b : Ft) : impl_formula_parts_2 a.fo b.fo = some (decide (txB a = txB b)) := by
 obtain ⟨n, h1, _, h2⟩ := a.get_eq
 obtain ⟨m, h3, _, h4⟩ := b.get_eq
 unfold impl_formula_parts_2
 rw [h1, bd_some, h3, bd_some, h2, h4, eqS]
theorem compG_fo : ∀ {l : List Ft} {p : Ft}, (∀ x ∈ p :: l, x.wf = true) → (p :: l).Pairwise (fun a b => ltF (txB b) (txB a) = false) →
 ∃ r : List Ft, compG (fun x0 x1 => impl_formula_parts_2 x0 x1) p.fo (l.map Ft.fo) = some (r.map Ft.fo) ∧ SS ltF ((p :: r).map txB) ∧ ∀ x, x ∈ p :: r ↔ x ∈ p :: l := by
 intro l
 induction l with
 | nil => intro p _ _; exact ⟨[], rfl, by simp [SS], fun _ => Iff.rfl⟩
 | cons y l ih =>
  intro p hw h
  obtain ⟨h1, h2⟩ := List.pairwise_cons.1 h
  obtain ⟨r, a1, a2, a3⟩ := ih (fun x hx => hw x (List.mem_cons_of_mem _ hx)) h2
  rw [List.map_cons]
  unfold compG
  rw [parts_2_eq, bd_some, a1, bd_some]
  by_cases e : txB y = txB p
  · have e' := txB_inj (hw y (by simp)) (hw p (by simp)) e
    subst e'
    refine ⟨r, by rw [decide_eq_true rfl]; rfl, a2, fun x => ?_⟩
    rw [a3, List.mem_cons, List.mem_cons, List.mem_cons]
    exact ⟨fun h => h.elim .inl fun h => .inr (.inr h), fun h => h.elim .inl id⟩
  · refine ⟨y :: r, by rw [decide_eq_false e]; rfl, ?_, fun x => ?_⟩
    · have hyp : ltF (txB p) (txB y) = true := by
       cases q : ltF (txB p) (txB y) with
       | true => rfl
       | false => exact absurd (STO_F.tot _ _ (h1 y (by simp)) q) e
      rw [List.map_cons]
      refine SS.cons.2 ⟨fun z hz => ?_, a2⟩
      rw [List.map_cons] at a2 hz
      rcases List.mem_cons.1 hz with rfl | hz
      · exact hyp
      · exact STO_F.tr _ _ _ hyp ((SS.cons.1 a2).1 z hz)
    · rw [List.mem_cons, a3]; exact List.mem_cons.symm
theorem sort_fo {l : List Ft} (hl : l.length < lim) (hw : ∀ x ∈ l, x.wf = true) :
 ∃ s : List Ft, slices_SortFunc_impl_formula_impl_formula (l.map Ft.fo) (fun x0 x1 => PF.impl_formula_parts_1 x0 x1) = some (s.map Ft.fo) ∧ (∀ x, x ∈ s ↔ x ∈ l) ∧ s.Pairwise (fun a b => ltF (txB b) (txB a) = false) ∧ s.length = l.length := by
 unfold slices_SortFunc_impl_formula_impl_formula sortF
 have neg : ∀ a b, (cmpF a b < 0) ↔ ltF a b = true := fun a b => by rw [← cmpF_neg, decide_eq_true_iff]
 have hle : ∀ a b : Ft, leF (fun x0 x1 => PF.impl_formula_parts_1 x0 x1) a.fo b.fo = !ltF (txB b) (txB a) := fun a b => by
  unfold leF
  simp only [parts_1_eq]
  rw [cmpF_neg]
 rw [if_pos]
 · refine ⟨l.mergeSort (fun a b => !ltF (txB b) (txB a)), ?_, fun x => List.mem_mergeSort, ?_, List.length_mergeSort ..⟩
   · congr 1
     exact (List.map_mergeSort (fun a _ b _ => (hle a b).symm)).symm
   · have := List.pairwise_mergeSort (le := fun a b : Ft => !ltF (txB b) (txB a)) (fun a b c h1 h2 => by
      rw [Bool.not_eq_true'] at *
      cases q : ltF (txB c) (txB a) with
      | false => rfl
      | true =>
       cases q2 : ltF (txB c) (txB b) with
       | true => rw [h2] at q2; cases q2
       | false =>
        by_cases e : txB b = txB c
        · rw [e] at h1; rw [h1] at q; cases q
        · have : ltF (txB b) (txB c) = true := by
           cases q3 : ltF (txB b) (txB c) with
           | true => rfl
           | false => exact absurd (STO_F.tot _ _ q3 q2) e
          have := STO_F.tr _ _ _ this q
          rw [h1] at this; cases this) (fun a b => by
      rw [Bool.or_eq_true, Bool.not_eq_true', Bool.not_eq_true']
      cases q : ltF (txB b) (txB a) with
      | false => exact .inl rfl
      | true => exact .inr (STO_F.asym q)) l
     exact this.imp fun h => by rw [Bool.not_eq_true'] at h; exact h
 · have ex : ∀ x ∈ l.map Ft.fo, ∃ t : Ft, t.wf = true ∧ x = t.fo := fun x hx => by
    obtain ⟨t, ht, rfl⟩ := List.mem_map.1 hx
    exact ⟨t, hw t ht, rfl⟩
   refine ⟨fun x y => cmpF (tfo x) (tfo y), by simpa using hl, fun x hx y hy => ?_, fun x hx => ?_, fun x hx y hy z hz h1 h2 => ?_, fun x hx y hy z hz h1 h2 => ?_, fun x hx y hy h1 h2 => ?_⟩
   · obtain ⟨a, _, rfl⟩ := ex x hx
     obtain ⟨b, _, rfl⟩ := ex y hy
     dsimp only
     rw [parts_1_eq, tfo_fo, tfo_fo]
   · rw [neg, STO_F.irr]; simp
   · rw [neg] at *; exact STO_F.tr _ _ _ h1 h2
   · rw [neg, Bool.not_eq_true] at *
     cases q : ltF (tfo x) (tfo z) with
     | false => rfl
     | true =>
      by_cases e : tfo x = tfo y
      · rw [e] at q; rw [h2] at q; cases q
      · have : ltF (tfo y) (tfo x) = true := by
         cases q3 : ltF (tfo y) (tfo x) with
         | true => rfl
         | false => exact absurd (STO_F.tot _ _ h1 q3) e
        have := STO_F.tr _ _ _ this q
        rw [h2] at this; cases this
   · rw [neg, Bool.not_eq_true] at *
     obtain ⟨a, ha, rfl⟩ := ex x hx
     obtain ⟨b, hb, rfl⟩ := ex y hy
     have := STO_F.tot _ _ h1 h2
     rw [tfo_fo, tfo_fo] at this
     rw [txB_inj ha hb this]
theorem parts_eq {t : Ft} (hw : t.wf = true) (hz : t.txt.length ≤ 80) : ∃ P : List Ft, impl_formula_parts t.fo = some (P.map Ft.fo) ∧ P.map txB = partT t ∧ ∀ x, x ∈ P ↔ x ∈ t.subs := by
 have hl := t.subs_len
 have hsw := Ft.subs_wf hw
 unfold impl_formula_parts impl_formula_collect
 rw [collect_F deep t [] (by have := t.dep_le; rw [deep_eq]; omega) (by simp; omega), bd_some, List.nil_append]
 obtain ⟨s, s1, s2, s3, s4⟩ := sort_fo (l := t.subs) (by unfold lim; omega) hsw
 rw [s1, bd_some]
 have sw : ∀ x ∈ s, x.wf = true := fun x hx => hsw x ((s2 x).1 hx)
 have fin : ∀ {r : List Ft}, compF (fun x0 x1 => impl_formula_parts_2 x0 x1) (s.map Ft.fo) = some (r.map Ft.fo) → SS ltF (r.map txB) → (∀ x, x ∈ r ↔ x ∈ s) →
  ∃ P : List Ft, (bd (slices_CompactFunc_impl_formula_impl_formula (s.map Ft.fo) fun x0 x1 => impl_formula_parts_2 x0 x1) fun r41 => some r41) = some (P.map Ft.fo) ∧ P.map txB = partT t ∧ ∀ x, x ∈ P ↔ x ∈ t.subs := fun {r} h1 h2 h3 => by
  have e := compL_eq (z := Fo.nil) (by rw [List.length_map, s4]; omega) h1
  have e' : slices_CompactFunc_impl_formula_impl_formula (s.map Ft.fo) (fun x0 x1 => impl_formula_parts_2 x0 x1) = some (r.map Ft.fo) := e
  refine ⟨r, by rw [e', bd_some], ?_, fun x => (h3 x).trans (s2 x)⟩
  refine SS.ext STO_F h2 (SS_setO STO_F) fun x => ?_
  unfold partT
  rw [mem_setO STO_F, List.mem_map, List.mem_map]
  constructor
  · rintro ⟨y, hy, rfl⟩; exact ⟨y, (s2 y).1 ((h3 y).1 hy), rfl⟩
  · rintro ⟨y, hy, rfl⟩; exact ⟨y, (h3 y).2 ((s2 y).2 hy), rfl⟩
 cases s with
 | nil =>
  have := (s2 t).2 t.subs_self
  cases this
 | cons p l =>
  obtain ⟨r, r1, r2, r3⟩ := compG_fo sw s3
  refine fin (r := p :: r) ?_ r2 r3
  rw [List.map_cons]
  simp only [compF, r1, bd_some, List.map_cons]
end Go.PF
