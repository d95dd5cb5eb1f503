/- Search trees: nodes, the frame of their law, one node's turn on the paths. -/
import Derived.Test.YtmpfnnkmplkfoaaGreatPtPlUn
import Derived.Test.YtmpfnnkmplkfoaaGreatPtPl10
import Derived.Test.YtmpfnnkmplkfoaaGreatPtPlDW
set_option linter.unusedVariables false
namespace Go.PF
open Go.Pu
/-! the frame of the law -/
theorem eq_TreeNodeS (a : List TreeNode) : laws_eqTreeNodeS a a = some true :=
  eq_list (eq := fun y x => some (laws_eqTreeNode y x)) (fun _ _ _ => rfl) (fun y _ => by unfold laws_eqTreeNode; simp)
def mTreeNode (_ : TreeNode) : Nat := 4
theorem tot_four : ∀ {a : List TreeNode}, tot mTreeNode a = 4 * a.length := by
  intro a
  induction a with
  | nil => rfl
  | cons x a ih => simp only [tot, ih, List.length_cons]; unfold mTreeNode; omega
theorem mark_TreeNodeS {a : List TreeNode} {k : Int} (h0 : 0 ≤ k) (h1 : k + tot mTreeNode a ≤ big) : (laws_markTreeNodeS a k).2 = k + tot mTreeNode a := by
  refine mark_end (fun y _ k h0 h1 => ?_) h0 h1
  unfold mTreeNode at *
  obtain ⟨e1, e2, e3⟩ := wr3 (k := k) h0 (by unfold big; omega)
  have e4 : wr (k + 3 + 1) = k + 4 := by rw [wr_of _ (by omega) (by omega)]; omega
  simp only [e1, e2, e3]
  rw [e4]; rfl
/-! nodes -/
def inn (y : TreeNode) : Bool := !(y.var == 0)
structure NOk (F : Cnf) (i : Nat) (y : TreeNode) : Prop where
  leaf : inn y = false → 0 ≤ y.clause ∧ y.clause < F.clauses.length
  inner : inn y = true → 1 ≤ y.var ∧ y.var ≤ F.vars ∧ 0 ≤ y.low ∧ y.low < i ∧ 0 ≤ y.high ∧ y.high < i ∧ y.low ≠ y.high
def chB (x : Nat) (y : TreeNode) : Bool := inn y && (y.low == (x : Int) || y.high == (x : Int))
def usesOk (N : List TreeNode) : Bool := (List.range (N.length - 1)).all fun x => N.countP (chB x) == 1
/-! one node's turn on the paths -/
def hasV (p : List Int) (v : Int) : Bool := p.contains v || p.contains (wr (-v))
def pAt (P : List (List Int)) (i : Nat) : List Int := (P[i]?).getD []
def pstep (P : List (List Int)) (y : TreeNode) (i : Nat) : Option (List (List Int)) :=
  bif !inn y then some P else bif hasV (pAt P i) y.var then none else some ((P.set y.low.toNat (putL (pAt P i) (wr (-y.var)))).set y.high.toNat (putL (pAt P i) y.var))
def pathR (N : List TreeNode) : Nat → List (List Int) → Option (List (List Int))
  | 0, P => some P
  | k + 1, P => match N[k]? with
    | none => none
    | some y => match pstep P y k with
      | none => none
      | some P' => pathR N k P'
structure POk (V : Int) (n : Nat) (P : List (List Int)) : Prop where
  len : P.length = n
  c : ∀ p ∈ P, IsC V p
theorem POk.at {V : Int} {n : Nat} {P : List (List Int)} (h : POk V n P) {i : Nat} (hi : i < n) : P[i]? = some (pAt P i) ∧ IsC V (pAt P i) := by
  have hl := h.len
  have e : P[i]? = some P[i] := List.getElem?_eq_getElem (by omega)
  have e2 : pAt P i = P[i] := by unfold pAt; rw [e]; rfl
  rw [e2]; exact ⟨e, h.c _ (List.getElem_mem _)⟩
theorem hasV_mem {V : Int} {p : List Int} (h : IsC V p) {v : Int} (hv : 1 ≤ v ∧ v ≤ 12) (hh : hasV p v = false) : ∀ x ∈ p, x.natAbs ≠ v.natAbs := by
  unfold hasV at hh
  rw [Bool.or_eq_false_iff] at hh
  have hw : wr (-v) = -v := wr_of _ (by omega) (by omega)
  rw [hw] at hh
  intro x hx e
  have hxl := h.lit x hx
  have hc : x = v ∨ x = -v := by omega
  rcases hc with rfl | rfl
  · have : p.contains x = true := by simpa using hx
    rw [this] at hh; cases hh.1
  · have : p.contains (-v) = true := by simpa using hx
    rw [this] at hh; cases hh.2
theorem putL_isC {V : Int} {p : List Int} (h : IsC V p) {l : Int} (hl : -V ≤ l ∧ l ≤ V ∧ l ≠ 0) (hn : ∀ x ∈ p, x.natAbs ≠ l.natAbs) : IsC V (putL p l) := by
  have hv := h.hi
  refine ⟨h.lo, h.hi, fun x hx => ?_, putL_srt h.srt h.sm ⟨by omega, by omega⟩ hn⟩
  rcases putL_mem.1 hx with rfl | hx
  · exact hl
  · exact h.lit x hx
theorem setA_put {V : Int} {p : List Int} (h : IsC V p) {l : Int} (hl : -V ≤ l ∧ l ≤ V ∧ l ≠ 0) (hn : ∀ x ∈ p, x.natAbs ≠ l.natAbs) : setA p l = putL p l := by
  have hv := h.hi
  unfold setA
  have : without p (vr l) = p := by
    unfold without
    rw [List.filter_eq_self]
    intro x hx
    have h1 := h.sm x hx
    rw [vr_abs h1.1 h1.2.1, vr_abs (by omega) (by omega)]
    have := hn x hx
    simp; omega
  rw [this]
theorem pstep_ok {V : Int} {n : Nat} {P P' : List (List Int)} (h : POk V n P) {F : Cnf} (hF : F.vars = V) {y : TreeNode} {i : Nat} (hi : i < n) (hy : NOk F i y) (hs : pstep P y i = some P') : POk V n P' := by
  unfold pstep at hs
  cases hn : inn y with
  | false => rw [hn] at hs; cases hs; exact h
  | true =>
    rw [hn] at hs
    simp only [Bool.not_true, cond_false] at hs
    cases hh : hasV (pAt P i) y.var with
    | true => rw [hh] at hs; cases hs
    | false =>
      rw [hh] at hs
      simp only [cond_false] at hs
      cases hs
      obtain ⟨a1, a2, _⟩ := hy.inner hn
      have hc := (h.at hi).2
      have hv := hc.hi
      have hm := hasV_mem hc (v := y.var) ⟨a1, by omega⟩ hh
      have hw : wr (-y.var) = -y.var := wr_of _ (by omega) (by omega)
      refine ⟨by simp [h.len], fun p hp => ?_⟩
      rcases List.mem_or_eq_of_mem_set hp with hp | rfl
      · rcases List.mem_or_eq_of_mem_set hp with hp | rfl
        · exact h.c p hp
        · rw [hw]; exact putL_isC hc (by omega) (fun x hx => by have := hm x hx; omega)
      · exact putL_isC hc (by omega) hm
end Go.PF
