/- The frame of a law, type by type: sizes, copies, comparisons, marks. -/
import Derived.Test.YtmpfnnkmplkfoaaGreatCrPf
namespace Go.PF
open Go.Pu

def big : Int := 9223372036854775807
def wIntS (a : List Int) : Nat := a.length
def wIntSS (a : List (List Int)) : Nat := a.length + tot wIntS a
def wCnf (a : Cnf) : Nat := wIntSS a.clauses
def wResStep (a : ResStep) : Nat := wIntS a.clause
def wResStepS (a : List ResStep) : Nat := a.length + tot wResStep a

theorem sz_IntS {a : List Int} {s : Int} (ha : okL okI a) (h0 : 0 ≤ s) (h1 : s ≤ 1048576) : laws_szIntS a s < 0 ∨ laws_szIntS a s + wIntS a = s := by
  have := ha.1
  unfold laws_szIntS wIntS
  rw [wr_of _ (by rw [len_eq]; omega) (by rw [len_eq]; omega)]
  by_cases h : s - len a < 0
  · left; simp [h]
  · right; simp only [h, decide_false, cond_false]; rw [len_eq]; omega
theorem sz_IntSS {a : List (List Int)} {s : Int} (ha : okL (okL okI) a) (h0 : 0 ≤ s) (h1 : s ≤ 1048576) : ∃ r, laws_szIntSS a s = some r ∧ (r < 0 ∨ r + wIntSS a = s) :=
  sz_list (sz := fun y s => some (laws_szIntS y s)) (wt := wIntS) (fun _ _ _ => rfl) (fun y hy _ h0 h1 => ⟨_, rfl, sz_IntS (ha.2 y hy) h0 h1⟩) ha.1 h0 h1
theorem sz_Cnf {a : Cnf} {s : Int} (ha : okCnf a) (h0 : 0 ≤ s) (h1 : s ≤ 1048576) : ∃ r, laws_szCnf a s = some r ∧ (r < 0 ∨ r + wCnf a = s) := by
  obtain ⟨r, h2, h3⟩ := sz_IntSS ha.2 h0 h1
  unfold laws_szCnf
  rw [h2, bd_some]
  by_cases h : r < 0
  · exact ⟨-1, by simp [h], .inl (by omega)⟩
  · exact ⟨r, by simp [h], h3⟩
theorem to_IntS {a : List Int} (h : wIntS a ≤ lim) : laws_toIntS a = some a := by
  have := to_list (β := Int) (g := fun y => some y) (h := id) (z := 0) (l := a) (f := fun i y s => bd (ix s (i : Int)) fun _ => bd (put s (i : Int) y) fun xs => some (.nx xs)) (fun _ _ _ => rfl) (fun _ _ => rfl) h
  rw [List.map_id] at this; exact this
theorem to_IntSS {a : List (List Int)} (h : wIntSS a ≤ lim) : laws_toIntSS a = some a := by
  have := to_list (g := laws_toIntS) (h := id) (z := []) (l := a) (fun _ _ _ => rfl) (fun y hy => to_IntS (by have := tot_mem (wt := wIntS) hy; unfold wIntSS at h; omega)) (by unfold wIntSS at h; omega)
  rw [List.map_id] at this; exact this
theorem to_Cnf {a : Cnf} (h : wCnf a ≤ lim) : laws_toCnf a = some a := by
  unfold laws_toCnf; rw [to_IntSS h]; rfl
theorem eq_IntS (a : List Int) : laws_eqIntS a a = some true :=
  eq_list (eq := fun y x => some (y == x)) (fun _ _ _ => rfl) (fun y _ => by simp)
theorem eq_IntSS (a : List (List Int)) : laws_eqIntSS a a = some true := eq_list (eq := laws_eqIntS) (fun _ _ _ => rfl) (fun y _ => eq_IntS y)
theorem eq_Cnf (a : Cnf) : laws_eqCnf a a = some true := by unfold laws_eqCnf; rw [eq_IntSS]; simp
def mResStep (a : ResStep) : Nat := a.clause.length + 3
theorem tot_one {A : Type} (l : List A) : tot (fun _ => 1) l = l.length := by induction l with
  | nil => rfl
  | cons _ l ih => simp [tot, ih]; omega
theorem mark_IntS {a : List Int} {k : Int} (h0 : 0 ≤ k) (h1 : k + a.length ≤ big) : (laws_markIntS a k).2 = k + a.length := by
  have := mark_end (F := fun (_ : Int) m => (m, wr (m + 1))) (wt := fun _ => 1) (l := a) (k := k) (fun y _ k h0 h1 => wr_of _ (by omega) (by omega)) h0 (by rw [tot_one]; exact h1)
  rw [tot_one] at this; exact this
theorem mark_IntSS {a : List (List Int)} {k : Int} (h0 : 0 ≤ k) (h1 : k + tot wIntS a ≤ big) : (laws_markIntSS a k).2 = k + tot wIntS a :=
  mark_end (wt := wIntS) (fun _ _ _ h0 h1 => mark_IntS h0 h1) h0 h1
theorem mark_Cnf {a : Cnf} {k : Int} (h0 : 0 ≤ k) (h1 : k + tot wIntS a.clauses ≤ big) : (laws_markCnf a k).2 = k + tot wIntS a.clauses := mark_IntSS h0 h1
theorem wr3 {k : Int} (h0 : 0 ≤ k) (h1 : k + 3 ≤ big) : wr (k + 1) = k + 1 ∧ wr (k + 1 + 1) = k + 2 ∧ wr (k + 2 + 1) = k + 3 := by
  unfold big at h1
  exact ⟨wr_of _ (by omega) (by omega), by rw [wr_of _ (by omega) (by omega)]; omega, by rw [wr_of _ (by omega) (by omega)]; omega⟩
theorem held_IntS {a : List Int} {k : Int} (h0 : 0 ≤ k) (h1 : k + a.length ≤ big) : laws_heldIntS (laws_markIntS a k).1 k = some (laws_markIntS a k).2 := by
  have := held_list (F := fun (_ : Int) m => (m, wr (m + 1))) (wt := fun _ => 1) (l := a) (k := k) (i := 0) (f := fun _ y s => bif !(y == s) then some (.rt (-1)) else some (.nx (wr (s + 1)))) (fun y _ k h0 h1 => ⟨wr_of _ (by omega) (by omega), fun i => by simp⟩) h0 (by rw [tot_one]; exact h1)
  unfold laws_heldIntS forL
  unfold laws_markIntS
  rw [this]; rfl
theorem held_IntSS {a : List (List Int)} {k : Int} (h0 : 0 ≤ k) (h1 : k + tot wIntS a ≤ big) : laws_heldIntSS (laws_markIntSS a k).1 k = some (laws_markIntSS a k).2 := by
  unfold laws_heldIntSS forL laws_markIntSS
  rw [held_list (wt := wIntS) (fun y _ k h0 h1 => ?_) h0 h1]
  · rfl
  · have e := mark_IntS (a := y) h0 h1
    have hh := held_IntS (a := y) h0 h1
    refine ⟨e, fun i => ?_⟩
    rw [hh, bd_some]
    have hd : decide ((laws_markIntS y k).2 < 0) = false := by rw [decide_eq_false_iff_not, e]; omega
    rw [hd]; rfl
theorem mResStep_le {a : List ResStep} (h : (wResStepS a : Int) ≤ 1048576) : tot mResStep a ≤ 4194304 := by
  have key : ∀ l : List ResStep, tot mResStep l = tot wResStep l + 3 * l.length := by
    intro l
    induction l with
    | nil => rfl
    | cons x l ih => simp only [tot, ih, List.length_cons, mResStep, wResStep, wIntS]; omega
  have := key a
  unfold wResStepS at h; omega
end Go.PF
