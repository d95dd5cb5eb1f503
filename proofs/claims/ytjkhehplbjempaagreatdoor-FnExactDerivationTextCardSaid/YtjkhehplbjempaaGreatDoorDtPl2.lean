/- The frame of a law, type by type: sizes, copies, comparisons, marks. -/
import Derived.Test.YtjkhehplbjempaaGreatDoorDtPf
namespace Go.PF
open Go.Pu

def big : Int := 9223372036854775807
def wIntS (a : List Int) : Nat := a.length
def wIntSS (a : List (List Int)) : Nat := a.length + tot wIntS a
def wCnf (a : Cnf) : Nat := wIntSS a.clauses
def wResStep (a : ResStep) : Nat := wIntS a.clause
def wResStepS (a : List ResStep) : Nat := a.length + tot wResStep a

theorem sz_IntS {a : List Int} {s : Int} (ha : okL okI a) (h0 : 0 ≤ s) (h1 : s ≤ 1048576) : laws_szIntS a s < 0 ∨ laws_szIntS a s + wIntS a = s := by
  have := ha.1
  unfold laws_szIntS wIntS
  rw [wr_of _ (by rw [len_eq]; omega) (by rw [len_eq]; omega)]
  by_cases h : s - len a < 0
  · left; simp [h]
  · right; simp only [h, decide_false, cond_false]; rw [len_eq]; omega
theorem sz_IntSS {a : List (List Int)} {s : Int} (ha : okL (okL okI) a) (h0 : 0 ≤ s) (h1 : s ≤ 1048576) : ∃ r, laws_szIntSS a s = some r ∧ (r < 0 ∨ r + wIntSS a = s) :=
  sz_list (sz := fun y s => some (laws_szIntS y s)) (wt := wIntS) (fun _ _ _ => rfl) (fun y hy _ h0 h1 => ⟨_, rfl, sz_IntS (ha.2 y hy) h0 h1⟩) ha.1 h0 h1
theorem sz_Cnf {a : Cnf} {s : Int} (ha : okCnf a) (h0 : 0 ≤ s) (h1 : s ≤ 1048576) : ∃ r, laws_szCnf a s = some r ∧ (r < 0 ∨ r + wCnf a = s) := by
  obtain ⟨r, h2, h3⟩ := sz_IntSS ha.2 h0 h1
  unfold laws_szCnf
  rw [h2, bd_some]
  by_cases h : r < 0
  · exact ⟨-1, by simp [h], .inl (by omega)⟩
  · exact ⟨r, by simp [h], h3⟩
theorem sz_ResStep {a : ResStep} {s : Int} (ha : okResStep a) (h0 : 0 ≤ s) (h1 : s ≤ 1048576) : laws_szResStep a s < 0 ∨ laws_szResStep a s + wResStep a = s := by
  have := sz_IntS ha.1 h0 h1
  unfold laws_szResStep
  by_cases h : laws_szIntS a.clause s < 0
  · left; simp [h]
  · right; rcases this with h' | h'
    · exact absurd h' h
    · simp only [h, decide_false, cond_false]; exact h'
theorem sz_ResStepS {a : List ResStep} {s : Int} (ha : okL okResStep a) (h0 : 0 ≤ s) (h1 : s ≤ 1048576) : ∃ r, laws_szResStepS a s = some r ∧ (r < 0 ∨ r + wResStepS a = s) :=
  sz_list (sz := fun y s => some (laws_szResStep y s)) (wt := wResStep) (fun _ _ _ => rfl) (fun y hy _ h0 h1 => ⟨_, rfl, sz_ResStep (ha.2 y hy) h0 h1⟩) ha.1 h0 h1

theorem to_IntS {a : List Int} (h : wIntS a ≤ lim) : laws_toIntS a = some a := by
  have := to_list (β := Int) (g := fun y => some y) (h := id) (z := 0) (l := a) (f := fun i y s => bd (ix s (i : Int)) fun _ => bd (put s (i : Int) y) fun xs => some (.nx xs)) (fun _ _ _ => rfl) (fun _ _ => rfl) h
  rw [List.map_id] at this; exact this
theorem to_IntSS {a : List (List Int)} (h : wIntSS a ≤ lim) : laws_toIntSS a = some a := by
  have := to_list (g := laws_toIntS) (h := id) (z := []) (l := a) (fun _ _ _ => rfl) (fun y hy => to_IntS (by have := tot_mem (wt := wIntS) hy; unfold wIntSS at h; omega)) (by unfold wIntSS at h; omega)
  rw [List.map_id] at this; exact this
theorem to_Cnf {a : Cnf} (h : wCnf a ≤ lim) : laws_toCnf a = some a := by
  unfold laws_toCnf; rw [to_IntSS h]; rfl
theorem to_ResStep {a : ResStep} (h : wResStep a ≤ lim) : laws_toResStep a = some a := by
  unfold laws_toResStep; rw [to_IntS h]; rfl
theorem to_ResStepS {a : List ResStep} (h : wResStepS a ≤ lim) : laws_toResStepS a = some a := by
  have := to_list (g := laws_toResStep) (h := id) (z := ResStep.mk [] 0 0 0) (l := a) (fun _ _ _ => rfl) (fun y hy => to_ResStep (by have := tot_mem (wt := wResStep) hy; unfold wResStepS at h; omega)) (by unfold wResStepS at h; omega)
  rw [List.map_id] at this; exact this

theorem eq_IntS (a : List Int) : laws_eqIntS a a = some true :=
  eq_list (eq := fun y x => some (y == x)) (fun _ _ _ => rfl) (fun y _ => by simp)
theorem eq_IntSS (a : List (List Int)) : laws_eqIntSS a a = some true := eq_list (eq := laws_eqIntS) (fun _ _ _ => rfl) (fun y _ => eq_IntS y)
theorem eq_Cnf (a : Cnf) : laws_eqCnf a a = some true := by unfold laws_eqCnf; rw [eq_IntSS]; simp
theorem eq_ResStep (a : ResStep) : laws_eqResStep a a = some true := by unfold laws_eqResStep; rw [eq_IntS]; simp
theorem eq_ResStepS (a : List ResStep) : laws_eqResStepS a a = some true := eq_list (eq := laws_eqResStep) (fun _ _ _ => rfl) (fun y _ => eq_ResStep y)

def mResStep (a : ResStep) : Nat := a.clause.length + 3
theorem tot_one {A : Type} (l : List A) : tot (fun _ => 1) l = l.length := by induction l with
  | nil => rfl
  | cons _ l ih => simp [tot, ih]; omega
theorem wr3 {k : Int} (h0 : 0 ≤ k) (h1 : k + 3 ≤ big) : wr (k + 1) = k + 1 ∧ wr (k + 1 + 1) = k + 2 ∧ wr (k + 2 + 1) = k + 3 := by
  unfold big at h1
  exact ⟨wr_of _ (by omega) (by omega), by rw [wr_of _ (by omega) (by omega)]; omega, by rw [wr_of _ (by omega) (by omega)]; omega⟩
theorem mResStep_le {a : List ResStep} (h : (wResStepS a : Int) ≤ 1048576) : tot mResStep a ≤ 4194304 := by
  have key : ∀ l : List ResStep, tot mResStep l = tot wResStep l + 3 * l.length := by
    intro l
    induction l with
    | nil => rfl
    | cons x l ih => simp only [tot, ih, List.length_cons, mResStep, wResStep, wIntS]; omega
  have := key a
  unfold wResStepS at h; omega
end Go.PF
