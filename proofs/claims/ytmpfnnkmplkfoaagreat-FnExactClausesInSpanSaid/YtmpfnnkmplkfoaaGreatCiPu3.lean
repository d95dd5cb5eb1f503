/- All clauses behind one, in the order of a recursive visit. -/
import Derived.Test.YtmpfnnkmplkfoaaGreatPl1
namespace Go.Pu
/-- the clauses that go on from c with some of the n variables from u on -/
def visL : Nat → Int → List Int → List (List Int)
  | 0, _, _ => []
  | n + 1, u, c => ((c ++ [u]) :: visL n (u + 1) (c ++ [u])) ++ (((c ++ [-u]) :: visL n (u + 1) (c ++ [-u])) ++ visL n (u + 1) c)
def foldO {A S : Type} (f : A → S → Option S) : List A → S → Option S
  | [], s => some s
  | x :: l, s => bd (f x s) fun t => foldO f l t
theorem foldO_cons {A S : Type} {f : A → S → Option S} {x : A} {l : List A} {s r : S} (h : foldO f (x :: l) s = some r) : ∃ t, f x s = some t ∧ foldO f l t = some r := bnd h
theorem foldO_app {A S : Type} {f : A → S → Option S} : ∀ {l m : List A} {s r : S}, foldO f (l ++ m) s = some r → ∃ t, foldO f l s = some t ∧ foldO f m t = some r
  | [], _, s, _, h => ⟨s, rfl, h⟩
  | x :: l, m, s, r, h => by
    obtain ⟨t, h1, h2⟩ := foldO_cons (l := l ++ m) h
    obtain ⟨q, h3, h4⟩ := foldO_app h2
    exact ⟨q, by unfold foldO; rw [h1, bd_some]; exact h3, h4⟩
end Go.Pu
