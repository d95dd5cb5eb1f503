/- Loops without a bound, run with one: what a bounded run comes to, the loop comes to. -/
import Derived.Test.YtbbdfaegfiepeaaGreatPl1
namespace Go.PF
open Go.Pu
/-- y is what x is, where x is something -/
structure Le {A : Type} (x y : Option A) : Prop where
  le : ∀ r, x = some r → y = some r
theorem Le.rfl' {A : Type} (x : Option A) : Le x x := ⟨fun _ h => h⟩
def iterC {S X : Type} : Nat → (S → Option (Lp S X)) → S → Option (Rs S X)
  | 0, _, _ => none
  | n + 1, b, s => match b s with
    | none => none
    | some (.nx s') => iterC n b s'
    | some (.bk s') => some (.go s')
    | some (.rt x) => some (.rt x)
theorem iterC_le {S X : Type} {f g : S → Option (Lp S X)} (h : ∀ s, Le (f s) (g s)) (n : Nat) (s : S) : Le (iterC n f s) (iter g s) := by
  constructor
  induction n generalizing s with
  | zero => intro r e; cases e
  | succ n ih =>
    intro r e
    unfold iterC at e
    split at e
    · cases e
    · rename_i s' hb; rw [iter_nx ((h s).le _ hb)]; exact ih _ _ e
    · rename_i s' hb; cases e; exact iter_bk ((h s).le _ hb)
    · rename_i x hb; cases e; exact iter_rt ((h s).le _ hb)
theorem bd_le {A B : Type} {x y : Option A} {k l : A → Option B} (h : Le x y) (hk : ∀ a, Le (k a) (l a)) : Le (bd x k) (bd y l) := by
  constructor
  intro r e
  obtain ⟨a, h1, h2⟩ := bnd e
  rw [h.le _ h1, bd_some]; exact (hk a).le _ h2
theorem bdR_le {S X B : Type} {x y : Option (Rs S X)} {k k' : S → Option B} {l l' : X → Option B} (h : Le x y) (hk : ∀ a, Le (k a) (k' a)) (hl : ∀ a, Le (l a) (l' a)) : Le (bdR x k l) (bdR y k' l') := by
  unfold bdR
  refine bd_le h fun a => ?_
  cases a with
  | go s => exact hk s
  | rt x => exact hl x
theorem bif_le {A : Type} {c : Bool} {x x' y y' : Option A} (h : Le x x') (h' : Le y y') : Le (bif c then x else y) (bif c then x' else y') := by
  cases c
  · exact h'
  · exact h
theorem forFrom_le {S X : Type} {f g : Nat → S → Option (Lp S X)} (h : ∀ i s, Le (f i s) (g i s)) : ∀ (n i : Nat) (s : S), Le (forFrom f n i s) (forFrom g n i s) := by
  intro n
  induction n with
  | zero => intro i s; exact Le.rfl' _
  | succ n ih =>
    intro i s
    constructor
    intro r e
    unfold forFrom at e ⊢
    split at e
    · cases e
    · rename_i s' hb; rw [(h i s).le _ hb]; exact (ih _ _).le _ e
    · rename_i s' hb; rw [(h i s).le _ hb]; exact e
    · rename_i x hb; rw [(h i s).le _ hb]; exact e
theorem forR_le {S X : Type} {f g : Nat → S → Option (Lp S X)} (h : ∀ i s, Le (f i s) (g i s)) (a n : Nat) (s : S) : Le (forR a n f s) (forR a n g s) := forFrom_le h _ _ _
end Go.PF
