/- Regions whose order is drawn, with operations that lay blocks: every order is walked, what only reads is taken first. -/
import Derived.Test.YtjpjbfbloplacaaGreatTdMr10
import Derived.OrdersHeld
import Derived.Lib.SliceRun
namespace Go.Mr
open Go.RowKit Go.Pu

theorem Sl.of_inc {H H' : GH} {w : World} (hi : Inc H H') (h : Sl H' w) : Sl H w := fun b o hb => h b o (hi b o hb)

section
variable {δ : List Nat} {P : Program} {N : Nat} {f : Fm} {w w' : World} {ops : Array Oper} {S : World → Prop} {M : Fm → World → Prop} {n : Nat} {ls l' : Array Bool} {H : GH}

end

theorem RSl.nilTest {α : Type} {P : Program} {H : GH} {En : Enc α} {t e k : Nat} {z v : Value} {xs : List α} (te : TE P t e k z) (h : RSl H En k v xs) :
    ∃ b, (∀ (f : Fm) (x y : Operand) (n c : Nat) (d : Option Tmp) (t' ty : TypeId) (pos : String) (aft : Array Edge) (gd : Option (Nat × Bool)) (w : World), ev f x = v → ev f y = .slice none n c →
      (execOp (ev f) ⟨d, .binOp .eql t x y t', ty, pos, aft, gd⟩).run P w = .ok (.value (.bool b)) w) ∧ (b = true → xs = []) := by
  obtain ⟨a, cap, rfl, ⟨_, _, _⟩, hx⟩ := h
  refine ⟨a.isNone, fun f x y n c d t' ty pos aft gd w h1 h2 => ?_, fun hn => ?_⟩
  · simp [execOp, h1, h2, Go.Lib.run_eql_slice_nil w t e a xs.length cap n c te.u, eqGuard_at_slice]
  · cases a with
    | some a => cases hn
    | none =>
      cases xs with
      | nil => rfl
      | cons x xs =>
        obtain ⟨p, _, h0, _⟩ := hx 0 x rfl
        cases h0
theorem app_nil2 {α : Type} : app ([] : List α) [] = some [] := rfl

theorem growNil {α : Type} {P : Program} {H : GH} {w : World} {t e k fid : Nat} {z : Value} {En : Enc α} (te : TE P t e k z) (hs : Sl H w) {a : Int} (h0 : 0 ≤ a) (hl : a ≤ lim)
    (k0 : ∀ w, Calls P fid #[.slice none 0 0, .int .i64 0] w fun e' w' => e' = .returned (.slice none 0 0) ∧ w' = w)
    (k1 : ∀ (n : Nat) w, 0 < n → n ≤ lim → Calls P fid #[.slice none 0 0, .int .i64 n] w fun e' w' => e' = .returned (.slice (some ⟨w.heap.size, 0, none⟩) 0 (grownCap w n 0 e)) ∧
      w' = w.drew.alloc (.cells (Builtin.zeroCells z.cells n ++ Builtin.zeroCells z.cells (grownCap w n 0 e - n)) e)) :
    Calls P fid #[.slice none 0 0, .int .i64 a] w fun e' w' => ∃ v n c, e' = .returned v ∧ St H w H w' [.row e k v n c] ∧ ∀ G, Els G En k c [] := by
  obtain ⟨n, rfl⟩ := Int.eq_ofNat_of_zero_le h0
  rcases Nat.eq_zero_or_pos n with rfl | hn
  · refine (k0 w).mono ?_
    rintro _ _ ⟨rfl, rfl⟩
    exact ⟨_, _, _, rfl, (St.init hs).nil e k, fun _ => .nil⟩
  · have hl' : n ≤ lim := by omega
    refine (k1 n w hn hl').mono ?_
    rintro _ _ ⟨rfl, rfl⟩
    have hd := (St.init hs).call (run_drew hs)
    have hge := grownCap_ge w n 0 e
    refine ⟨_, 0, [], rfl, hd.push (.row e k (.slice (some ⟨w.heap.size, 0, none⟩) 0 (grownCap w n 0 e)) 0 []) _ ⟨⟨by simp, .inr ⟨w.heap.size, _, _, rfl, Nat.le_refl _, heap_alloc_new w.drew _, Nat.zero_le _, ?_, ?_, by simp⟩⟩, by simp⟩ ?_, fun _ => .nil⟩
    · exact grownCap_le_maxLen w n 0 e (by unfold lim at hl'; simp only [maxLen]; omega)
    · rw [Array.size_append, size_zeroCells, size_zeroCells, te.zs, ← Nat.add_mul]; congr 1; omega
    · intro b hb; simpa [MO.blk, Value.ownBlock] using hb.symm
end Go.Mr
