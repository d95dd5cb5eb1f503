/- Regions whose order is drawn, with operations that lay blocks: every order is walked, what only reads is taken first. -/
import Derived.Test.YtdkfkiifbagnnaaMr10
import Derived.OrdersHeld
import Derived.Lib.SliceRun
namespace Go.Mr
open Go.RowKit Go.Pu

theorem Sl.of_inc {H H' : GH} {w : World} (hi : Inc H H') (h : Sl H' w) : Sl H w := fun b o hb => h b o (hi b o hb)

def FA {δ : List Nat} (P : Program) (N : Nat) (ops : Array Oper) (S : World → Prop) (M : Fm → World → Prop) (n : Nat) (ls : Array Bool) (f : Fm) (w : World) : Prop :=
  ∀ a, Fr (δ := δ) N a f → wpAnyH P .any ops (lift (δ := δ) N fun e f w => e = .normal ∧ M f w) S n ls a w
def FO {δ : List Nat} (P : Program) (N : Nat) (ops : Array Oper) (S : World → Prop) (M : Fm → World → Prop) (n : Nat) (ls : Array Bool) (i : Nat) (f : Fm) (w : World) : Prop :=
  ∀ a, Fr (δ := δ) N a f → wpOp P ops (lift (δ := δ) N fun e f w => e = .normal ∧ M f w) i (fun a' w' => S w' ∧ wpAnyH P .any ops (lift (δ := δ) N fun e f w => e = .normal ∧ M f w) S n (ls.setIfInBounds i true) a' w') a w

section
variable {δ : List Nat} {P : Program} {N : Nat} {f : Fm} {w w' : World} {ops : Array Oper} {S : World → Prop} {M : Fm → World → Prop} {n : Nat} {ls l' : Array Bool} {H : GH}

theorem FW.drawA {Q : FQ} {id : Nat} {l : List Oper} (S : World → Prop) (M : Fm → World → Prop) (hm : P.follows .mixedOrders = true) (hs : Sl H w)
    (h : ∀ w1, Run w.heap.size H w H w1 → FA (δ := δ) P N l.toArray S M l.length (Array.replicate l.length false) f w1) (hQ : ∀ f w, M f w → Q .normal f w) : FW (ρ := none) (δ := δ) P N (.region id l.toArray true) Q f w := by
  intro n a ha
  refine wpIn_wide.2 ?_
  refine Code.wp_mono (Q := lift (δ := δ) N fun e f w => e = .normal ∧ M f w) (fun e a w ⟨f, hf, he, hM⟩ => he ▸ ⟨f, hf, hQ f w hM⟩) (wp_region_held (S := S) hm ?_)
  have := h _ (run_drew hs) a ha
  simpa using this

theorem FA.take {i d : Nat} {o : Oper} {v : Value} (hi : ops[i]? = some o) (hs : Region.noSelect ops = true) (hf : Region.free .any ops ls i = true) (hr : (Region.ready .any ops ls).contains i = true)
    (hl : ls.setIfInBounds i true = l') (hS : S w) (hw : wF ops f o = true) (hd : o.dst = some d) (hlt : Nat.blt d N = true) (hrun : ∀ w', S w' → (execOp (ev f) o).run P w' = .ok (.value v) w')
    (h : FA (δ := δ) P N ops S M n l' (upd f d v) w) : FA (δ := δ) P N ops S M (n + 1) ls f w := by
  subst hl
  intro a ha
  refine wpAnyH_take hi hs hf hr (fun c a w hq => ?_) (.inl ⟨by rw [ha.yielded]; exact hw, fun w' hw' => by rw [ha.eval]; exact hrun w' hw'⟩) hS ?_
  · obtain ⟨_, _, h0, _⟩ := hq; cases h0
  · rw [hd]; exact h _ (ha.put (nblt hlt) v)

theorem FA.done (hr : Region.ready .any ops ls = []) (h : M f w) : FA (δ := δ) P N ops S M n ls f w := fun _ ha => wpAnyH_done hr ⟨f, ha, rfl, h⟩ _

theorem FA.all1 {i : Nat} (hr : Region.ready .any ops ls = [i]) (h : FO (δ := δ) P N ops S M n ls i f w) : FA (δ := δ) P N ops S M (n + 1) ls f w :=
  fun a ha => wpAnyH_all hr (by simp) fun j hj => by simp at hj; subst hj; exact h a ha
theorem FA.all2 {i j : Nat} (hr : Region.ready .any ops ls = [i, j]) (h1 : FO (δ := δ) P N ops S M n ls i f w) (h2 : FO (δ := δ) P N ops S M n ls j f w) : FA (δ := δ) P N ops S M (n + 1) ls f w :=
  fun a ha => wpAnyH_all hr (by simp) fun m hm => by
    simp at hm; rcases hm with rfl | rfl
    · exact h1 a ha
    · exact h2 a ha
theorem FA.all3 {i j k : Nat} (hr : Region.ready .any ops ls = [i, j, k]) (h1 : FO (δ := δ) P N ops S M n ls i f w) (h2 : FO (δ := δ) P N ops S M n ls j f w) (h3 : FO (δ := δ) P N ops S M n ls k f w) : FA (δ := δ) P N ops S M (n + 1) ls f w :=
  fun a ha => wpAnyH_all hr (by simp) fun m hm => by
    simp at hm; rcases hm with rfl | rfl | rfl
    · exact h1 a ha
    · exact h2 a ha
    · exact h3 a ha
theorem FA.all4 {i j k m : Nat} (hr : Region.ready .any ops ls = [i, j, k, m]) (h1 : FO (δ := δ) P N ops S M n ls i f w) (h2 : FO (δ := δ) P N ops S M n ls j f w) (h3 : FO (δ := δ) P N ops S M n ls k f w) (h4 : FO (δ := δ) P N ops S M n ls m f w) : FA (δ := δ) P N ops S M (n + 1) ls f w :=
  fun a ha => wpAnyH_all hr (by simp) fun q hq => by
    simp at hq; rcases hq with rfl | rfl | rfl | rfl
    · exact h1 a ha
    · exact h2 a ha
    · exact h3 a ha
    · exact h4 a ha

theorem FO.val {i d : Nat} {o : Oper} {v : Value} (hi : ops[i]? = some o) (hl : ls.setIfInBounds i true = l') (hw : wF ops f o = true) (hd : o.dst = some d) (hlt : Nat.blt d N = true)
    (hr : (execOp (ev f) o).run P w = .ok (.value v) w') (h : S w' ∧ FA (δ := δ) P N ops S M n l' (upd f d v) w') : FO (δ := δ) P N ops S M n ls i f w := by
  subst hl
  intro a ha
  unfold wpOp
  simp only [hi]
  rw [ha.yielded, if_pos (show Region.wanted o (yF ops f) = true from hw)]
  refine .inl ?_
  unfold Oper.wp
  rw [ha.eval, hr, Oper.upon_value, hd]
  exact ⟨h.1, h.2 _ (ha.put (nblt hlt) v)⟩
theorem FO.val0 {i : Nat} {o : Oper} {v : Value} (hi : ops[i]? = some o) (hl : ls.setIfInBounds i true = l') (hw : wF ops f o = true) (hd : o.dst = none)
    (hr : (execOp (ev f) o).run P w = .ok (.value v) w') (h : S w' ∧ FA (δ := δ) P N ops S M n l' f w') : FO (δ := δ) P N ops S M n ls i f w := by
  subst hl
  intro a ha
  unfold wpOp
  simp only [hi]
  rw [ha.yielded, if_pos (show Region.wanted o (yF ops f) = true from hw)]
  refine .inl ?_
  unfold Oper.wp
  rw [ha.eval, hr, Oper.upon_value, hd]
  exact ⟨h.1, h.2 _ ha⟩
theorem FO.act {i : Nat} {o : Oper} (hi : ops[i]? = some o) (hl : ls.setIfInBounds i true = l') (hw : wF ops f o = true) (hd : o.dst = none)
    (hr : (execOp (ev f) o).run P w = .ok .skip w') (h : S w' ∧ FA (δ := δ) P N ops S M n l' f w') : FO (δ := δ) P N ops S M n ls i f w := by
  subst hl
  intro a ha
  unfold wpOp
  simp only [hi]
  rw [ha.yielded, if_pos (show Region.wanted o (yF ops f) = true from hw)]
  refine .inl ?_
  unfold Oper.wp
  rw [ha.eval, hr, Oper.upon_skip, hd]
  exact ⟨h.1, h.2 _ ha⟩
theorem FO.call {i d fid : Nat} {o : Oper} {args : Array Value} {R : Ending → World → Prop} (hi : ops[i]? = some o) (hl : ls.setIfInBounds i true = l') (hw : wF ops f o = true) (hd : o.dst = some d) (hlt : Nat.blt d N = true)
    (hr : (execOp (ev f) o).run P w = .ok (.enter fid args) w) (hc : Calls P fid args w R)
    (h : ∀ e w', R e w' → ∃ v, e = .returned v ∧ S w' ∧ FA (δ := δ) P N ops S M n l' (upd f d v) w') : FO (δ := δ) P N ops S M n ls i f w := by
  subst hl
  intro a ha
  unfold wpOp
  simp only [hi]
  rw [ha.yielded, if_pos (show Region.wanted o (yF ops f) = true from hw)]
  refine .inl ?_
  unfold Oper.wp
  rw [ha.eval, hr, Oper.upon_enter, hd]
  refine hc.mono fun e w' r => ?_
  obtain ⟨v, rfl, hS, hv⟩ := h e w' r
  exact ⟨hS, hv _ (ha.put (nblt hlt) v)⟩
end

/-! a slice and nil -/
theorem RSl.nilTest {α : Type} {P : Program} {H : GH} {En : Enc α} {t e k : Nat} {z v : Value} {xs : List α} (te : TE P t e k z) (h : RSl H En k v xs) :
    ∃ b, (∀ (f : Fm) (x y : Operand) (n c : Nat) (d : Option Tmp) (t' ty : TypeId) (pos : String) (aft : Array Edge) (gd : Option (Nat × Bool)) (w : World), ev f x = v → ev f y = .slice none n c →
      (execOp (ev f) ⟨d, .binOp .eql t x y t', ty, pos, aft, gd⟩).run P w = .ok (.value (.bool b)) w) ∧ (b = true → xs = []) := by
  obtain ⟨a, cap, rfl, ⟨_, _, _⟩, hx⟩ := h
  refine ⟨a.isNone, fun f x y n c d t' ty pos aft gd w h1 h2 => ?_, fun hn => ?_⟩
  · simp [execOp, h1, h2, Go.Lib.run_eql_slice_nil w t e a xs.length cap n c te.u, eqGuard_at_slice]
  · cases a with
    | some a => cases hn
    | none =>
      cases xs with
      | nil => rfl
      | cons x xs =>
        obtain ⟨p, _, h0, _⟩ := hx 0 x rfl
        cases h0
theorem app_nil2 {α : Type} : app ([] : List α) [] = some [] := rfl

/-! slices.Grow at nil -/
theorem growNil {α : Type} {P : Program} {H : GH} {w : World} {t e k fid : Nat} {z : Value} {En : Enc α} (te : TE P t e k z) (hs : Sl H w) {a : Int} (h0 : 0 ≤ a) (hl : a ≤ lim)
    (k0 : ∀ w, Calls P fid #[.slice none 0 0, .int .i64 0] w fun e' w' => e' = .returned (.slice none 0 0) ∧ w' = w)
    (k1 : ∀ (n : Nat) w, 0 < n → n ≤ lim → Calls P fid #[.slice none 0 0, .int .i64 n] w fun e' w' => e' = .returned (.slice (some ⟨w.heap.size, 0, none⟩) 0 (grownCap w n 0 e)) ∧
      w' = w.drew.alloc (.cells (Builtin.zeroCells z.cells n ++ Builtin.zeroCells z.cells (grownCap w n 0 e - n)) e)) :
    Calls P fid #[.slice none 0 0, .int .i64 a] w fun e' w' => ∃ v n c, e' = .returned v ∧ St H w H w' [.row e k v n c] ∧ ∀ G, Els G En k c [] := by
  obtain ⟨n, rfl⟩ := Int.eq_ofNat_of_zero_le h0
  rcases Nat.eq_zero_or_pos n with rfl | hn
  · refine (k0 w).mono ?_
    rintro _ _ ⟨rfl, rfl⟩
    exact ⟨_, _, _, rfl, (St.init hs).nil e k, fun _ => .nil⟩
  · have hl' : n ≤ lim := by omega
    refine (k1 n w hn hl').mono ?_
    rintro _ _ ⟨rfl, rfl⟩
    have hd := (St.init hs).call (run_drew hs)
    have hge := grownCap_ge w n 0 e
    refine ⟨_, 0, [], rfl, hd.push (.row e k (.slice (some ⟨w.heap.size, 0, none⟩) 0 (grownCap w n 0 e)) 0 []) _ ⟨⟨by simp, .inr ⟨w.heap.size, _, _, rfl, Nat.le_refl _, heap_alloc_new w.drew _, Nat.zero_le _, ?_, ?_, by simp⟩⟩, by simp⟩ ?_, fun _ => .nil⟩
    · exact grownCap_le_maxLen w n 0 e (by unfold lim at hl'; simp only [maxLen]; omega)
    · rw [Array.size_append, size_zeroCells, size_zeroCells, te.zs, ← Nat.add_mul]; congr 1; omega
    · intro b hb; simpa [MO.blk, Value.ownBlock] using hb.symm
end Go.Mr
