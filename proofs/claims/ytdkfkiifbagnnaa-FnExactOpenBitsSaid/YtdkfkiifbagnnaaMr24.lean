/- Regions whose order is drawn, once more: what only reads the world at hand may be taken first while all that turns the world still waits for it. -/
import Derived.Test.YtdkfkiifbagnnaaMr23
import Derived.KernelRfl
namespace Go.Mr
open Go.RowKit Go.Pu
/-- an order's condition: B for the whole region; and p.2 while none of the operations p.1 has come up -/
structure SP (B : World → Prop) (ps : List (List Nat × (World → Prop))) (ls : Array Bool) (w : World) : Prop where
  base : B w
  ph : ∀ p ∈ ps, (∀ h ∈ p.1, ls.getD h true = false) → p.2 w
theorem SP.nil {B : World → Prop} {ls : Array Bool} {w : World} (hB : B w) : SP B [] ls w := ⟨hB, nofun⟩
theorem SP.on {B R : World → Prop} {Hs : List Nat} {ps : List (List Nat × (World → Prop))} {ls : Array Bool} {w : World} (hR : R w) (h : SP B ps ls w) : SP B ((Hs, R) :: ps) ls w :=
  ⟨h.base, fun p hp hn => by
    rcases List.mem_cons.1 hp with rfl | hp
    · exact hR
    · exact h.ph p hp hn⟩
theorem SP.off {B R : World → Prop} {Hs : List Nat} {ps : List (List Nat × (World → Prop))} {ls : Array Bool} {w : World} (hH : (Hs.any fun h => ls.getD h true) = true) (h : SP B ps ls w) : SP B ((Hs, R) :: ps) ls w :=
  ⟨h.base, fun p hp hn => by
    rcases List.mem_cons.1 hp with rfl | hp
    · obtain ⟨k, hk, ht⟩ := List.any_eq_true.1 hH
      have := hn k hk
      rw [this] at ht; cases ht
    · exact h.ph p hp hn⟩
theorem SP.iff {B : World → Prop} {ps : List (List Nat × (World → Prop))} {i : Nat} (hi : (ps.all fun p => !p.1.contains i) = true) {ls : Array Bool} {w : World} : SP B ps (ls.setIfInBounds i true) w ↔ SP B ps ls w := by
  have key : ∀ p ∈ ps, ∀ h ∈ p.1, (ls.setIfInBounds i true).getD h true = ls.getD h true := fun p hp h hh => by
    refine getD_set_ne true fun e => ?_
    have := List.all_eq_true.1 hi p hp
    rw [e] at this
    simp [hh] at this
  exact ⟨fun k => ⟨k.base, fun p hp hn => k.ph p hp fun h hh => by rw [key p hp h hh]; exact hn h hh⟩, fun k => ⟨k.base, fun p hp hn => k.ph p hp fun h hh => by rw [← key p hp h hh]; exact hn h hh⟩⟩
section
variable {P : Program} {ops : Array Oper} {Q : Exit → Act → World → Prop} {md : Region.Mode}
def wpAnyI (P : Program) (md : Region.Mode) (ops : Array Oper) (Q : Exit → Act → World → Prop) (S : Array Bool → World → Prop) : Nat → Array Bool → Act → World → Prop
  | 0, ls, a, w => Region.ready md ops ls = [] ∧ Q .normal a w
  | n + 1, ls, a, w => (Region.ready md ops ls = [] → Q .normal a w) ∧
      ∀ i ∈ Region.ready md ops ls, wpOp P ops Q i (fun a w => S (ls.setIfInBounds i true) w ∧ wpAnyI P md ops Q S n (ls.setIfInBounds i true) a w) a w
theorem wpAnyI.mono {S S' : Array Bool → World → Prop} (hS : ∀ ls w, S ls w → S' ls w) : ∀ (n : Nat) (ls : Array Bool) (a : Act) (w : World), wpAnyI P md ops Q S n ls a w → wpAnyI P md ops Q S' n ls a w
  | 0, _, _, _, h => h
  | n + 1, _, _, _, h => ⟨h.1, fun i hi => wpOp_mono (fun _ _ k => ⟨hS _ _ k.1, wpAnyI.mono hS n _ _ _ k.2⟩) (h.2 i hi)⟩
theorem wpAnyI.held {S : Array Bool → World → Prop} : ∀ (n : Nat) (ls : Array Bool) (a : Act) (w : World), wpAnyI P md ops Q S n ls a w → wpAnyH P md ops Q (fun _ => True) n ls a w
  | 0, _, _, _, h => h
  | n + 1, _, _, _, h => ⟨h.1, fun i hi => wpOp_mono (fun _ _ k => ⟨trivial, wpAnyI.held n _ _ _ k.2⟩) (h.2 i hi)⟩
/-- operation i first: all of C waits for it -/
theorem wpAnyI.first {S : Array Bool → World → Prop} {i : Nat} {oi : Oper} {v : Value} (C : Nat → Prop) (hi : ops[i]? = some oi) (hsel : ∀ (j : Nat) (o : Oper) cs b, ops[j]? = some o → o.op ≠ .select cs b)
    (hQ : ∀ c a w, Q (.panic c) (a.put oi.dst v) w → Q (.panic c) a w) (hSi : ∀ ls w, S (ls.setIfInBounds i true) w ↔ S ls w)
    (hC : ∀ j, C j → ∃ oj, ops[j]? = some oj ∧ ∃ e ∈ oj.after, Region.binds md e = true ∧ (C e.on ∨ e.on = i)) : ∀ (n : Nat) (ls : Array Bool) (a : Act) (w : World),
      (∀ j oj, ops[j]? = some oj → j ≠ i → ls.getD j true = false → (∀ e ∈ oj.after, Region.binds md e = true → e.on ≠ i) → oi.apart ops oj = true) →
      i ∈ Region.ready md ops ls → (∀ j, C j → ls.getD j true = false) → YieldsIf P ops (fun w' => ∃ ls', (∀ j, C j → ls'.getD j true = false) ∧ S ls' w') oi v a → S ls w →
      wpAnyI P md ops Q S n (ls.setIfInBounds i true) (a.put oi.dst v) w → wpAnyI P md ops Q S (n + 1) ls a w := by
  intro n
  induction n with
  | zero =>
    intro ls a w _ hr hn hy hS H
    refine ⟨fun h => (by rw [h] at hr; cases hr), fun j hj => ?_⟩
    by_cases hji : j = i
    · subst hji; exact hy.wpOp hi ⟨ls, hn, hS⟩ ⟨(hSi ls w).2 hS, H⟩
    · have hm := ready_mono hj hji
      rw [H.1] at hm
      cases hm
  | succ n ih =>
    intro ls a w hfree hr hn hy hS H
    refine ⟨fun h => (by rw [h] at hr; cases hr), fun j hj => ?_⟩
    by_cases hji : j = i
    · subst hji; exact hy.wpOp hi ⟨ls, hn, hS⟩ ⟨(hSi ls w).2 hS, H⟩
    · have h1 := H.2 j (ready_mono hj hji)
      obtain ⟨hun, oj, hoj, hall⟩ := mem_ready.1 hj
      have hir := (mem_ready.1 hr).1
      have off : ∀ k, ls.getD k true = false → ls.getD k false = true → False := fun k h0 h1 => by
        rcases Nat.lt_or_ge k ls.size with h' | h'
        · simp [h'] at h0 h1; rw [h0] at h1; cases h1
        · simp [Array.getElem?_eq_none h'] at h1
      have hno : ∀ e ∈ oj.after, Region.binds md e = true → e.on ≠ i := fun e he hb heq => off i hir (heq ▸ hall e he hb)
      have hCj : ¬ C j := fun hc => by
        obtain ⟨oj', ho', e, he, hb, hd⟩ := hC j hc
        rw [hoj] at ho'; cases ho'
        rcases hd with hd | hd
        · exact off _ (hn _ hd) (hall e he hb)
        · exact hno e he hb hd
      have hn' : ∀ k, C k → (ls.setIfInBounds j true).getD k true = false := fun k hk => by
        rw [getD_set_ne true (fun (e : j = k) => hCj (by rw [e]; exact hk))]; exact hn k hk
      have h2 := wpOp_putIf hoj (hfree j oj hoj hji hun hno) (fun cs b => hsel i oi cs b hi) (fun cs b => hsel j oj cs b hoj) hQ hy h1
      refine wpOp_mono (fun a' w' h3 => ?_) h2
      have e := Array.setIfInBounds_comm (xs := ls) true true hji
      have hS' : S (ls.setIfInBounds j true) w' := (hSi _ _).1 (by rw [e]; exact h3.2.1)
      refine ⟨hS', ih (ls.setIfInBounds j true) a' w' (fun k ok hk hki hun' hno' => ?_) (ready_mono hr (Ne.symm hji)) hn' h3.1 hS' (by rw [e]; exact h3.2.2)⟩
      refine hfree k ok hk hki ?_ hno'
      by_cases hjk : j = k
      · subst hjk; exact hun
      · rw [getD_set_ne true hjk] at hun'; exact hun'
/-- the test of a certificate -/
def certB (ops : Array Oper) (C : List Nat) (i : Nat) (ls : Array Bool) (ps : List (List Nat × (World → Prop))) : Bool :=
  (C.all fun j => !ls.getD j true && match ops[j]? with | some oj => oj.after.any fun e => Region.binds .any e && (C.contains e.on || e.on == i) | none => false) && ps.all fun p => !p.1.contains i
end
def FB {δ : List Nat} (P : Program) (N : Nat) (ops : Array Oper) (B : World → Prop) (M : Fm → World → Prop) (ps : List (List Nat × (World → Prop))) (n : Nat) (ls : Array Bool) (f : Fm) (w : World) : Prop :=
  ∀ a, Fr (δ := δ) N a f → wpAnyI P .any ops (lift (δ := δ) N fun e f w => e = .normal ∧ M f w) (SP B ps) n ls a w
def FC {δ : List Nat} (P : Program) (N : Nat) (ops : Array Oper) (B : World → Prop) (M : Fm → World → Prop) (ps : List (List Nat × (World → Prop))) (n : Nat) (ls : Array Bool) (i : Nat) (f : Fm) (w : World) : Prop :=
  ∀ a, Fr (δ := δ) N a f → wpOp P ops (lift (δ := δ) N fun e f w => e = .normal ∧ M f w) i (fun a w => SP B ps (ls.setIfInBounds i true) w ∧ wpAnyI P .any ops (lift (δ := δ) N fun e f w => e = .normal ∧ M f w) (SP B ps) n (ls.setIfInBounds i true) a w) a w
section
variable {δ : List Nat} {P : Program} {N : Nat} {f : Fm} {w w' : World} {ops : Array Oper} {B : World → Prop} {M : Fm → World → Prop} {ps : List (List Nat × (World → Prop))} {n : Nat} {ls l' : Array Bool} {H : GH}
theorem FW.drawB {Q : FQ} {id : Nat} {l : List Oper} (B : World → Prop) (M : Fm → World → Prop) (hm : P.follows .mixedOrders = true) (hs : Sl H w)
    (h : ∀ w1, Run w.heap.size H w H w1 → FB (δ := δ) P N l.toArray B M [] l.length (Array.replicate l.length false) f w1) (hQ : ∀ f w, M f w → Q .normal f w) : FW (ρ := none) (δ := δ) P N (.region id l.toArray true) Q f w := by
  intro n a ha
  refine wpIn_wide.2 ?_
  refine Code.wp_mono (Q := lift (δ := δ) N fun e f w => e = .normal ∧ M f w) (fun e a w ⟨f, hf, he, hM⟩ => he ▸ ⟨f, hf, hQ f w hM⟩) (wp_region_held (S := fun _ => True) hm (wpAnyI.held (S := SP B []) _ _ _ _ ?_))
  have := h _ (run_drew hs) a ha
  simpa using this
theorem FB.phase (Hs : List Nat) (R : World → Prop) (h : FB (δ := δ) P N ops B M ((Hs, R) :: ps) n ls f w) : FB (δ := δ) P N ops B M ps n ls f w :=
  fun a ha => wpAnyI.mono (fun _ _ k => ⟨k.base, fun p hp => k.ph p (by simp [hp])⟩) _ _ _ _ (h a ha)
theorem FB.take0 {S' : World → Prop} {i d : Nat} {o : Oper} {v : Value} (C : List Nat) (hi : ops[i]? = some o) (hs : Region.noSelect ops = true) (hf : Region.free .any ops ls i = true) (hr : (Region.ready .any ops ls).contains i = true)
    (hl : ls.setIfInBounds i true = l') (hc : certB ops C i ls ps = true) (hS : SP B ps ls w) (hd : o.dst = some d) (hlt : Nat.blt d N = true)
    (hy : ∀ a, Fr (δ := δ) N a f → YieldsIf P ops S' o v a) (hS' : ∀ ls' w', (∀ j ∈ C, ls'.getD j true = false) → SP B ps ls' w' → S' w')
    (h : FB (δ := δ) P N ops B M ps n l' (upd f d v) w) : FB (δ := δ) P N ops B M ps (n + 1) ls f w := by
  subst hl
  intro a ha
  unfold certB at hc
  rw [Bool.and_eq_true] at hc
  have hC := List.all_eq_true.1 hc.1
  refine wpAnyI.first (v := v) (fun j => j ∈ C) hi (Region.noSelect_spec hs) (fun c a w hq => ?_) (fun ls w => SP.iff hc.2) (fun j hj => ?_) n ls a w (Region.free_spec hi hf) (by simpa using hr) (fun j hj => ?_) ?_ hS ?_
  · obtain ⟨_, _, h0, _⟩ := hq; cases h0
  · have := hC j hj
    rw [Bool.and_eq_true] at this
    cases ho : ops[j]? with
    | none => rw [ho] at this; cases this.2
    | some oj =>
      rw [ho] at this
      obtain ⟨e, he, hb⟩ := Array.any_eq_true'.1 this.2
      rw [Bool.and_eq_true, Bool.or_eq_true] at hb
      exact ⟨oj, rfl, e, he, hb.1, hb.2.imp (fun h => by simpa using h) fun h => by simpa using h⟩
  · have := hC j hj
    rw [Bool.and_eq_true] at this
    simpa using this.1
  · exact (hy a ha).imp (fun ⟨h1, h2⟩ => ⟨h1, fun w' ⟨ls', k1, k2⟩ => h2 w' (hS' ls' w' k1 k2)⟩) id
  · rw [hd]; exact h _ (ha.put (nblt hlt) v)
/-- what reads what stays there for the whole region -/
theorem FB.take {i d : Nat} {o : Oper} {v : Value} (hi : ops[i]? = some o) (hs : Region.noSelect ops = true) (hf : Region.free .any ops ls i = true) (hr : (Region.ready .any ops ls).contains i = true)
    (hl : ls.setIfInBounds i true = l') (hc : certB ops [] i ls ps = true) (hS : SP B ps ls w) (hw : wF ops f o = true) (hd : o.dst = some d) (hlt : Nat.blt d N = true) (hrun : ∀ w', B w' → (execOp (ev f) o).run P w' = .ok (.value v) w')
    (h : FB (δ := δ) P N ops B M ps n l' (upd f d v) w) : FB (δ := δ) P N ops B M ps (n + 1) ls f w :=
  FB.take0 (S' := B) [] hi hs hf hr hl hc hS hd hlt (fun a ha => .inl ⟨by rw [ha.yielded]; exact hw, fun w' hw' => by rw [ha.eval]; exact hrun w' hw'⟩) (fun _ _ _ k => k.base) h
/-- what reads what stays there till one of Hs comes up -/
theorem FB.takeP {Hs : List Nat} {R : World → Prop} {i d : Nat} {o : Oper} {v : Value} (q : Nat) (C : List Nat) (hq : ps[q]? = some (Hs, R)) (hi : ops[i]? = some o) (hs : Region.noSelect ops = true) (hf : Region.free .any ops ls i = true) (hr : (Region.ready .any ops ls).contains i = true)
    (hl : ls.setIfInBounds i true = l') (hc : certB ops C i ls ps = true) (hH : Hs.all (C.contains ·) = true) (hS : SP B ps ls w) (hw : wF ops f o = true) (hd : o.dst = some d) (hlt : Nat.blt d N = true)
    (hrun : ∀ w', R w' → (execOp (ev f) o).run P w' = .ok (.value v) w')
    (h : FB (δ := δ) P N ops B M ps n l' (upd f d v) w) : FB (δ := δ) P N ops B M ps (n + 1) ls f w :=
  FB.take0 (S' := R) C hi hs hf hr hl hc hS hd hlt (fun a ha => .inl ⟨by rw [ha.yielded]; exact hw, fun w' hw' => by rw [ha.eval]; exact hrun w' hw'⟩)
    (fun ls' w' k1 k2 => k2.ph (Hs, R) (List.mem_of_getElem? hq) fun h hh => k1 h (by have := List.all_eq_true.1 hH h hh; simpa using this)) h
/-- what reads the world at hand -/
theorem FB.takeW {Hs : List Nat} {i d : Nat} {o : Oper} {v : Value} (C : List Nat) (hi : ops[i]? = some o) (hs : Region.noSelect ops = true) (hf : Region.free .any ops ls i = true) (hr : (Region.ready .any ops ls).contains i = true)
    (hl : ls.setIfInBounds i true = l') (hc : certB ops C i ls ((Hs, fun w' => w' = w) :: ps) = true) (hH : Hs.all (C.contains ·) = true) (hS : SP B ((Hs, fun w' => w' = w) :: ps) ls w) (hw : wF ops f o = true) (hd : o.dst = some d) (hlt : Nat.blt d N = true)
    (hrun : (execOp (ev f) o).run P w = .ok (.value v) w)
    (h : FB (δ := δ) P N ops B M ((Hs, fun w' => w' = w) :: ps) n l' (upd f d v) w) : FB (δ := δ) P N ops B M ((Hs, fun w' => w' = w) :: ps) (n + 1) ls f w :=
  FB.takeP 0 C rfl hi hs hf hr hl hc hH hS hw hd hlt (fun w' hw' => by rw [hw']; exact hrun) h
theorem FB.skip {i : Nat} {o : Oper} (hi : ops[i]? = some o) (hs : Region.noSelect ops = true) (hf : Region.free .any ops ls i = true) (hr : (Region.ready .any ops ls).contains i = true)
    (hl : ls.setIfInBounds i true = l') (hc : certB ops [] i ls ps = true) (hS : SP B ps ls w) {d : Nat} (hw : wF ops f o = false) (hd : o.dst = some d) (hlt : Nat.blt d N = true)
    (h : FB (δ := δ) P N ops B M ps n l' (upd f d undef) w) : FB (δ := δ) P N ops B M ps (n + 1) ls f w :=
  FB.take0 (S' := B) [] hi hs hf hr hl hc hS hd hlt (fun a ha => .inr ⟨by rw [ha.yielded]; exact hw, rfl⟩) (fun _ _ _ k => k.base) h
theorem FB.done (hr : Region.ready .any ops ls = []) (h : M f w) : FB (δ := δ) P N ops B M ps n ls f w := fun _ ha => by
  cases n with
  | zero => exact ⟨hr, ⟨f, ha, rfl, h⟩⟩
  | succ n => exact ⟨fun _ => ⟨f, ha, rfl, h⟩, fun i hi => by rw [hr] at hi; cases hi⟩
theorem FB.all {rs : List Nat} (hr : Region.ready .any ops ls = rs) (hne : rs ≠ []) (h : ∀ i ∈ rs, FC (δ := δ) P N ops B M ps n ls i f w) : FB (δ := δ) P N ops B M ps (n + 1) ls f w :=
  fun a ha => ⟨fun h0 => absurd (hr ▸ h0) hne, fun i hi => h i (hr ▸ hi) a ha⟩
theorem FB.all1 {i : Nat} (hr : Region.ready .any ops ls = [i]) (h : FC (δ := δ) P N ops B M ps n ls i f w) : FB (δ := δ) P N ops B M ps (n + 1) ls f w :=
  FB.all hr (by simp) fun j hj => by simp at hj; subst hj; exact h
theorem FB.all2 {i j : Nat} (hr : Region.ready .any ops ls = [i, j]) (h1 : FC (δ := δ) P N ops B M ps n ls i f w) (h2 : FC (δ := δ) P N ops B M ps n ls j f w) : FB (δ := δ) P N ops B M ps (n + 1) ls f w :=
  FB.all hr (by simp) fun m hm => by
    simp at hm; rcases hm with rfl | rfl
    · exact h1
    · exact h2
theorem FB.all3 {i j k : Nat} (hr : Region.ready .any ops ls = [i, j, k]) (h1 : FC (δ := δ) P N ops B M ps n ls i f w) (h2 : FC (δ := δ) P N ops B M ps n ls j f w) (h3 : FC (δ := δ) P N ops B M ps n ls k f w) : FB (δ := δ) P N ops B M ps (n + 1) ls f w :=
  FB.all hr (by simp) fun m hm => by
    simp at hm; rcases hm with rfl | rfl | rfl
    · exact h1
    · exact h2
    · exact h3
theorem FB.all4 {i j k m : Nat} (hr : Region.ready .any ops ls = [i, j, k, m]) (h1 : FC (δ := δ) P N ops B M ps n ls i f w) (h2 : FC (δ := δ) P N ops B M ps n ls j f w) (h3 : FC (δ := δ) P N ops B M ps n ls k f w) (h4 : FC (δ := δ) P N ops B M ps n ls m f w) : FB (δ := δ) P N ops B M ps (n + 1) ls f w :=
  FB.all hr (by simp) fun q hq => by
    simp at hq; rcases hq with rfl | rfl | rfl | rfl
    · exact h1
    · exact h2
    · exact h3
    · exact h4
/-- who has come up -/
def bs (n m : Nat) : Array Bool := ((List.range n).map fun i => m.testBit i).toArray
theorem FB.t {i d : Nat} {o : Oper} {v : Value} (l' : Array Bool) (hi : ops[i]? = some o) (hS : SP B ps ls w) (hw : wF ops f o = true) (hrun : ∀ w', B w' → (execOp (ev f) o).run P w' = .ok (.value v) w')
    (h : FB (δ := δ) P N ops B M ps n l' (upd f d v) w) (hd : o.dst = some d := by rfl) (hlt : Nat.blt d N = true := by rfl) (hs : Region.noSelect ops = true := by kernel_rfl) (hf : Region.free .any ops ls i = true := by kernel_rfl)
    (hr : (Region.ready .any ops ls).contains i = true := by kernel_rfl) (hl : ls.setIfInBounds i true = l' := by kernel_rfl) (hc : certB ops [] i ls ps = true := by kernel_rfl) : FB (δ := δ) P N ops B M ps (n + 1) ls f w :=
  FB.take hi hs hf hr hl hc hS hw hd hlt hrun h
theorem FB.p {Hs : List Nat} {R : World → Prop} {i d : Nat} {o : Oper} {v : Value} (l' : Array Bool) (q : Nat) (C : List Nat) (hi : ops[i]? = some o) (hS : SP B ps ls w) (hw : wF ops f o = true) (hq : ps[q]? = some (Hs, R)) (hrun : ∀ w', R w' → (execOp (ev f) o).run P w' = .ok (.value v) w')
    (h : FB (δ := δ) P N ops B M ps n l' (upd f d v) w) (hd : o.dst = some d := by rfl) (hlt : Nat.blt d N = true := by rfl) (hs : Region.noSelect ops = true := by kernel_rfl) (hf : Region.free .any ops ls i = true := by kernel_rfl)
    (hr : (Region.ready .any ops ls).contains i = true := by kernel_rfl) (hl : ls.setIfInBounds i true = l' := by kernel_rfl) (hc : certB ops C i ls ps = true := by kernel_rfl) (hH : Hs.all (C.contains ·) = true := by kernel_rfl) : FB (δ := δ) P N ops B M ps (n + 1) ls f w :=
  FB.takeP q C hq hi hs hf hr hl hc hH hS hw hd hlt hrun h
theorem FB.u {Hs : List Nat} {i d : Nat} {o : Oper} {v : Value} (l' : Array Bool) (C : List Nat) (hi : ops[i]? = some o) (hS : SP B ((Hs, fun w' => w' = w) :: ps) ls w) (hw : wF ops f o = true) (hrun : (execOp (ev f) o).run P w = .ok (.value v) w)
    (h : FB (δ := δ) P N ops B M ((Hs, fun w' => w' = w) :: ps) n l' (upd f d v) w) (hd : o.dst = some d := by rfl) (hlt : Nat.blt d N = true := by rfl) (hs : Region.noSelect ops = true := by kernel_rfl) (hf : Region.free .any ops ls i = true := by kernel_rfl)
    (hr : (Region.ready .any ops ls).contains i = true := by kernel_rfl) (hl : ls.setIfInBounds i true = l' := by kernel_rfl) (hc : certB ops C i ls ((Hs, fun w' => w' = w) :: ps) = true := by kernel_rfl) (hH : Hs.all (C.contains ·) = true := by kernel_rfl) : FB (δ := δ) P N ops B M ((Hs, fun w' => w' = w) :: ps) (n + 1) ls f w :=
  FB.takeW C hi hs hf hr hl hc hH hS hw hd hlt hrun h
theorem SP.o {B R : World → Prop} {Hs : List Nat} {ps : List (List Nat × (World → Prop))} {ls : Array Bool} {w : World} (h : SP B ps ls w) (hH : (Hs.any fun h => ls.getD h true) = true := by kernel_rfl) : SP B ((Hs, R) :: ps) ls w := SP.off hH h
theorem FC.val {i d : Nat} {o : Oper} {v : Value} (hi : ops[i]? = some o) (hl : ls.setIfInBounds i true = l') (hw : wF ops f o = true) (hd : o.dst = some d) (hlt : Nat.blt d N = true)
    (hr : (execOp (ev f) o).run P w = .ok (.value v) w') (h : SP B ps l' w' ∧ FB (δ := δ) P N ops B M ps n l' (upd f d v) w') : FC (δ := δ) P N ops B M ps n ls i f w := by
  subst hl
  intro a ha
  unfold wpOp
  simp only [hi]
  rw [ha.yielded, if_pos (show Region.wanted o (yF ops f) = true from hw)]
  refine .inl ?_
  unfold Oper.wp
  rw [ha.eval, hr, Oper.upon_value, hd]
  exact ⟨h.1, h.2 _ (ha.put (nblt hlt) v)⟩
theorem FC.val0 {i : Nat} {o : Oper} {v : Value} (hi : ops[i]? = some o) (hl : ls.setIfInBounds i true = l') (hw : wF ops f o = true) (hd : o.dst = none)
    (hr : (execOp (ev f) o).run P w = .ok (.value v) w') (h : SP B ps l' w' ∧ FB (δ := δ) P N ops B M ps n l' f w') : FC (δ := δ) P N ops B M ps n ls i f w := by
  subst hl
  intro a ha
  unfold wpOp
  simp only [hi]
  rw [ha.yielded, if_pos (show Region.wanted o (yF ops f) = true from hw)]
  refine .inl ?_
  unfold Oper.wp
  rw [ha.eval, hr, Oper.upon_value, hd]
  exact ⟨h.1, h.2 _ ha⟩
theorem FC.act {i : Nat} {o : Oper} (hi : ops[i]? = some o) (hl : ls.setIfInBounds i true = l') (hw : wF ops f o = true) (hd : o.dst = none)
    (hr : (execOp (ev f) o).run P w = .ok .skip w') (h : SP B ps l' w' ∧ FB (δ := δ) P N ops B M ps n l' f w') : FC (δ := δ) P N ops B M ps n ls i f w := by
  subst hl
  intro a ha
  unfold wpOp
  simp only [hi]
  rw [ha.yielded, if_pos (show Region.wanted o (yF ops f) = true from hw)]
  refine .inl ?_
  unfold Oper.wp
  rw [ha.eval, hr, Oper.upon_skip, hd]
  exact ⟨h.1, h.2 _ ha⟩
theorem FC.call {i d fid : Nat} {o : Oper} {args : Array Value} {R : Ending → World → Prop} (hi : ops[i]? = some o) (hl : ls.setIfInBounds i true = l') (hw : wF ops f o = true) (hd : o.dst = some d) (hlt : Nat.blt d N = true)
    (hr : (execOp (ev f) o).run P w = .ok (.enter fid args) w) (hc : Calls P fid args w R)
    (h : ∀ e w', R e w' → ∃ v, e = .returned v ∧ SP B ps l' w' ∧ FB (δ := δ) P N ops B M ps n l' (upd f d v) w') : FC (δ := δ) P N ops B M ps n ls i f w := by
  subst hl
  intro a ha
  unfold wpOp
  simp only [hi]
  rw [ha.yielded, if_pos (show Region.wanted o (yF ops f) = true from hw)]
  refine .inl ?_
  unfold Oper.wp
  rw [ha.eval, hr, Oper.upon_enter, hd]
  refine hc.mono fun e w' r => ?_
  obtain ⟨v, rfl, hS, hv⟩ := h e w' r
  exact ⟨hS, hv _ (ha.put (nblt hlt) v)⟩
end
section
variable {P : Program} {f : Fm} {d : Option Tmp} {ty : TypeId} {pos : String} {aft : Array Edge} {gd : Option (Nat × Bool)} {x : Operand} {H0 H H' : GH} {w0 w w' : World} {l : List MO} {e k n : Nat} {z v : Value}
theorem E.lenOW {α : Type} {En : Enc α} {xs : List α} {cells : List Value} {t e' : Nat} (te : TE P t e' k z) (hx : ev f x = v) (h : St H0 w0 H w l) {i : Nat} (hi : l[i]? = some (.row e k v n cells)) (he : Els H' En k cells xs) (hk : 0 < k) :
    (execOp (ev f) ⟨d, .call ⟨.builtin .len, #[x], #[t]⟩, ty, pos, aft, gd⟩).run P w' = .ok (.value (.int .i64 (Pu.len xs))) w' := by
  have := E.len (P := P) (f := f) (w := w') (d := d) (ty := ty) (pos := pos) (aft := aft) (gd := gd) te hx (h.row_ln hi)
  rw [h.row_n hi he hk] at this; exact this
end
section
variable {ρ : Option Nat} {δ : List Nat} {P : Program} {N : Nat} {Q : FQ} {f : Fm} {w : World} {ops : Array Oper} {o : Oper} {rest : List Oper}
theorem FL.v {d : Nat} {v : Value} {w' : World} (hr : (execOp (ev f) o).run P w = .ok (.value v) w') (h : FL (ρ := ρ) (δ := δ) P N ops Q rest (upd f d v) w')
    (hw : wF ops f o = true := by rfl) (hd : o.dst = some d := by rfl) (hlt : Nat.blt d N = true := by rfl) : FL (ρ := ρ) (δ := δ) P N ops Q (o :: rest) f w := FL.val hw hd hlt hr h
end
end Go.Mr
