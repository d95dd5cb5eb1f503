/- Helpers of the walks and plain laws. -/
import Derived.Test.YtdkfkiifbagnnaaGreatCfLA
import Derived.OrdersHeld
import Derived.Lib.SliceRun
import Derived.ProofKit
import Derived.OpenShut
import Derived.WideKeyArgs
import Derived.Shelf.SlSortCmp.Kit1
import Derived.Sort.LotA
import Derived.Lib.SlicesCompact
import Derived.Shelf.SlicesE.Compact
import Derived.Ground.SlgnProg
import Derived.Shelf.Sort.Plain
import Derived.Shelf.Slices.In.SortNone
import Derived.RangeFuncRecord
import Derived.Shelf.SlicesE.Delete
set_option linter.unusedVariables false
namespace Go.Mr
open Go.RowKit Go.Pu
theorem Sl.of_inc {H H' : GH} {w : World} (hi : Inc H H') (h : Sl H' w) : Sl H w := fun b o hb => h b o (hi b o hb)
def FA {δ : List Nat} (P : Program) (N : Nat) (ops : Array Oper) (S : World → Prop) (M : Fm → World → Prop) (n : Nat) (ls : Array Bool) (f : Fm) (w : World) : Prop :=
  ∀ a, Fr (δ := δ) N a f → wpAnyH P .any ops (lift (δ := δ) N fun e f w => e = .normal ∧ M f w) S n ls a w
def FO {δ : List Nat} (P : Program) (N : Nat) (ops : Array Oper) (S : World → Prop) (M : Fm → World → Prop) (n : Nat) (ls : Array Bool) (i : Nat) (f : Fm) (w : World) : Prop :=
  ∀ a, Fr (δ := δ) N a f → wpOp P ops (lift (δ := δ) N fun e f w => e = .normal ∧ M f w) i (fun a' w' => S w' ∧ wpAnyH P .any ops (lift (δ := δ) N fun e f w => e = .normal ∧ M f w) S n (ls.setIfInBounds i true) a' w') a w
section
variable {δ : List Nat} {P : Program} {N : Nat} {f : Fm} {w w' : World} {ops : Array Oper} {S : World → Prop} {M : Fm → World → Prop} {n : Nat} {ls l' : Array Bool} {H : GH}
theorem FW.drawA {Q : FQ} {id : Nat} {l : List Oper} (S : World → Prop) (M : Fm → World → Prop) (hm : P.follows .mixedOrders = true) (hs : Sl H w)
    (h : ∀ w1, Run w.heap.size H w H w1 → FA (δ := δ) P N l.toArray S M l.length (Array.replicate l.length false) f w1) (hQ : ∀ f w, M f w → Q .normal f w) : FW (ρ := none) (δ := δ) P N (.region id l.toArray true) Q f w := by
  intro n a ha
  refine wpIn_wide.2 ?_
  refine Code.wp_mono (Q := lift (δ := δ) N fun e f w => e = .normal ∧ M f w) (fun e a w ⟨f, hf, he, hM⟩ => he ▸ ⟨f, hf, hQ f w hM⟩) (wp_region_held (S := S) hm ?_)
  have := h _ (run_drew hs) a ha
  simpa using this
theorem FA.take {i d : Nat} {o : Oper} {v : Value} (hi : ops[i]? = some o) (hs : Region.noSelect ops = true) (hf : Region.free .any ops ls i = true) (hr : (Region.ready .any ops ls).contains i = true)
    (hl : ls.setIfInBounds i true = l') (hS : S w) (hw : wF ops f o = true) (hd : o.dst = some d) (hlt : Nat.blt d N = true) (hrun : ∀ w', S w' → (execOp (ev f) o).run P w' = .ok (.value v) w')
    (h : FA (δ := δ) P N ops S M n l' (upd f d v) w) : FA (δ := δ) P N ops S M (n + 1) ls f w := by
  subst hl
  intro a ha
  refine wpAnyH_take hi hs hf hr (fun c a w hq => ?_) (.inl ⟨by rw [ha.yielded]; exact hw, fun w' hw' => by rw [ha.eval]; exact hrun w' hw'⟩) hS ?_
  · obtain ⟨_, _, h0, _⟩ := hq; cases h0
  · rw [hd]; exact h _ (ha.put (nblt hlt) v)
theorem FA.done (hr : Region.ready .any ops ls = []) (h : M f w) : FA (δ := δ) P N ops S M n ls f w := fun _ ha => wpAnyH_done hr ⟨f, ha, rfl, h⟩ _
theorem FA.all1 {i : Nat} (hr : Region.ready .any ops ls = [i]) (h : FO (δ := δ) P N ops S M n ls i f w) : FA (δ := δ) P N ops S M (n + 1) ls f w :=
  fun a ha => wpAnyH_all hr (by simp) fun j hj => by simp at hj; subst hj; exact h a ha
theorem FA.all2 {i j : Nat} (hr : Region.ready .any ops ls = [i, j]) (h1 : FO (δ := δ) P N ops S M n ls i f w) (h2 : FO (δ := δ) P N ops S M n ls j f w) : FA (δ := δ) P N ops S M (n + 1) ls f w :=
  fun a ha => wpAnyH_all hr (by simp) fun m hm => by
    simp at hm; rcases hm with rfl | rfl
    · exact h1 a ha
    · exact h2 a ha
theorem FA.all3 {i j k : Nat} (hr : Region.ready .any ops ls = [i, j, k]) (h1 : FO (δ := δ) P N ops S M n ls i f w) (h2 : FO (δ := δ) P N ops S M n ls j f w) (h3 : FO (δ := δ) P N ops S M n ls k f w) : FA (δ := δ) P N ops S M (n + 1) ls f w :=
  fun a ha => wpAnyH_all hr (by simp) fun m hm => by
    simp at hm; rcases hm with rfl | rfl | rfl
    · exact h1 a ha
    · exact h2 a ha
    · exact h3 a ha
theorem FA.all4 {i j k m : Nat} (hr : Region.ready .any ops ls = [i, j, k, m]) (h1 : FO (δ := δ) P N ops S M n ls i f w) (h2 : FO (δ := δ) P N ops S M n ls j f w) (h3 : FO (δ := δ) P N ops S M n ls k f w) (h4 : FO (δ := δ) P N ops S M n ls m f w) : FA (δ := δ) P N ops S M (n + 1) ls f w :=
  fun a ha => wpAnyH_all hr (by simp) fun q hq => by
    simp at hq; rcases hq with rfl | rfl | rfl | rfl
    · exact h1 a ha
    · exact h2 a ha
    · exact h3 a ha
    · exact h4 a ha
theorem FO.val {i d : Nat} {o : Oper} {v : Value} (hi : ops[i]? = some o) (hl : ls.setIfInBounds i true = l') (hw : wF ops f o = true) (hd : o.dst = some d) (hlt : Nat.blt d N = true)
    (hr : (execOp (ev f) o).run P w = .ok (.value v) w') (h : S w' ∧ FA (δ := δ) P N ops S M n l' (upd f d v) w') : FO (δ := δ) P N ops S M n ls i f w := by
  subst hl
  intro a ha
  unfold wpOp
  simp only [hi]
  rw [ha.yielded, if_pos (show Region.wanted o (yF ops f) = true from hw)]
  refine .inl ?_
  unfold Oper.wp
  rw [ha.eval, hr, Oper.upon_value, hd]
  exact ⟨h.1, h.2 _ (ha.put (nblt hlt) v)⟩
theorem FO.val0 {i : Nat} {o : Oper} {v : Value} (hi : ops[i]? = some o) (hl : ls.setIfInBounds i true = l') (hw : wF ops f o = true) (hd : o.dst = none)
    (hr : (execOp (ev f) o).run P w = .ok (.value v) w') (h : S w' ∧ FA (δ := δ) P N ops S M n l' f w') : FO (δ := δ) P N ops S M n ls i f w := by
  subst hl
  intro a ha
  unfold wpOp
  simp only [hi]
  rw [ha.yielded, if_pos (show Region.wanted o (yF ops f) = true from hw)]
  refine .inl ?_
  unfold Oper.wp
  rw [ha.eval, hr, Oper.upon_value, hd]
  exact ⟨h.1, h.2 _ ha⟩
theorem FO.act {i : Nat} {o : Oper} (hi : ops[i]? = some o) (hl : ls.setIfInBounds i true = l') (hw : wF ops f o = true) (hd : o.dst = none)
    (hr : (execOp (ev f) o).run P w = .ok .skip w') (h : S w' ∧ FA (δ := δ) P N ops S M n l' f w') : FO (δ := δ) P N ops S M n ls i f w := by
  subst hl
  intro a ha
  unfold wpOp
  simp only [hi]
  rw [ha.yielded, if_pos (show Region.wanted o (yF ops f) = true from hw)]
  refine .inl ?_
  unfold Oper.wp
  rw [ha.eval, hr, Oper.upon_skip, hd]
  exact ⟨h.1, h.2 _ ha⟩
theorem FO.call {i d fid : Nat} {o : Oper} {args : Array Value} {R : Ending → World → Prop} (hi : ops[i]? = some o) (hl : ls.setIfInBounds i true = l') (hw : wF ops f o = true) (hd : o.dst = some d) (hlt : Nat.blt d N = true)
    (hr : (execOp (ev f) o).run P w = .ok (.enter fid args) w) (hc : Calls P fid args w R)
    (h : ∀ e w', R e w' → ∃ v, e = .returned v ∧ S w' ∧ FA (δ := δ) P N ops S M n l' (upd f d v) w') : FO (δ := δ) P N ops S M n ls i f w := by
  subst hl
  intro a ha
  unfold wpOp
  simp only [hi]
  rw [ha.yielded, if_pos (show Region.wanted o (yF ops f) = true from hw)]
  refine .inl ?_
  unfold Oper.wp
  rw [ha.eval, hr, Oper.upon_enter, hd]
  refine hc.mono fun e w' r => ?_
  obtain ⟨v, rfl, hS, hv⟩ := h e w' r
  exact ⟨hS, hv _ (ha.put (nblt hlt) v)⟩
end
/-! a slice and nil -/
theorem RSl.nilTest {α : Type} {P : Program} {H : GH} {En : Enc α} {t e k : Nat} {z v : Value} {xs : List α} (te : TE P t e k z) (h : RSl H En k v xs) :
    ∃ b, (∀ (f : Fm) (x y : Operand) (n c : Nat) (d : Option Tmp) (t' ty : TypeId) (pos : String) (aft : Array Edge) (gd : Option (Nat × Bool)) (w : World), ev f x = v → ev f y = .slice none n c →
      (execOp (ev f) ⟨d, .binOp .eql t x y t', ty, pos, aft, gd⟩).run P w = .ok (.value (.bool b)) w) ∧ (b = true → xs = []) := by
  obtain ⟨a, cap, rfl, ⟨_, _, _⟩, hx⟩ := h
  refine ⟨a.isNone, fun f x y n c d t' ty pos aft gd w h1 h2 => ?_, fun hn => ?_⟩
  · simp [execOp, h1, h2, Go.Lib.run_eql_slice_nil w t e a xs.length cap n c te.u, eqGuard_at_slice]
  · cases a with
    | some a => cases hn
    | none =>
      cases xs with
      | nil => rfl
      | cons x xs =>
        obtain ⟨p, _, h0, _⟩ := hx 0 x rfl
        cases h0
theorem app_nil2 {α : Type} : app ([] : List α) [] = some [] := rfl
/-! slices.Grow at nil -/
theorem growNil {α : Type} {P : Program} {H : GH} {w : World} {t e k fid : Nat} {z : Value} {En : Enc α} (te : TE P t e k z) (hs : Sl H w) {a : Int} (h0 : 0 ≤ a) (hl : a ≤ lim)
    (k0 : ∀ w, Calls P fid #[.slice none 0 0, .int .i64 0] w fun e' w' => e' = .returned (.slice none 0 0) ∧ w' = w)
    (k1 : ∀ (n : Nat) w, 0 < n → n ≤ lim → Calls P fid #[.slice none 0 0, .int .i64 n] w fun e' w' => e' = .returned (.slice (some ⟨w.heap.size, 0, none⟩) 0 (grownCap w n 0 e)) ∧
      w' = w.drew.alloc (.cells (Builtin.zeroCells z.cells n ++ Builtin.zeroCells z.cells (grownCap w n 0 e - n)) e)) :
    Calls P fid #[.slice none 0 0, .int .i64 a] w fun e' w' => ∃ v n c, e' = .returned v ∧ St H w H w' [.row e k v n c] ∧ ∀ G, Els G En k c [] := by
  obtain ⟨n, rfl⟩ := Int.eq_ofNat_of_zero_le h0
  rcases Nat.eq_zero_or_pos n with rfl | hn
  · refine (k0 w).mono ?_
    rintro _ _ ⟨rfl, rfl⟩
    exact ⟨_, _, _, rfl, (St.init hs).nil e k, fun _ => .nil⟩
  · have hl' : n ≤ lim := by omega
    refine (k1 n w hn hl').mono ?_
    rintro _ _ ⟨rfl, rfl⟩
    have hd := (St.init hs).call (run_drew hs)
    have hge := grownCap_ge w n 0 e
    refine ⟨_, 0, [], rfl, hd.push (.row e k (.slice (some ⟨w.heap.size, 0, none⟩) 0 (grownCap w n 0 e)) 0 []) _ ⟨⟨by simp, .inr ⟨w.heap.size, _, _, rfl, Nat.le_refl _, heap_alloc_new w.drew _, Nat.zero_le _, ?_, ?_, by simp⟩⟩, by simp⟩ ?_, fun _ => .nil⟩
    · exact grownCap_le_maxLen w n 0 e (by unfold lim at hl'; simp only [maxLen]; omega)
    · rw [Array.size_append, size_zeroCells, size_zeroCells, te.zs, ← Nat.add_mul]; congr 1; omega
    · intro b hb; simpa [MO.blk, Value.ownBlock] using hb.symm
end Go.Mr
namespace Go.Mr
open Go.RowKit Go.Pu
/-- cells that may be written -/
def okO : Obj → Bool
  | .cells _ _ fr => fr == (0, 0)
  | _ => false
/-- the ghost heap from block B on: what may be written -/
def up (B : Nat) (H : GH) : GH := fun b => if b < B then none else (H b).filter okO
theorem up_iff {B : Nat} {H : GH} {b : Nat} {o : Obj} : up B H b = some o ↔ B ≤ b ∧ H b = some o ∧ okO o = true := by
  unfold up
  split
  · exact ⟨nofun, fun h => by omega⟩
  · rename_i hlt
    rw [Option.filter_eq_some_iff]
    exact ⟨fun h => ⟨by omega, h.1, h.2⟩, fun h => ⟨h.2.1, h.2.2⟩⟩
theorem upI {B : Nat} {H : GH} : Inc (up B H) H := fun _ _ h => (up_iff.1 h).2.1
theorem up_mono {B : Nat} {H H' : GH} (h : Inc H H') : Inc (up B H) (up B H') := fun b o hb => by
  rw [up_iff] at *; exact ⟨hb.1, h b o hb.2.1, hb.2.2⟩
theorem up_le {B B' : Nat} {H : GH} (h : B ≤ B') : Inc (up B' H) (up B H) := fun b o hb => by
  rw [up_iff] at *; exact ⟨Nat.le_trans h hb.1, hb.2⟩
/-- blocks that are not in H yet -/
def New (H : GH) (cs : List Value) : Prop := ∀ b ∈ bl cs, H b = none
theorem New.anti {H H' : GH} {cs : List Value} (h : New H' cs) (hi : Inc H H') : New H cs := fun b hb => by
  cases hh : H b with
  | none => rfl
  | some o => have := hi b o hh; rw [h b hb] at this; cases this
theorem New.nil {H : GH} : New H [] := fun _ h => by cases h
theorem New.app {H : GH} {a b : List Value} (h1 : New H a) (h2 : New H b) : New H (a ++ b) := fun c hc => by
  rw [bl_app] at hc
  rcases List.mem_append.1 hc with h | h
  · exact h1 c h
  · exact h2 c h
section
variable {P : Program} {w w' : World} {H0 H H' : GH} {w0 : World} {l : List MO} {e k n : Nat} {v : Value} {A : Type} {En : Enc A}
theorem Els.dom {cells : List Value} {xs : List A} (h : Els H En k cells xs) : ∀ b ∈ bl cells, H b ≠ none := by
  induction h with
  | nil => intro b hb; cases hb
  | snoc _ _ hx ih =>
    intro b hb
    rw [bl_app] at hb
    rcases List.mem_append.1 hb with h | h
    · exact ih b h
    · exact En.dom hx b h
/-- cells put behind others, whose blocks were there already -/
theorem nd_app {a b : List Value} (ha : (bl a).Nodup) (hb : (bl b).Nodup) (hd : ∀ x ∈ bl a, H x ≠ none) (hn : New H b) : (bl (a ++ b)).Nodup := by
  rw [bl_app]
  exact List.nodup_append.2 ⟨ha, hb, fun x hx y hy e => hd x hx (e ▸ hn y hy)⟩
theorem nd_one (v : Value) : (bl [v]).Nodup := by
  unfold bl
  cases h : neb v <;> simp [h]
/-- one element's cells put in the place of others -/
theorem nd_put {a b : List Value} {i j : Nat} (hij : i ≤ j) (ha : (bl a).Nodup) (hb : (bl b).Nodup) (hd : ∀ x ∈ bl a, H x ≠ none) (hn : New H b) : (bl (a.take i ++ b ++ a.drop j)).Nodup := by
  have h1 : (bl (a ++ b)).Nodup := nd_app ha hb hd hn
  have h2 : (bl (a.take i ++ a.drop j ++ b)).Nodup := by
    have hs : (a.take i ++ a.drop j).Sublist a := by
      have := (List.Sublist.refl (a.take i)).append (List.drop_sublist_drop_left a hij)
      rwa [List.take_append_drop] at this
    have hs2 : (bl (a.take i ++ a.drop j ++ b)).Sublist (bl (a ++ b)) := (hs.append (List.Sublist.refl b)).filterMap neb
    exact h1.sublist hs2
  have hp : (bl (a.take i ++ b ++ a.drop j)).Perm (bl (a.take i ++ a.drop j ++ b)) := by
    unfold bl
    refine List.Perm.filterMap neb ?_
    rw [List.append_assoc, List.append_assoc]
    exact List.Perm.append_left _ List.perm_append_comm
  exact hp.nodup_iff.2 h2
/-- a row sealed: fresh, in a block that is new -/
theorem St.sealRowU {xs : List A} (h : St H0 w0 H w l) {i : Nat} {cells : List Value} {l' : List MO} (hi : l[i]? = some (.row e k v n cells)) (he : Els (up w0.heap.size H) En k cells xs) (hk : 0 < k) (hl : l.eraseIdx i = l') :
    ∃ H1, St H0 w0 H1 w l' ∧ Inc H H1 ∧ RSl (up w0.heap.size H1) En k v xs ∧ New H [v] := by
  obtain ⟨H1, h1, h2, h3⟩ := h.sealRow hi (he.mono upI) hk hl
  refine ⟨H1, h1, h2, ?_, fun b hb => ?_⟩
  · obtain ⟨a, cap, rfl, g1, g2⟩ := h3
    refine ⟨a, cap, rfl, g1, fun j x hx => ?_⟩
    obtain ⟨p, cs, rfl, g4, ⟨arr, t, fr, g5, g6⟩, _⟩ := g2 j x hx
    obtain ⟨c, q1, q2, q3⟩ := he.get _ _ hx
    obtain ⟨⟨k1, k2⟩, _⟩ := h.ok i _ hi
    rcases k2 with ⟨hv, _⟩ | ⟨g, cap', cur, hv, hg, hh, hle, hcm, hsz, htk⟩
    · cases hv
    · cases hv
      refine ⟨_, c, rfl, q1, ⟨arr, t, fr, ?_, g6.1, fun m u hu => ?_⟩, En.mono (up_mono h2) q2⟩
      · have hnow := h1.sl _ _ g5
        rw [Addr.add_lit] at g5 hnow ⊢
        simp only at g5 hnow ⊢
        rw [hh] at hnow
        cases hnow
        exact up_iff.2 ⟨hg, g5, rfl⟩
      · have h4 := q3 m u hu
        rw [Addr.add_lit] at g5
        have hnow := h1.sl _ _ g5
        simp only at hnow
        rw [hh] at hnow
        cases hnow
        rw [← htk, List.getElem?_take] at h4
        split at h4
        · rw [Addr.add_lit]; simpa using h4
        · cases h4
  · obtain ⟨u, hu, hn⟩ := mem_bl hb
    simp only [List.mem_singleton] at hu
    subst hu
    refine h.out i _ b hi ?_
    cases u <;> simp only [neb] at hn <;> try (cases hn)
    rename_i a m c
    cases a with
    | none => cases hn
    | some a =>
      simp only at hn
      split at hn
      · cases hn
      · exact hn
/-- what a call made is new for the caller -/
theorem New.of_up (hs : Sl H w) {cs : List Value} (hd : ∀ b ∈ bl cs, up w.heap.size H' b ≠ none) : New H cs := fun b hb => by
  cases hh : H b with
  | none => rfl
  | some o =>
    have h1 := (Array.getElem?_eq_some_iff.1 (hs b o hh)).1
    have := hd b hb
    unfold up at this
    rw [if_pos h1] at this
    exact absurd rfl this
/-- the ghost heap below B, and what was made above it -/
def over (B : Nat) (H H' : GH) : GH := fun b => if b < B then H b else (H' b).filter still
theorem okO_cells {o : Obj} (h : okO o = true) : still o = true := by cases o <;> first | rfl | cases h
theorem over_ge {B : Nat} {H H' : GH} {b : Nat} {o : Obj} (hb : B ≤ b) : over B H H' b = some o ↔ H' b = some o ∧ still o = true := by
  unfold over; rw [if_neg (by omega), Option.filter_eq_some_iff]
theorem over_up {B : Nat} {H H' : GH} : Inc (up B H') (over B H H') := fun b o h => by
  have h := up_iff.1 h
  exact (over_ge h.1).2 ⟨h.2.1, okO_cells h.2.2⟩
theorem Run.lendM {Hl : GH} (_hi : Inc H Hl) (hs : Sl H w) (hr : Run w.heap.size Hl w H' w') : Run w.heap.size H w (over w.heap.size H H') w' := by
  refine ⟨hr.bel, fun b hb => by unfold over; rw [if_pos hb], fun b o hb => ?_, fun b o hb => ?_, hr.drw, fun b o hb => ?_⟩
  · by_cases hlt : b < w.heap.size
    · unfold over at hb; rw [if_pos hlt] at hb
      rw [hr.bel.block b hlt]; exact hs b o hb
    · exact hr.sl b o ((over_ge (by omega)).1 hb).1
  · have hlt := (Array.getElem?_eq_some_iff.1 (hs b o hb)).1
    unfold over; rw [if_pos hlt]; exact hb
  · by_cases hlt : b < w.heap.size
    · unfold over at hb; rw [if_pos hlt] at hb; exact .inl hb
    · exact .inr ((over_ge (by omega)).1 hb).2
theorem St.lendM {Hl : GH} {lo : List MO} (hi : Inc H Hl) (hs : Sl H w) (hr : St Hl w H' w' lo) : St H w (over w.heap.size H H') w' lo := by
  refine ⟨Run.lendM hi hs hr.run, hr.ok, fun i o b hi' hb => ?_, hr.dis⟩
  have := ((hr.ok i o hi').lt b hb).1
  unfold over
  rw [if_neg (by omega), hr.out i o b hi' hb]; rfl
theorem up_over {B : Nat} {H H' : GH} : Inc (up B H') (up B (over B H H')) := fun b o h => by
  have h := up_iff.1 h
  exact up_iff.2 ⟨h.1, (over_ge h.1).2 ⟨h.2.1, okO_cells h.2.2⟩, h.2.2⟩
theorem Run.lendX {Hl : GH} (hi : Inc H Hl) (hs : Sl H w) (hr : Run w.heap.size Hl w H' w') : ∃ Hm, Run w.heap.size H w Hm w' ∧ Inc (up w.heap.size H') (up w.heap.size Hm) :=
  ⟨_, Run.lendM hi hs hr, up_over⟩
theorem St.lendX {Hl : GH} {lo : List MO} (hi : Inc H Hl) (hs : Sl H w) (hr : St Hl w H' w' lo) : ∃ Hm, St H w Hm w' lo ∧ Inc (up w.heap.size H') (up w.heap.size Hm) :=
  ⟨_, St.lendM hi hs hr, up_over⟩
theorem Els.any {cells : List Value} {xs : List A} (h : Els H En k cells xs) (hE : ∀ (H H' : GH) cs x, En.rel H cs x → En.rel H' cs x) : Els H' En k cells xs := by
  induction h with
  | nil => exact .nil
  | snoc _ hc hx ih => exact .snoc ih hc (hE _ _ _ _ hx)
end
end Go.Mr
namespace Go.Mr
open Go.RowKit Go.Pu
section
variable {P : Program} {w w' : World} {H0 H H' : GH} {w0 : World} {l : List MO} {e k n t : Nat} {v u : Value} {A : Type} {En : Enc A}
/-- the ghost heap with another object at b -/
def gset (H : GH) (b : Nat) (o : Obj) : GH := fun c => if c = b then some o else H c
/-- one cell of a fresh block is written -/
theorem St.poke (h : St H0 w0 H w l) (hs0 : Sl H0 w0) {b : Nat} {arr : Array Value} {fr : Nat × Nat} (hb : up w0.heap.size H b = some (.cells arr e fr)) {j : Nat} (hj : j < arr.size) (ts : ∀ w, (sizeOf t).run P w = .ok 1 w) (hu : u.cells = #[u]) (h1 : u.oneCell' = true) :
    ∃ w1 arr', (Instr.storeAt t (.pointer (some ⟨b, j, Option.none⟩)) u).run P w = .ok () w1 ∧ St H0 w0 (gset H b (.cells arr' e (0, 0))) w1 l ∧
      fr = (0, 0) ∧ arr' = arr.set j u hj := by
  obtain ⟨hB, hH, hok⟩ := up_iff.1 hb
  have hfr : fr = (0, 0) := by simpa [okO] using hok
  subst hfr
  have hw := h.sl b _ hH
  have hst := run_storeCells_at P b j e [u] 0 arr w hw (by simp; omega) (by simpa using h1)
  simp only [Nat.add_zero, List.length_singleton] at hst
  have harr : (List.take j arr.toList ++ [u] ++ List.drop (j + 1) arr.toList).toArray = arr.set j u hj := by
    apply Array.ext'
    simp [List.set_eq_take_append_cons_drop, hj]
  rw [harr] at hst
  refine ⟨w.setRow b (arr.set j u hj), arr.set j u hj, ?_, ?_, rfl, rfl⟩
  · simp [Instr.storeAt, Instr.sureAddr, storeVar, ts, hu, hst]
  · have hg := grownBy_setRow w b (arr.set j u hj)
    have hnb : ∀ (i : Nat) (o : MO), l[i]? = some o → o.blk ≠ some b := fun i o hi e => by
      have := h.out i o b hi e; rw [hH] at this; cases this
    have hbs : b < w.heap.size := (Array.getElem?_eq_some_iff.1 hw).1
    refine ⟨⟨h.run.bel.grown hg h.size (fun c hc => by cases hc; exact hB), fun c hc => ?_, fun c o hc => ?_, fun c o hc => ?_, Nat.le_trans h.run.drw (Nat.le_refl _), fun c o hc => ?_⟩, fun i o hi => (h.ok i o hi).kept hg.size fun c hc => ?_, fun i o c hi hc => ?_, h.dis⟩
    · unfold gset; rw [if_neg (by omega)]; exact h.run.agr c hc
    · unfold gset at hc
      split at hc
      · rename_i he; subst he; cases hc; exact setRow_heap w c _ _ _ _ hw
      · rename_i hne
        have := h.sl c o hc
        rw [hg.block c (Array.getElem?_eq_some_iff.1 this).1 (by simpa using hne)]; exact this
    · have hlt : c < w0.heap.size := (Array.getElem?_eq_some_iff.1 (hs0 c o hc)).1
      unfold gset; rw [if_neg (by omega)]; exact h.inc c o hc
    · unfold gset at hc
      split at hc
      · cases hc; exact .inr rfl
      · exact h.run.cel c o hc
    · exact hg.block c ((h.ok i o hi).lt c hc).2 (fun e => hnb i o hi (by rw [hc, e]))
    · unfold gset
      rw [if_neg (fun e => hnb i o hi (by rw [hc, e]))]
      exact h.out i o c hi hc
/-- one element of a fresh slice of plain elements is written -/
theorem St.pokeEl (h : St H0 w0 H w l) (hs0 : Sl H0 w0) {xs ys : List A} (r : RSl (up w0.heap.size H) En 1 v xs) (hE : ∀ (H H' : GH) cs x, En.rel H cs x → En.rel H' cs x) {i : Int} {x : A} (hput : put xs i x = some ys)
    {p : Addr} (hp : PtrOf 1 v i p) (ts : ∀ w, (sizeOf t).run P w = .ok 1 w) (hu : u.cells = #[u]) (h1 : u.oneCell' = true) (hx : En.rel H [u] x) :
    ∃ w1 H1, (Instr.storeAt t (.pointer (some p)) u).run P w = .ok () w1 ∧ St H0 w0 H1 w1 l ∧ RSl (up w0.heap.size H1) En 1 v ys ∧ ∀ b, b ∉ bl [v] → H1 b = H b := by
  obtain ⟨h0, h2, rfl⟩ := put_some hput
  obtain ⟨a, cap, rfl, g1, g2⟩ := r
  obtain ⟨a', len, cap', hv, _, hlt, rfl⟩ := hp
  cases hv
  have hi : i.toNat < xs.length := by omega
  obtain ⟨p', cs, hp', g3, ⟨arr, e, fr, g4, g5, g6⟩, g7⟩ := g2 i.toNat xs[i.toNat] (by simp [hi])
  cases hp'
  rw [Nat.mul_one] at g4 g5 g6
  have hblk : (a'.add i.toNat).block = a'.block := by unfold Addr.add; split <;> rfl
  match cs, g3 with
  | [c0], _ =>
    have hin := g6 0 c0 rfl
    rw [Nat.add_zero] at hin
    have hj : (a'.add i.toNat).off < arr.size := (Array.getElem?_eq_some_iff.1 hin).1
    obtain ⟨w1, arr', q1, q2, q3, q4⟩ := h.poke hs0 (P := P) (t := t) (u := u) g4 hj ts hu h1
    have hpe : (⟨(a'.add i.toNat).block, (a'.add i.toNat).off, Option.none⟩ : Addr) = a'.add (i.toNat * 1) := by
      rw [Nat.mul_one, ← g5]
    rw [hpe] at q1
    rw [hblk] at q2
    refine ⟨w1, _, q1, q2, ?_, fun b hb => ?_⟩
    · refine ⟨some a', cap, by simp, by simpa using g1, fun m y hy => ?_⟩
      have hm : m < xs.length := by have := (List.getElem?_eq_some_iff.1 hy).1; simpa using this
      obtain ⟨p', cs', hp', k3, ⟨arr2, e2, fr2, k4, k5, k6⟩, k7⟩ := g2 m xs[m] (by simp [hm])
      cases hp'
      rw [Nat.mul_one] at k4 k5 k6
      have hblk2 : (a'.add m).block = a'.block := by unfold Addr.add; split <;> rfl
      rw [hblk2] at k4
      rw [hblk] at g4
      rw [g4] at k4
      cases k4
      have hB := (up_iff.1 g4).1
      have hnew : up w0.heap.size (gset H a'.block (.cells arr' e (0, 0))) a'.block = some (.cells arr' e (0, 0)) := up_iff.2 ⟨hB, by simp [gset], rfl⟩
      by_cases hmi : m = i.toNat
      · subst hmi
        rw [List.getElem?_set_self hi] at hy
        cases hy
        refine ⟨a', [u], rfl, rfl, ⟨arr', e, (0, 0), ?_, ?_, fun j c hc => ?_⟩, hE _ _ _ _ hx⟩
        · rw [Nat.mul_one, hblk2]; exact hnew
        · rw [Nat.mul_one]; exact k5
        · rw [Nat.mul_one]
          cases j with
          | zero => simp at hc; subst hc; rw [q4]; simp
          | succ j => simp at hc
      · rw [List.getElem?_set_ne (Ne.symm hmi)] at hy
        simp [hm] at hy
        subst hy
        refine ⟨a', cs', rfl, k3, ⟨arr', e, (0, 0), ?_, ?_, fun j c hc => ?_⟩, hE _ _ _ _ k7⟩
        · rw [Nat.mul_one, hblk2]; exact hnew
        · rw [Nat.mul_one]; exact k5
        · rw [Nat.mul_one]
          have hc' := k6 j c hc
          have hj0 : j = 0 := by have := (List.getElem?_eq_some_iff.1 hc).1; omega
          subst hj0
          rw [q4, Array.getElem?_set]
          split
          · rename_i he
            exfalso
            apply hmi
            have off : ∀ q : Nat, (a'.add q).off = if q = 0 then a'.off else a'.off + q := fun q => by unfold Addr.add; split <;> rfl
            rw [off, off] at he
            split at he <;> split at he <;> omega
          · exact hc'
    · unfold gset
      split
      · rename_i he
        exfalso
        apply hb
        rw [he]
        refine mem_bl1 ?_
        simp only [neb]
        rw [if_neg (by omega)]
      · rfl
/-- nested data: the cells c of the slice v, the slices among them in blocks of their own -/
def Nest {A : Type} (G : GH) (En : Enc A) (k : Nat) (v : Value) (xs : List A) (c : List Value) : Prop :=
  RSl G En k v xs ∧ Els G En k c xs ∧ (∀ a len cap, v = .slice (some a) len cap → xs ≠ [] → CAt G a c) ∧ (bl c).Nodup ∧ ∀ b ∈ bl [v], b ∉ bl c
theorem St.sealRowN {xs : List A} (h : St H0 w0 H w l) {i : Nat} {cells : List Value} {l' : List MO} (hi : l[i]? = some (.row e k v n cells)) (he : Els (up w0.heap.size H) En k cells xs) (nd : (bl cells).Nodup) (hk : 0 < k) (hl : l.eraseIdx i = l') :
    ∃ H1, St H0 w0 H1 w l' ∧ Inc H H1 ∧ Nest (up w0.heap.size H1) En k v xs cells ∧ New H [v] := by
  obtain ⟨H1, h1, h2, h3, h4⟩ := h.sealRowU hi he hk hl
  refine ⟨H1, h1, h2, ⟨h3, he.mono (up_mono h2), ?_, nd, fun b hb hc => ?_⟩, h4⟩
  · rintro a len cap rfl hne
    obtain ⟨x, hx⟩ : ∃ x, xs[0]? = some x := by
      cases xs with
      | nil => exact absurd rfl hne
      | cons x xs => exact ⟨x, rfl⟩
    obtain ⟨a', cap', hv, _, g2⟩ := h3
    cases hv
    obtain ⟨p, cs, hp, _, ⟨arr, t, fr, g4, g5, _⟩, _⟩ := g2 0 x hx
    cases hp
    rw [Nat.zero_mul, Addr.add_zero'] at g4 g5
    obtain ⟨⟨k1, k2⟩, _⟩ := h.ok i _ hi
    rcases k2 with ⟨hv, _⟩ | ⟨g, cap', cur, hv, hg, hh, hle, hcm, hsz, htk⟩
    · cases hv
    · cases hv
      have hnow := h1.sl _ _ (upI _ _ g4)
      simp only at hnow
      rw [hh] at hnow
      cases hnow
      refine ⟨_, _, _, g4, rfl, fun j c hc => ?_⟩
      rw [← htk, List.getElem?_take] at hc
      split at hc
      · simpa using hc
      · cases hc
  · have := h4 b hb
    exact Els.dom (he.mono upI) b hc this
theorem RSl.only {G G' : GH} {xs : List A} (r : RSl G En k v xs) (hE : ∀ (H H' : GH) cs x, En.rel H cs x → En.rel H' cs x) (h : ∀ b ∈ bl [v], G' b = G b) : RSl G' En k v xs := by
  obtain ⟨a, cap, rfl, g1, g2⟩ := r
  refine ⟨a, cap, rfl, g1, fun i x hx => ?_⟩
  obtain ⟨p, cs, rfl, g3, ⟨arr, e, fr, g4, g5⟩, g6⟩ := g2 i x hx
  refine ⟨p, cs, rfl, g3, ⟨arr, e, fr, ?_, g5⟩, hE _ _ _ _ g6⟩
  have hb : (p.add (i * k)).block = p.block := by unfold Addr.add; split <;> rfl
  rw [hb] at g4 ⊢
  rw [h p.block ?_]
  · exact g4
  · refine mem_bl1 ?_
    have : 0 < xs.length := Nat.lt_of_le_of_lt (Nat.zero_le _) (List.getElem?_eq_some_iff.1 hx).1
    simp only [neb]
    rw [if_neg (by omega)]
theorem els1_mk {G : GH} : ∀ (c : List Value) (xs : List A), c.length = xs.length → (∀ (j : Nat) u x, c[j]? = some u → xs[j]? = some x → En.rel G [u] x) → Els G En 1 c xs := by
  intro c
  rw [← List.reverse_reverse c]
  generalize c.reverse = d
  induction d with
  | nil => intro xs hl _; have : xs = [] := List.eq_nil_of_length_eq_zero (by simpa using hl.symm); subst this; exact .nil
  | cons u d ih =>
    intro xs hl h
    rw [List.reverse_cons] at hl h ⊢
    rcases List.eq_nil_or_concat xs with rfl | ⟨ys, y, rfl⟩
    · simp at hl
    · have hl' : d.reverse.length = ys.length := by simpa using hl
      rw [List.concat_eq_append] at h ⊢
      refine .snoc (ih ys hl' fun j u' x hu hx => h j u' x ?_ ?_) rfl (h d.reverse.length u y ?_ ?_)
      · rw [List.getElem?_append_left (List.getElem?_eq_some_iff.1 hu).1]; exact hu
      · rw [List.getElem?_append_left (List.getElem?_eq_some_iff.1 hx).1]; exact hx
      · simp
      · rw [hl']; simp
theorem bl_get {c : List Value} {i : Nat} {u : Value} (h : c[i]? = some u) : ∀ b ∈ bl [u], b ∈ bl c := fun b hb => by
  obtain ⟨u', hu, hn⟩ := mem_bl hb
  simp only [List.mem_singleton] at hu
  subst hu
  exact List.mem_filterMap.2 ⟨u', List.mem_of_getElem? h, hn⟩
/-- two cells of different places do not share a block -/
theorem bl_apart : ∀ {c : List Value} {i j : Nat} {u u' : Value}, (bl c).Nodup → c[i]? = some u → c[j]? = some u' → i < j → ∀ b ∈ bl [u], b ∉ bl [u'] := by
  intro c
  induction c with
  | nil => intro i j u u' _ h; simp at h
  | cons x c ih =>
    intro i j u u' nd hi hj hij b hb hb'
    have nd' : (bl [x] ++ bl c).Nodup := by rw [← bl_app]; exact nd
    rw [List.nodup_append] at nd'
    cases j with
    | zero => omega
    | succ j =>
      cases i with
      | zero => simp at hi; subst hi; exact nd'.2.2 b hb b (bl_get (by simpa using hj) b hb') rfl
      | succ i => exact ih nd'.2.1 (by simpa using hi) (by simpa using hj) (by omega) b hb hb'
theorem bl_apart' {c : List Value} {i j : Nat} {u u' : Value} (nd : (bl c).Nodup) (hi : c[i]? = some u) (hj : c[j]? = some u') (hij : i ≠ j) : ∀ b ∈ bl [u'], b ∉ bl [u] := fun b hb hb' => by
  rcases Nat.lt_or_gt_of_ne hij with h | h
  · exact bl_apart nd hi hj h b hb' hb
  · exact bl_apart nd hj hi h b hb hb'
theorem up_same {B : Nat} {H H' : GH} {b : Nat} (h : H' b = H b) : up B H' b = up B H b := by unfold up; rw [h]
/-- one of the inner slices is written -/
theorem Nest.step {B : Nat} {k' : Nat} {xs : List (List A)} {c : List Value} (h : Nest (up B H) (eL En k') 1 v xs c) (hE : ∀ (H H' : GH) cs x, En.rel H cs x → En.rel H' cs x) {i : Nat} {vi : Value} {yi : List A}
    (hc : c[i]? = some vi) (hi : i < xs.length) (hr : RSl (up B H') En k' vi yi) (hH : ∀ b, b ∉ bl [vi] → H' b = H b) : Nest (up B H') (eL En k') 1 v (xs.set i yi) c := by
  obtain ⟨h1, h2, h3, h4, h5⟩ := h
  have hlen := h2.length
  rw [Nat.mul_one] at hlen
  have keep : ∀ (j : Nat) u x, j ≠ i → c[j]? = some u → xs[j]? = some x → (eL En k').rel (up B H') [u] x := fun j u x hne hu hx => by
    obtain ⟨c0, q1, q2⟩ := els1_some h2 hx
    rw [hu] at q1
    cases q1
    obtain ⟨u', he, hR⟩ := eL_open q2
    cases he
    exact ⟨_, rfl, hR.only hE fun b hb => up_same (hH b (bl_apart' h4 hc hu (Ne.symm hne) b hb))⟩
  have hout : ∀ b ∈ bl [v], H' b = H b := fun b hb => hH b fun hb' => h5 b hb (bl_get hc b hb')
  have hE2 : Els (up B H') (eL En k') 1 c (xs.set i yi) := by
    refine els1_mk c _ (by simpa using hlen) fun j u x hu hx => ?_
    by_cases hji : j = i
    · subst hji
      rw [hc] at hu; cases hu
      rw [List.getElem?_set_self hi] at hx
      cases hx
      exact ⟨_, rfl, hr⟩
    · rw [List.getElem?_set_ne (Ne.symm hji)] at hx
      exact keep j u x hji hu hx
  have hC : ∀ a len cap, v = .slice (some a) len cap → xs.set i yi ≠ [] → CAt (up B H') a c := by
    intro a len cap hv hne
    have hne' : xs ≠ [] := by intro e; subst e; simp at hi
    obtain ⟨arr, e, fr, g4, g5⟩ := h3 a len cap hv hne'
    refine ⟨arr, e, fr, ?_, g5⟩
    subst hv
    rw [up_same (hout a.block ?_)]; exact g4
    obtain ⟨_, _, hv, _⟩ := h1
    cases hv
    exact mem_bl1 (by simp only [neb]; rw [if_neg (by omega)])
  refine ⟨?_, hE2, hC, h4, h5⟩
  obtain ⟨a, cap, rfl, g1, g2⟩ := h1
  refine ⟨a, cap, by simp, by simpa using g1, fun j x hx => ?_⟩
  have hj : j < xs.length := by have := (List.getElem?_eq_some_iff.1 hx).1; simpa using this
  obtain ⟨p, cs, rfl, _⟩ := g2 j xs[j] (by simp [hj])
  obtain ⟨u, q1, q2⟩ := els1_some hE2 hx
  obtain ⟨arr, e, fr, g4, g5, g6⟩ := hC p _ _ rfl (by intro e; rw [e] at hx; simp at hx)
  have hb : (p.add (j * 1)).block = p.block := by unfold Addr.add; split <;> rfl
  have ho : (p.add (j * 1)).off = p.off + j := by unfold Addr.add; split <;> simp_all
  refine ⟨p, [u], rfl, rfl, ⟨arr, e, fr, by rw [hb]; exact g4, by unfold Addr.add; split <;> simp_all, fun m z hz => ?_⟩, q2⟩
  cases m with
  | zero => simp at hz; subst hz; rw [ho]; exact g6 j u q1
  | succ m => simp at hz
end
end Go.Mr
namespace Go.Mr
open Go.RowKit Go.Pu
section
variable {P : Program} {w w' : World} {H0 H H' Hs : GH} {w0 : World} {l : List MO} {t e k : Nat} {v u : Value} {A : Type} {En : Enc A} {B lo hi : Nat}
/-- what is fresh, in a span of blocks -/
def sg (lo hi : Nat) (H : GH) : GH := fun b => if b < hi then up lo H b else none
theorem sg_iff {b : Nat} {o : Obj} : sg lo hi H b = some o ↔ lo ≤ b ∧ b < hi ∧ H b = some o ∧ okO o = true := by
  unfold sg
  split
  · rename_i h; rw [up_iff]; constructor
    · rintro ⟨a, b, c⟩; exact ⟨a, h, b, c⟩
    · rintro ⟨a, _, b, c⟩; exact ⟨a, b, c⟩
  · rename_i h; constructor
    · nofun
    · rintro ⟨_, a, _⟩; exact absurd a h
theorem sgI : Inc (sg lo hi H) H := fun _ _ h => (sg_iff.1 h).2.2.1
theorem sg_up {lo' : Nat} (h : lo' ≤ lo) (hi' : Inc H H') : Inc (sg lo hi H) (up lo' H') := fun b o hb => by
  obtain ⟨a, b, c, d⟩ := sg_iff.1 hb
  exact up_iff.2 ⟨by omega, hi' _ _ c, d⟩
theorem sg_of (h : Sl H w) : Inc (up lo H) (sg lo w.heap.size H) := fun b o hb => by
  obtain ⟨a, c, d⟩ := up_iff.1 hb
  exact sg_iff.2 ⟨a, (Array.getElem?_eq_some_iff.1 (h _ _ c)).1, c, d⟩
theorem sg_mono (h : Inc H H') : Inc (sg lo hi H) (sg lo hi H') := fun b o hb => by
  obtain ⟨a, b, c, d⟩ := sg_iff.1 hb
  exact sg_iff.2 ⟨a, b, h _ _ c, d⟩
theorem sg_keep {lo' hi' : Nat} (h : ∀ b, b < lo' ∨ hi' ≤ b → ∀ o, H b = some o → H' b = some o) (ho : hi ≤ lo' ∨ hi' ≤ lo) : Inc (sg lo hi H) (sg lo hi H') := fun b o hb => by
  obtain ⟨a, b, c, d⟩ := sg_iff.1 hb
  exact sg_iff.2 ⟨a, b, h _ (by omega) _ c, d⟩
/-- what is said of a datum rests on the blocks of its slices alone -/
def LocE (En : Enc A) : Prop := ∀ (H H' : GH) cs x, En.rel H cs x → (∀ b ∈ bl cs, H' b = H b) → En.rel H' cs x
/-- no memory in it -/
def FlatE (En : Enc A) : Prop := ∀ (H H' : GH) cs x, En.rel H cs x → En.rel H' cs x ∧ bl cs = []
theorem FlatE.loc (h : FlatE En) : LocE En := fun H H' cs x hr _ => (h H H' cs x hr).1
theorem FlatE.rel (h : FlatE En) (H H' : GH) (cs : List Value) (x : A) : En.rel H cs x → En.rel H' cs x := fun hr => (h H H' cs x hr).1
theorem eI_flat : FlatE eI := by rintro H H' cs x rfl; exact ⟨rfl, rfl⟩
theorem eB_flat : FlatE eB := by rintro H H' cs x rfl; exact ⟨rfl, rfl⟩
theorem eS_flat : FlatE eS := by rintro H H' cs x rfl; exact ⟨rfl, rfl⟩
theorem eL_loc (h : FlatE En) : LocE (eL En k) := by
  rintro H H' cs x ⟨v, rfl, hr⟩ hb
  exact ⟨v, rfl, hr.only h.rel hb⟩
theorem Nest.mono {G G' : GH} {xs : List A} {c : List Value} (h : Nest G En k v xs c) (hi : Inc G G') : Nest G' En k v xs c :=
  ⟨h.1.mono hi, h.2.1.mono hi, fun a len cap hv hne => (h.2.2.1 a len cap hv hne).mono hi, h.2.2.2⟩
theorem Nest.rsl {G : GH} {xs : List A} {c : List Value} (h : Nest G En k v xs c) : RSl G En k v xs := h.1
theorem Nest.dom {G : GH} {xs : List A} {c : List Value} (h : Nest G En k v xs c) : ∀ b, b ∈ bl [v] ∨ b ∈ bl c → G b ≠ none := fun b hb => by
  rcases hb with hb | hb
  · exact h.1.dom b hb
  · exact h.2.1.dom b hb
theorem bl_sub {c : List Value} {i j : Nat} : ∀ b ∈ bl ((c.drop i).take j), b ∈ bl c := fun b hb => by
  obtain ⟨u, hu, hn⟩ := mem_bl hb
  exact List.mem_filterMap.2 ⟨u, List.mem_of_mem_drop (List.mem_of_mem_take hu), hn⟩
theorem Els.at {G : GH} {xs : List A} {c : List Value} (h : Els G En k c xs) {i : Nat} {x : A} (hx : xs[i]? = some x) : ((c.drop (i * k)).take k).length = k ∧ En.rel G ((c.drop (i * k)).take k) x := by
  obtain ⟨ci, h1, h2, h3⟩ := h.get i x hx
  have e : (c.drop (i * k)).take k = ci := by
    apply List.ext_getElem?
    intro j
    by_cases hj : j < k
    · rw [List.getElem?_take_of_lt hj, List.getElem?_drop]
      have : j < ci.length := by omega
      rw [h3 j ci[j] (by simp [this])]; simp [this]
    · rw [List.getElem?_eq_none (by simp; omega), List.getElem?_eq_none (by omega)]
  rw [e]; exact ⟨h1, h2⟩
theorem Els.mk' {G : GH} : ∀ (xs : List A) (c : List Value), c.length = xs.length * k → (∀ (i : Nat) x, xs[i]? = some x → En.rel G ((c.drop (i * k)).take k) x) → Els G En k c xs := by
  intro xs
  rw [← List.reverse_reverse xs]
  generalize xs.reverse = d
  induction d with
  | nil => intro c hl _; simp at hl; subst hl; exact .nil
  | cons x d ih =>
    intro c hl h
    rw [List.reverse_cons] at hl h ⊢
    have hl' : c.length = d.reverse.length * k + k := by rw [hl, List.length_append, Nat.add_mul]; simp
    have hc : c = c.take (d.reverse.length * k) ++ c.drop (d.reverse.length * k) := (List.take_append_drop _ _).symm
    rw [hc]
    refine .snoc (ih _ (by rw [List.length_take]; omega) fun i y hy => ?_) (by rw [List.length_drop]; omega) ?_
    · have hi : i < d.reverse.length := (List.getElem?_eq_some_iff.1 hy).1
      have := h i y (by rw [List.getElem?_append_left hi]; exact hy)
      have hm : i * k + k ≤ d.reverse.length * k := by rw [show i * k + k = (i + 1) * k by rw [Nat.add_mul, Nat.one_mul]]; exact Nat.mul_le_mul_right _ hi
      rw [List.drop_take, List.take_take, Nat.min_eq_left (by omega)]; exact this
    · have := h d.reverse.length x (by simp)
      rw [List.take_of_length_le (by rw [List.length_drop]; omega)] at this
      exact this
/-- the same datum at a ghost that agrees on its blocks -/
theorem Nest.same {G G' : GH} {xs : List A} {c : List Value} (h : Nest G En k v xs c) (hE : LocE En) (hb : ∀ b, b ∈ bl [v] ∨ b ∈ bl c → G' b = G b) : Nest G' En k v xs c := by
  obtain ⟨h1, h2, h3, h4, h5⟩ := h
  have hE2 : Els G' En k c xs := Els.mk' xs c h2.length fun i x hx => hE G G' _ x (h2.at hx).2 fun b hb' => hb b (.inr (bl_sub b hb'))
  have hC : ∀ a len cap, v = .slice (some a) len cap → xs ≠ [] → CAt G' a c := fun a len cap hv hne => by
    obtain ⟨arr, e, fr, g4, g5⟩ := h3 a len cap hv hne
    refine ⟨arr, e, fr, ?_, g5⟩
    rw [hb a.block (.inl ?_)]; exact g4
    subst hv
    obtain ⟨_, _, hv, _⟩ := h1
    cases hv
    refine mem_bl1 ?_
    have : xs.length ≠ 0 := fun e => hne (List.eq_nil_of_length_eq_zero e)
    simp only [neb]; rw [if_neg this]
  refine ⟨?_, hE2, hC, h4, h5⟩
  obtain ⟨a, cap, rfl, g1, g2⟩ := h1
  refine ⟨a, cap, rfl, g1, fun i x hx => ?_⟩
  obtain ⟨p, cs, rfl, g3, g4, g6⟩ := g2 i x hx
  obtain ⟨arr, e, fr, q1, q2, q3⟩ := hC p _ _ rfl (by intro e; subst e; simp at hx)
  have hat := hE2.at hx
  refine ⟨p, _, rfl, hat.1, ⟨arr, e, fr, ?_, ?_, fun j u hu => ?_⟩, hat.2⟩
  · rw [show (p.add (i * k)).block = p.block by unfold Addr.add; split <;> rfl]; exact q1
  · unfold Addr.add; split
    · exact q2
    · rfl
  · rw [List.getElem?_take] at hu
    split at hu
    · rw [List.getElem?_drop] at hu
      have := q3 _ _ hu
      have ho : (p.add (i * k)).off = p.off + i * k := by unfold Addr.add; split <;> simp_all
      rw [ho, Nat.add_assoc]; exact this
    · cases hu
/-- a round on the element at p: the blocks are what they were at Hs, but for the slices among its cells ci, and for the cells themselves, which are ci' now -/
structure Wr (Hs H : GH) (p : Addr) (ci ci' : List Value) : Prop where
  out : ∀ b, b ≠ p.block → b ∉ bl ci → H b = Hs b
  arr : ∃ arr arr' e, Hs p.block = some (.cells arr e (0, 0)) ∧ H p.block = some (.cells arr' e (0, 0)) ∧ arr'.size = arr.size ∧ (∀ (j : Nat) u, ci'[j]? = some u → arr'[p.off + j]? = some u) ∧
    ∀ j, j < p.off ∨ p.off + ci.length ≤ j → arr'[j]? = arr[j]?
  len : ci'.length = ci.length
  spot : p.spot = none
  blk : bl ci' = bl ci
  own : p.block ∉ bl ci
theorem Wr.now {p : Addr} {ci ci' : List Value} (h : Wr Hs H p ci ci') (hs : Sl H w) : WAt w p ci' := by
  obtain ⟨arr, arr', e, _, h2, _, h4, _⟩ := h.arr
  exact CAt.now ⟨arr', e, (0, 0), h2, h.spot, h4⟩ hs
theorem addr_eta {p : Addr} (h : p.spot = none) (j : Nat) : p.add j = ⟨p.block, p.off + j, none⟩ := by
  unfold Addr.add
  split
  · rename_i h0; subst h0; cases p; simp_all
  · rfl
theorem bl_set {c : List Value} : ∀ {j : Nat} {u0 u : Value}, c[j]? = some u0 → neb u0 = none → neb u = none → bl (c.set j u) = bl c := by
  induction c with
  | nil => intro j u0 u h; simp at h
  | cons x c ih =>
    intro j u0 u h h0 h1
    cases j with
    | zero => simp at h; subst h; simp [bl, h0, h1]
    | succ j =>
      have := ih (j := j) (by simpa using h) h0 h1
      simp only [List.set_cons_succ]
      unfold bl at this ⊢
      rw [List.filterMap_cons, List.filterMap_cons, this]
/-- one cell of the element is written -/
theorem Wr.poke {p : Addr} {ci ci' : List Value} (h : Wr Hs H p ci ci') (S : St H0 w0 H w l) (hs0 : Sl H0 w0) (hB : w0.heap.size ≤ p.block) {j : Nat} {u0 : Value} (hj : ci'[j]? = some u0) (h0 : neb u0 = none) (h1 : neb u = none)
    (ts : ∀ w, (sizeOf t).run P w = .ok 1 w) (hu : u.cells = #[u]) (ho : u.oneCell' = true) {c2 : List Value} (hc2 : ci'.set j u = c2) :
    ∃ w1 H1, (Instr.storeAt t (.pointer (some (p.add j))) u).run P w = .ok () w1 ∧ St H0 w0 H1 w1 l ∧ Wr Hs H1 p ci c2 ∧ ∀ b, b ≠ p.block → H1 b = H b := by
  subst hc2
  obtain ⟨arr, arr', e, a1, a2, a3, a4, a5⟩ := h.arr
  have hin := a4 j u0 hj
  have hjl : j < ci.length := by rw [← h.len]; exact (List.getElem?_eq_some_iff.1 hj).1
  have hlt : p.off + j < arr'.size := (Array.getElem?_eq_some_iff.1 hin).1
  obtain ⟨w1, arr2, q1, q2, q3, q4⟩ := S.poke hs0 (P := P) (t := t) (u := u) (b := p.block) (e := e) (fr := (0, 0)) (up_iff.2 ⟨hB, a2, rfl⟩) hlt ts hu ho
  rw [addr_eta h.spot]
  subst q4
  refine ⟨w1, _, q1, q2, ⟨fun b hb hbc => ?_, ⟨arr, arr'.set (p.off + j) u hlt, e, a1, by simp [gset], by simpa using a3, fun i x hi => ?_, fun i hi => ?_⟩, by simpa using h.len, h.spot, ?_, h.own⟩, fun b hb => by unfold gset; rw [if_neg hb]⟩
  · unfold gset; rw [if_neg hb]; exact h.out b hb hbc
  · rw [List.getElem?_set] at hi
    split at hi
    · rename_i hij; subst hij
      split at hi
      · cases hi; simp
      · cases hi
    · rename_i hne
      rw [Array.getElem?_set, if_neg (by omega)]; exact a4 i x hi
  · rw [Array.getElem?_set, if_neg (by omega)]; exact a5 i hi
  · rw [bl_set hj h0 h1]; exact h.blk
theorem Wr.poke0 {p : Addr} {ci ci' : List Value} (h : Wr Hs H p ci ci') (S : St H0 w0 H w l) (hs0 : Sl H0 w0) (hB : w0.heap.size ≤ p.block) {u0 : Value} (hj : ci'[0]? = some u0) (h0 : neb u0 = none) (h1 : neb u = none)
    (ts : ∀ w, (sizeOf t).run P w = .ok 1 w) (hu : u.cells = #[u]) (ho : u.oneCell' = true) {c2 : List Value} (hc2 : ci'.set 0 u = c2) :
    ∃ w1 H1, (Instr.storeAt t (.pointer (some p)) u).run P w = .ok () w1 ∧ St H0 w0 H1 w1 l ∧ Wr Hs H1 p ci c2 ∧ ∀ b, b ≠ p.block → H1 b = H b := by
  have := h.poke (P := P) S hs0 hB hj h0 h1 ts hu ho hc2
  rwa [Addr.add_zero'] at this
/-- a slice among the cells is written by a call -/
theorem Wr.inner {p : Addr} {ci ci' : List Value} (h : Wr Hs H p ci ci') {j : Nat} (hj : ci'[j]? = some u) (ho : ∀ b, b ∉ bl [u] → H' b = H b) : Wr Hs H' p ci ci' := by
  have hsub : ∀ b ∈ bl [u], b ∈ bl ci := fun b hb => by rw [← h.blk]; exact bl_get hj b hb
  obtain ⟨arr, arr', e, a1, a2, a3⟩ := h.arr
  refine ⟨fun b hb hbc => ?_, ⟨arr, arr', e, a1, ?_, a3⟩, h.len, h.spot, h.blk, h.own⟩
  · rw [ho b fun hb' => hbc (hsub b hb')]; exact h.out b hb hbc
  · rw [ho _ fun hb' => h.own (hsub _ hb')]; exact a2
/-- what another slice among the cells holds, behind a cell written -/
theorem Wr.kept {p : Addr} {ci ci' : List Value} (h : Wr Hs H p ci ci') {j k' : Nat} {A' : Type} {E' : Enc A'} {xs : List A'} (hj : ci'[j]? = some u) (r : RSl (up B H) E' k' u xs) (hE : FlatE E') (ho : ∀ b, b ≠ p.block → H' b = H b) : RSl (up B H') E' k' u xs :=
  r.only hE.rel fun b hb => up_same (ho b fun e => h.own (by rw [← e, ← h.blk]; exact bl_get hj b hb))
/-- .. behind a call that writes another one -/
theorem Wr.kept2 {p : Addr} {ci ci' : List Value} (h : Wr Hs H p ci ci') (nd : (bl ci).Nodup) {i j k' : Nat} {v : Value} {A' : Type} {E' : Enc A'} {xs : List A'} (hi : ci'[i]? = some u) (hj : ci'[j]? = some v) (hij : i ≠ j) (r : RSl (up B H) E' k' v xs) (hE : FlatE E')
    (ho : ∀ b, b ∉ bl [u] → H' b = H b) : RSl (up B H') E' k' v xs :=
  r.only hE.rel fun b hb => up_same (ho b (bl_apart' (by rw [h.blk]; exact nd) hi hj hij b hb))
/-- the round begins -/
theorem Nest.begin {xs : List A} {c : List Value} (h : Nest (up B H) En k v xs c) {i : Nat} {y : A} (hy : xs[i]? = some y) (_hk : 0 < k) :
    ∃ p, PtrOf k v (i : Nat) p ∧ Wr H H p ((c.drop (i * k)).take k) ((c.drop (i * k)).take k) ∧ B ≤ p.block ∧ En.rel (up B H) ((c.drop (i * k)).take k) y ∧ (bl ((c.drop (i * k)).take k)).Nodup := by
  obtain ⟨h1, h2, h3, h4, h5⟩ := h
  obtain ⟨hl, hr⟩ := h2.at hy
  have hi : i < xs.length := (List.getElem?_eq_some_iff.1 hy).1
  obtain ⟨a, cap, rfl, g1, g2⟩ := h1
  obtain ⟨p, cs, rfl, _⟩ := g2 i y hy
  obtain ⟨arr, e, fr, q1, q2, q3⟩ := h3 p _ _ rfl (by intro e; subst e; simp at hy)
  obtain ⟨u1, u2, u3⟩ := up_iff.1 q1
  have hfr : fr = (0, 0) := by simpa [okO] using u3
  subst hfr
  have hb : (p.add (i * k)).block = p.block := by unfold Addr.add; split <;> rfl
  have ho : (p.add (i * k)).off = p.off + i * k := by unfold Addr.add; split <;> simp_all
  have hmem : p.block ∈ bl [Value.slice (some p) xs.length cap] := mem_bl1 (by simp only [neb]; rw [if_neg (by omega)])
  refine ⟨p.add (i * k), ⟨p, xs.length, cap, rfl, by omega, by omega, by simp⟩, ⟨fun b _ _ => rfl, ⟨arr, arr, e, by rw [hb]; exact u2, by rw [hb]; exact u2, rfl, fun j u hu => ?_, fun _ _ => rfl⟩, rfl, ?_, rfl, ?_⟩, by rw [hb]; exact u1, hr, ?_⟩
  · rw [List.getElem?_take] at hu
    split at hu
    · rw [List.getElem?_drop] at hu
      rw [ho, Nat.add_assoc]; exact q3 _ _ hu
    · cases hu
  · unfold Addr.add; split
    · exact q2
    · rfl
  · rw [hb]; exact fun hb' => h5 _ hmem (bl_sub _ hb')
  · have : c = c.take (i * k) ++ ((c.drop (i * k)).take k ++ (c.drop (i * k)).drop k) := by rw [List.take_append_drop, List.take_append_drop]
    rw [this, bl_app, bl_app, List.nodup_append, List.nodup_append] at h4
    exact h4.2.1.1
/-- the round is done -/
theorem Nest.round {xs : List A} {c : List Value} (h : Nest (up B Hs) En k v xs c) (hE : LocE En) {i : Nat} {y y' : A} (hy : xs[i]? = some y) (_hk : 0 < k) {p : Addr} (hp : PtrOf k v (i : Nat) p)
    {ci' : List Value} (hw : Wr Hs H p ((c.drop (i * k)).take k) ci') (hr : En.rel (up B H) ci' y') :
    ∃ c', Nest (up B H) En k v (xs.set i y') c' ∧ bl c' = bl c ∧ ∀ b, b ∉ bl [v] → b ∉ bl c → H b = Hs b := by
  obtain ⟨h1, h2, h3, h4, h5⟩ := h
  have hi : i < xs.length := (List.getElem?_eq_some_iff.1 hy).1
  have hlen := h2.length
  obtain ⟨hl, _⟩ := h2.at hy
  have hl' : ci'.length = k := by rw [hw.len, hl]
  have hmul : i * k + k ≤ c.length := by rw [hlen, show i * k + k = (i + 1) * k by rw [Nat.add_mul, Nat.one_mul]]; exact Nat.mul_le_mul_right _ hi
  obtain ⟨a, len, cap, rfl, _, hlt, rfl⟩ := hp
  have hsplit : c = c.take (i * k) ++ ((c.drop (i * k)).take k ++ c.drop (i * k + k)) := by
    rw [show c.drop (i * k + k) = (c.drop (i * k)).drop k by rw [List.drop_drop], List.take_append_drop, List.take_append_drop]
  have hblk : bl (c.take (i * k) ++ ci' ++ c.drop (i * k + k)) = bl c := by
    conv => rhs; rw [hsplit]
    rw [bl_app, bl_app, bl_app, bl_app, hw.blk, List.append_assoc]
  have hxl : xs.length = len := by obtain ⟨_, _, hv, _⟩ := h1; cases hv; rfl
  have hmem : a.block ∈ bl [Value.slice (some a) len cap] := mem_bl1 (by simp only [neb]; rw [if_neg (by omega)])
  have hb : (a.add (((i : Nat) : Int).toNat * k)).block = a.block := by unfold Addr.add; split <;> rfl
  have hspot : a.spot = none := by
    obtain ⟨arr, e, fr, _, q2, _⟩ := h3 a _ _ rfl (by intro e; subst e; simp at hy)
    exact q2
  have ho : (a.add (((i : Nat) : Int).toNat * k)).off = a.off + i * k := by rw [addr_eta hspot]; simp
  have hlist : c.take (i * k) ++ ci' ++ c.drop (i * k + k) = c.take (i * k) ++ (ci' ++ c.drop (i * k + k)) := List.append_assoc ..
  have hget : ∀ m, (c.take (i * k) ++ ci' ++ c.drop (i * k + k))[m]? = if m < i * k then c[m]? else if m < i * k + k then ci'[m - i * k]? else c[m]? := by
    intro m
    have ht : (c.take (i * k)).length = i * k := by rw [List.length_take]; omega
    rw [hlist]
    by_cases m1 : m < i * k
    · rw [List.getElem?_append_left (by omega), List.getElem?_take_of_lt m1, if_pos m1]
    · rw [List.getElem?_append_right (by omega), ht, if_neg m1]
      by_cases m2 : m < i * k + k
      · rw [List.getElem?_append_left (by omega), if_pos m2]
      · rw [List.getElem?_append_right (by omega), hl', List.getElem?_drop, if_neg m2]
        congr 1; omega
  have hother : ∀ (j : Nat), j < xs.length → j ≠ i → ((c.take (i * k) ++ ci' ++ c.drop (i * k + k)).drop (j * k)).take k = (c.drop (j * k)).take k := by
    intro j hj hne
    apply List.ext_getElem?
    intro m
    by_cases hm : m < k
    · rw [List.getElem?_take_of_lt hm, List.getElem?_take_of_lt hm, List.getElem?_drop, List.getElem?_drop, hget]
      rcases Nat.lt_or_gt_of_ne hne with hji | hji
      · have : j * k + k ≤ i * k := by rw [show j * k + k = (j + 1) * k by rw [Nat.add_mul, Nat.one_mul]]; exact Nat.mul_le_mul_right _ hji
        rw [if_pos (by omega)]
      · have : i * k + k ≤ j * k := by rw [show i * k + k = (i + 1) * k by rw [Nat.add_mul, Nat.one_mul]]; exact Nat.mul_le_mul_right _ hji
        rw [if_neg (by omega), if_neg (by omega)]
    · rw [List.getElem?_eq_none (by simp; omega), List.getElem?_eq_none (by simp; omega)]
  have hself : ((c.take (i * k) ++ ci' ++ c.drop (i * k + k)).drop (i * k)).take k = ci' := by
    rw [hlist, List.drop_append_of_le_length (by rw [List.length_take]; omega), List.drop_of_length_le (by rw [List.length_take]; omega), List.nil_append, List.take_append_of_le_length (by omega), List.take_of_length_le (by omega)]
  have hapart : ∀ (j : Nat), j < xs.length → j ≠ i → ∀ b ∈ bl ((c.drop (j * k)).take k), b ∉ bl ((c.drop (i * k)).take k) := by
    intro j hj hne b hb1 hb2
    obtain ⟨u1, m1, n1⟩ := mem_bl hb1
    obtain ⟨u2, m2, n2⟩ := mem_bl hb2
    obtain ⟨q1, r1⟩ := List.mem_iff_getElem?.1 m1
    obtain ⟨q2, r2⟩ := List.mem_iff_getElem?.1 m2
    rw [List.getElem?_take] at r1 r2
    split at r1
    · split at r2
      · rw [List.getElem?_drop] at r1 r2
        have hne2 : i * k + q2 ≠ j * k + q1 := by
          rcases Nat.lt_or_gt_of_ne hne with hji | hji
          · have : j * k + k ≤ i * k := by rw [show j * k + k = (j + 1) * k by rw [Nat.add_mul, Nat.one_mul]]; exact Nat.mul_le_mul_right _ hji
            omega
          · have : i * k + k ≤ j * k := by rw [show i * k + k = (i + 1) * k by rw [Nat.add_mul, Nat.one_mul]]; exact Nat.mul_le_mul_right _ hji
            omega
        exact bl_apart' h4 r2 r1 hne2 b (mem_bl1 n1) (mem_bl1 n2)
      · cases r2
    · cases r1
  have hout : ∀ b, b ∉ bl [Value.slice (some a) len cap] → b ∉ bl c → H b = Hs b := fun b b1 b2 => hw.out b (fun e => b1 (by rw [e, hb]; exact hmem)) fun e => b2 (bl_sub b e)
  have hE2 : Els (up B H) En k (c.take (i * k) ++ ci' ++ c.drop (i * k + k)) (xs.set i y') := by
    refine Els.mk' _ _ ?_ fun j x hx => ?_
    · simp only [List.length_append, List.length_take, List.length_drop, List.length_set, hl']
      rw [← hlen]; omega
    · have hj : j < xs.length := by have := (List.getElem?_eq_some_iff.1 hx).1; simpa using this
      by_cases hji : j = i
      · subst hji
        rw [List.getElem?_set_self hj] at hx
        cases hx
        rw [hself]; exact hr
      · rw [List.getElem?_set_ne (Ne.symm hji)] at hx
        rw [hother j hj hji]
        refine hE _ _ _ _ (h2.at hx).2 fun b hb' => up_same (hw.out b (fun e => ?_) (hapart j hj hji b hb'))
        have := h5 a.block hmem
        rw [hb] at e
        exact this (by rw [← e]; exact bl_sub b hb')
  have hC : CAt (up B H) a (c.take (i * k) ++ ci' ++ c.drop (i * k + k)) := by
    obtain ⟨arr, e, fr, q1, q2, q3⟩ := h3 a _ _ rfl (by intro e; subst e; simp at hy)
    obtain ⟨arr1, arr', e', a1, a2, a3, a4, a5⟩ := hw.arr
    rw [hb] at a1 a2
    obtain ⟨u1, u2, u3⟩ := up_iff.1 q1
    rw [a1] at u2; cases u2
    refine ⟨arr', _, (0, 0), up_iff.2 ⟨u1, a2, rfl⟩, q2, fun j u hu => ?_⟩
    rw [hget] at hu
    rw [ho, hl] at a5
    rw [ho] at a4
    split at hu
    · rw [a5 _ (.inl (by omega))]; exact q3 j u hu
    · split at hu
      · have := a4 _ _ hu
        rw [show a.off + j = a.off + i * k + (j - i * k) by omega]; exact this
      · rw [a5 _ (.inr (by omega))]; exact q3 j u hu
  refine ⟨_, ⟨?_, hE2, ?_, by rw [hblk]; exact h4, by rw [hblk]; exact h5⟩, hblk, hout⟩
  · obtain ⟨_, _, hv, g1, g2⟩ := h1
    cases hv
    refine ⟨some a, cap, by rw [List.length_set], by rw [List.length_set]; exact g1, fun j x hx => ?_⟩
    have hat := hE2.at hx
    obtain ⟨arr, e, fr, q1, q2, q3⟩ := hC
    refine ⟨a, _, rfl, hat.1, ⟨arr, e, fr, ?_, ?_, fun m u hu => ?_⟩, hat.2⟩
    · rw [show (a.add (j * k)).block = a.block by unfold Addr.add; split <;> rfl]; exact q1
    · rw [addr_eta hspot]
    · rw [addr_eta hspot]
      rw [List.getElem?_take] at hu
      split at hu
      · rw [List.getElem?_drop] at hu
        simp only; rw [Nat.add_assoc]; exact q3 _ _ hu
      · cases hu
  · intro a' len' cap' hv _
    cases hv; exact hC
/-- a slice of elements without memory is such a datum -/
theorem RSl.nest {G : GH} {xs : List A} (h : RSl G En k v xs) (hE : FlatE En) (_hk : 0 < k) : ∃ c, Nest G En k v xs c ∧ bl c = [] := by
  obtain ⟨a, cap, rfl, g1, g2⟩ := h
  have key : ∀ n, n ≤ xs.length → ∃ c, Els G En k c (xs.take n) ∧ bl c = [] ∧ ∀ p, a = some p → ∀ arr e fr, (G p.block = some (.cells arr e fr)) → ∀ (j : Nat) u, c[j]? = some u → arr[p.off + j]? = some u := by
    intro n
    induction n with
    | zero => intro _; exact ⟨[], by simpa using Els.nil, rfl, by simp⟩
    | succ n ih =>
      intro hn
      obtain ⟨c, e1, e2, e3⟩ := ih (by omega)
      have hlt : n < xs.length := by omega
      obtain ⟨p, cs, rfl, k1, ⟨arr, e, fr, k2, k3, k4⟩, k5⟩ := g2 n xs[n] (by simp [hlt])
      have hb : (p.add (n * k)).block = p.block := by unfold Addr.add; split <;> rfl
      have ho : (p.add (n * k)).off = p.off + n * k := by unfold Addr.add; split <;> simp_all
      rw [hb] at k2
      refine ⟨c ++ cs, ?_, ?_, ?_⟩
      · rw [List.take_succ_eq_append_getElem hlt]; exact .snoc e1 k1 k5
      · rw [bl_app, e2, (hE G G cs _ k5).2]; rfl
      · rintro p' hp' arr' e' fr' hG j u hu
        cases hp'
        rw [k2] at hG; cases hG
        have hcl := e1.length
        rw [List.length_take, Nat.min_eq_left (by omega)] at hcl
        rcases Nat.lt_or_ge j c.length with hj | hj
        · rw [List.getElem?_append_left hj] at hu
          exact e3 p rfl arr e fr k2 j u hu
        · rw [List.getElem?_append_right hj, hcl] at hu
          have := k4 _ _ hu
          rw [ho] at this
          rw [show p.off + j = p.off + n * k + (j - n * k) by omega]; exact this
  obtain ⟨c, e1, e2, e3⟩ := key xs.length (Nat.le_refl _)
  rw [List.take_length] at e1
  refine ⟨c, ⟨⟨a, cap, rfl, g1, g2⟩, e1, fun p len cap' hv hne => ?_, by rw [e2]; exact List.nodup_nil, fun b _ => by rw [e2]; simp⟩, e2⟩
  cases hv
  obtain ⟨x, hx⟩ : ∃ x, xs[0]? = some x := by
    cases xs with
    | nil => exact absurd rfl hne
    | cons x xs => exact ⟨x, rfl⟩
  obtain ⟨p', cs, hp', _, ⟨arr, e, fr, k2, k3, _⟩, _⟩ := g2 0 x hx
  cases hp'
  rw [Nat.zero_mul, Addr.add_zero'] at k2 k3
  exact ⟨arr, e, fr, k2, k3, e3 p rfl arr e fr k2⟩
/-! the law function's spans -/
theorem CAt.same {G G' : GH} {p : Addr} {cs : List Value} (h : CAt G p cs) (hb : G' p.block = G p.block) : CAt G' p cs := by
  obtain ⟨arr, e, fr, h1, h2⟩ := h
  exact ⟨arr, e, fr, by rw [hb]; exact h1, h2⟩
/-- a datum in a span, turned by a call that writes it alone -/
theorem Nest.span {xs ys : List A} {c c' : List Value} (h : Nest (sg lo hi Hs) En k v xs c) (hE : LocE En) (hB : B ≤ lo) (hn : Nest (up B H') En k v ys c') (hc : bl c' = bl c) : Nest (sg lo hi H') En k v ys c' :=
  hn.same hE fun b hb => by
    rw [hc] at hb
    have h0 := h.dom b hb
    cases h1 : sg lo hi Hs b with
    | none => exact absurd h1 h0
    | some o =>
      obtain ⟨a, b, _, _⟩ := sg_iff.1 h1
      unfold sg up
      rw [if_pos b, if_neg (by omega), if_neg (by omega)]
theorem Nest.outside {xs : List A} {c : List Value} (h : Nest (sg lo hi Hs) En k v xs c) (ho : ∀ b, b ∉ bl [v] → b ∉ bl c → ∀ o, H b = some o → H' b = some o) : ∀ b, b < lo ∨ hi ≤ b → ∀ o, H b = some o → H' b = some o := fun b hb => by
  have key : ¬ (b ∈ bl [v] ∨ b ∈ bl c) := fun hm => by
    have h0 := h.dom b hm
    cases h1 : sg lo hi Hs b with
    | none => exact absurd h1 h0
    | some o => obtain ⟨a, b, _, _⟩ := sg_iff.1 h1; omega
  exact ho b (fun h => key (.inl h)) fun h => key (.inr h)
theorem RSl.span {xs ys : List A} (h : RSl (sg lo hi Hs) En k v xs) (hE : FlatE En) (hB : B ≤ lo) (hn : RSl (up B H') En k v ys) : RSl (sg lo hi H') En k v ys :=
  hn.only hE.rel fun b hb => by
    have h0 := h.dom b hb
    cases h1 : sg lo hi Hs b with
    | none => exact absurd h1 h0
    | some o =>
      obtain ⟨a, b, _, _⟩ := sg_iff.1 h1
      unfold sg up
      rw [if_pos b, if_neg (by omega), if_neg (by omega)]
theorem RSl.outside {xs : List A} (h : RSl (sg lo hi Hs) En k v xs) (ho : ∀ b, b ∉ bl [v] → H' b = H b) : ∀ b, b < lo ∨ hi ≤ b → ∀ o, H b = some o → H' b = some o := fun b hb o hH => by
  rw [ho b fun hm => ?_]
  · exact hH
  · have h0 := h.dom b hm
    cases h1 : sg lo hi Hs b with
    | none => exact absurd h1 h0
    | some o => obtain ⟨a, b, _, _⟩ := sg_iff.1 h1; omega
theorem weak {F : Nat → Prop} (h : ∀ b, F b → H' b = H b) : ∀ b, F b → ∀ o, H b = some o → H' b = some o := fun b hb o ho => by rw [h b hb]; exact ho
theorem Wr.opens {p : Addr} {ci cs : List Value} (h : Wr Hs H p ci ci) (e : ci = cs) : Wr Hs H p ci cs := e ▸ h
/-- the loop of a mark: every element in its turn -/
theorem FW.mark {ρ : Option Nat} {δ : List Nat} {N : Nat} {f : Fm} {c : Code} {F : A → Int → A × Int} {a0 : List A} {k0 : Int} (I : Nat → List A → Int → Fm → World → Prop) (Dn : FQ) (h0 : I 0 a0 k0 f w)
    (hbody : ∀ i y xs m f w, I i xs m f w → a0[i]? = some y → xs[i]? = some y → FW (ρ := ρ) (δ := δ) P N c (fun e f w => e = .normal ∧ I (i + 1) (xs.set i (F y m).1) (F y m).2 f w) f w)
    (hend : ∀ f w, I a0.length (markFrom F a0 k0).1 (markFrom F a0 k0).2 f w → FW (ρ := ρ) (δ := δ) P N c (fun e f w => e ≠ .normal ∧ Dn e f w) f w) : FW (ρ := ρ) (δ := δ) P N (.loop c) Dn f w := by
  refine FW.loopG (fun m f w => ∃ i xs k, i + m = a0.length ∧ I i xs k f w ∧ xs.length = a0.length ∧ xs.drop i = a0.drop i ∧ xs.take i ++ (markFrom F (a0.drop i) k).1 = (markFrom F a0 k0).1 ∧ (markFrom F (a0.drop i) k).2 = (markFrom F a0 k0).2) (m := a0.length) ?_
    ⟨0, a0, k0, by omega, h0, rfl, rfl, by simp, by simp⟩
  rintro m f w ⟨i, xs, k, hm, hI, hl, hd, h1, h2⟩
  cases m with
  | zero =>
    have hi : i = a0.length := by omega
    subst hi
    rw [List.drop_length] at h1 h2
    rw [List.take_of_length_le (by omega)] at h1
    simp only [markFrom, List.append_nil] at h1 h2
    subst h1 h2
    exact (hend f w hI).mono fun e f w ⟨he, h⟩ => then_of he h
  | succ m =>
    have hlt : i < a0.length := by omega
    have hx : a0[i]? = some a0[i] := List.getElem?_eq_getElem hlt
    have hxs : xs[i]? = some a0[i] := by
      have := congrArg (·[0]?) hd
      simp only [List.getElem?_drop, Nat.add_zero] at this
      rw [this]; exact hx
    refine (hbody i a0[i] xs k f w hI hx hxs).mono ?_
    rintro e f' w' ⟨rfl, h⟩
    refine ⟨m, by omega, i + 1, _, _, by omega, h, by simpa using hl, ?_, ?_, ?_⟩
    · rw [List.drop_set_of_lt (by omega)]
      have := congrArg (List.drop 1) hd
      rwa [List.drop_drop, List.drop_drop] at this
    · rw [← h1, List.drop_eq_getElem_cons hlt, markFrom]
      rw [show xs.take i ++ (F a0[i] k).1 :: (markFrom F (a0.drop (i + 1)) (F a0[i] k).2).1 = (xs.take i ++ [(F a0[i] k).1]) ++ (markFrom F (a0.drop (i + 1)) (F a0[i] k).2).1 by simp]
      congr 1
      rw [List.take_succ_eq_append_getElem (by simpa using (by omega : i < xs.length)), List.take_set_of_le (Nat.le_refl _), List.getElem_set_self]
    · rw [← h2, List.drop_eq_getElem_cons hlt, markFrom]
/-- what a mark of a slice without inner ones comes to -/
@[reducible] def M1 (H0 : GH) (w0 : World) (Ha : GH) (l : List MO) {A : Type} (En : Enc A) (k : Nat) (v : Value) (r : List A × Int) : Ending → World → Prop := fun e w' =>
  ∃ H' : GH, e = .returned (.int .i64 r.2) ∧ St H0 w0 H' w' l ∧ RSl (up w0.heap.size H') En k v r.1 ∧ ∀ b, b ∉ bl [v] → H' b = Ha b
/-- .. with inner ones -/
@[reducible] def M2 (H0 : GH) (w0 : World) (Ha : GH) (l : List MO) {A : Type} (En : Enc A) (k : Nat) (v : Value) (c0 : List Value) (r : List A × Int) : Ending → World → Prop := fun e w' =>
  ∃ (H' : GH) (c' : List Value), e = .returned (.int .i64 r.2) ∧ St H0 w0 H' w' l ∧ Nest (up w0.heap.size H') En k v r.1 c' ∧ bl c' = bl c0 ∧ ∀ b, b ∉ bl [v] → b ∉ bl c0 → ∀ o, Ha b = some o → H' b = some o
theorem Nest.nil {G : GH} : Nest G En k (.slice Option.none 0 0) [] [] := ⟨RSl.nil _ _ _, .nil, (fun _ _ _ hv => by cases hv), List.nodup_nil, fun _ _ h => by cases h⟩
/-! variables of the law function: where they lie is told -/
theorem St.boxB (h : St H0 w0 H w l) (t : TypeId) (cs : List Value) {v : Value} (hv : v.cells = cs.toArray) (h1 : ∀ u ∈ cs, u.oneCell' = true) :
    ∃ w1, (Instr.box t v).run P w = .ok (.pointer (some ⟨w.heap.size, 0, Option.none⟩)) w1 ∧ St H0 w0 H w1 (.box w.heap.size t cs :: l) ∧ w1.heap.size = w.heap.size + 1 := by
  refine ⟨w.alloc (.cells cs.toArray t (0, 0)), by simp [Instr.box, newVar, newRow, hv], ?_, by simp⟩
  refine h.push _ _ ⟨heap_alloc_new w _, h.size, h1⟩ ?_
  intro b hb; simpa [MO.blk] using hb.symm
theorem St.allocB {z : Value} (h : St H0 w0 H w l) (t : TypeId) (cs : List Value) (hz : ∀ w, (zeroValue t).run P w = .ok z w) (hv : z.cells = cs.toArray) (h1 : ∀ u ∈ cs, u.oneCell' = true) :
    ∃ w1, (Instr.alloc t true (.tuple #[])).run P w = .ok (.pointer (some ⟨w.heap.size, 0, Option.none⟩)) w1 ∧ St H0 w0 H w1 (.box w.heap.size t cs :: l) ∧ w1.heap.size = w.heap.size + 1 := by
  refine ⟨w.alloc (.cells cs.toArray t (0, 0)), by simp [Instr.alloc, hz, newVar, newRow, hv], ?_, by simp⟩
  refine h.push _ _ ⟨heap_alloc_new w _, h.size, h1⟩ ?_
  intro b hb; simpa [MO.blk] using hb.symm
theorem St.store0B (h : St H0 w0 H w l) {i b t0 n : Nat} {cs cs' c : List Value} {l' : List MO} {v : Value} (hi : l[i]? = some (.box b t0 cs)) (ts : ∀ w, (sizeOf t).run P w = .ok n w)
    (hv : v.cells = c.toArray) (hcn : c.length = n) (h1' : ∀ u ∈ c, u.oneCell' = true) (hj : n ≤ cs.length) (hcs' : c ++ cs.drop n = cs') (hl : l.set i (.box b t0 cs') = l') :
    ∃ w1, (Instr.storeAt t (.pointer (some ⟨b, 0, Option.none⟩)) v).run P w = .ok () w1 ∧ St H0 w0 H w1 l' ∧ w1.heap.size = w.heap.size := by
  subst hl
  have hn : v.cells.size = n := by rw [hv]; simpa using hcn
  have h1 : ∀ u ∈ v.cells.toList, u.oneCell' = true := by rw [hv]; exact h1'
  have hcs : cs.take 0 ++ v.cells.toList ++ cs.drop (0 + n) = cs' := by rw [hv]; simpa using hcs'
  obtain ⟨g1, g2, g3⟩ := h.ok i _ hi
  have hst := run_storeCells_at P b 0 t0 v.cells.toList 0 cs.toArray w g1 (by simp [hn]; omega) h1
  simp only [Nat.add_zero, Array.length_toList, hn, hcs] at hst
  refine ⟨w.setRow b cs'.toArray, ?_, h.upd (o' := .box b t0 cs') hi (grownBy_setRow w b cs'.toArray) (Nat.le_refl _) ⟨setRow_heap w b _ _ _ _ g1, g2, ?_⟩ (fun c hc => .inl hc), by simp [World.setRow]⟩
  · simp [Instr.storeAt, Instr.sureAddr, storeVar, ts, hn, hst]
  · subst hcs
    intro u hu
    simp only [List.append_assoc, List.mem_append] at hu
    rcases hu with hu | hu | hu
    · exact g3 u (List.mem_of_mem_take hu)
    · exact h1 u hu
    · exact g3 u (List.mem_of_mem_drop hu)
theorem St.sealBoxB (h : St H0 w0 H w l) {i b t : Nat} {cs : List Value} {l' : List MO} (hi : l[i]? = some (.box b t cs)) (hl : l.eraseIdx i = l') :
    ∃ H1, St H0 w0 H1 w l' ∧ Inc H H1 ∧ CAt (sg b (b + 1) H1) ⟨b, 0, Option.none⟩ cs := by
  subst hl
  obtain ⟨H1, h1, h2, h3⟩ := h.sealed hi
  refine ⟨H1, h1, h2, ⟨cs.toArray, t, (0, 0), sg_iff.2 ⟨Nat.le_refl _, Nat.lt_succ_self _, h3 b _ rfl (h.ok i _ hi).1, rfl⟩, rfl, fun j c hc => by simpa using hc⟩⟩
/-- what lies below a block -/
def bw (hi : Nat) (H : GH) : GH := fun b => if b < hi then H b else Option.none
theorem bwI : Inc (bw hi H) H := fun b o h => by
  unfold bw at h
  split at h
  · exact h
  · cases h
theorem bw_of (h : Sl H w) : Inc H (bw w.heap.size H) := fun b o hb => by
  unfold bw
  rw [if_pos (Array.getElem?_eq_some_iff.1 (h _ _ hb)).1]; exact hb
theorem bw_mono (h : Inc H H') : Inc (bw hi H) (bw hi H') := fun b o hb => by
  unfold bw at hb ⊢
  split at hb
  · rename_i hlt; rw [if_pos hlt]; exact h _ _ hb
  · cases hb
theorem bw_keep {lo' hi' : Nat} (h : ∀ b, b < lo' ∨ hi' ≤ b → ∀ o, H b = some o → H' b = some o) (ho : hi ≤ lo') : Inc (bw hi H) (bw hi H') := fun b o hb => by
  unfold bw at hb ⊢
  split at hb
  · rename_i hlt; rw [if_pos hlt]; exact h _ (by omega) _ hb
  · cases hb
end
end Go.Mr
namespace Go.Pu
/-- Go's ints -/
def okI (n : Int) : Prop := -9223372036854775808 ≤ n ∧ n ≤ 9223372036854775807
/-- a slice's data -/
def okL {A : Type} (ok : A → Prop) (xs : List A) : Prop := xs.length ≤ 9223372036854775807 ∧ ∀ x ∈ xs, ok x
def okT {A : Type} (_ : A) : Prop := True
section
variable {α β S X : Type}
theorem forL_nil {body : Nat → α → S → Option (Lp S X)} {s : S} : forL [] body s = some (.go s) := rfl
/-- an invariant that leads through all rounds of a loop over a list -/
theorem forL_inv {body : Nat → α → S → Option (Lp S X)} (I : Nat → S → Prop) {l : List α} {s : S} (h0 : I 0 s)
    (hb : ∀ i x s, l[i]? = some x → I i s → ∃ s', body i x s = some (.nx s') ∧ I (i + 1) s') : ∃ s', forL l body s = some (.go s') ∧ I l.length s' := by
  have key : ∀ (m p : List α) (s : S), l = p ++ m → I p.length s → ∃ s', forLFrom body m p.length s = some (.go s') ∧ I l.length s' := by
    intro m
    induction m with
    | nil =>
      intro p s hm hi
      refine ⟨s, rfl, ?_⟩
      rw [hm, List.append_nil]; exact hi
    | cons x m ih =>
      intro p s hm hi
      have hx : l[p.length]? = some x := by rw [hm]; simp
      obtain ⟨s', h1, h2⟩ := hb p.length x s hx hi
      obtain ⟨s'', h3, h4⟩ := ih (p ++ [x]) s' (by rw [hm]; simp) (by simpa using h2)
      refine ⟨s'', ?_, h4⟩
      rw [forLFrom, h1]
      simpa using h3
  exact key l [] s rfl h0
/-- a loop that only leads a state on -/
theorem forL_fold {body : Nat → α → S → Option (Lp S X)} (g : S → α → S) {l : List α} {s : S} (h : ∀ i x t, l[i]? = some x → body i x t = some (.nx (g t x))) : forL l body s = some (.go (l.foldl g s)) := by
  obtain ⟨s', h1, h2⟩ := forL_inv (X := X) (body := body) (fun i t => t = (l.take i).foldl g s) (l := l) (s := s) (by simp) (fun i x t hx ht => ⟨g t x, h i x t hx, by
    subst ht
    rw [List.take_add_one, hx]
    simp⟩)
  rw [h1, h2, List.take_length]
/-- .. while something holds of the state -/
theorem forL_foldI {body : Nat → α → S → Option (Lp S X)} (g : S → α → S) {l : List α} {s : S} (I : Nat → S → Prop) (h0 : I 0 s) (h : ∀ i x t, l[i]? = some x → I i t → body i x t = some (.nx (g t x)) ∧ I (i + 1) (g t x)) : forL l body s = some (.go (l.foldl g s)) ∧ I l.length (l.foldl g s) := by
  obtain ⟨s', h1, h2, h3⟩ := forL_inv (X := X) (body := body) (fun i t => t = (l.take i).foldl g s ∧ I i t) (l := l) (s := s) ⟨by simp, h0⟩ (fun i x t hx ht => ⟨g t x, (h i x t hx ht.2).1, by
    obtain ⟨rfl, _⟩ := ht
    rw [List.take_add_one, hx]
    simp, (h i x t hx ht.2).2⟩)
  rw [List.take_length] at h2
  subst h2
  exact ⟨h1, h3⟩
/-- each round hangs one element on -/
theorem forL_push {f : Nat → α → Option β} {g : α → β} {l : List α} {s : List β} (hf : ∀ (i : Nat) x, l[i]? = some x → f i x = some (g x)) (hl : s.length + l.length ≤ lim) :
    forL (X := X) l (fun i x s => bd (f i x) fun r => bd (app s [r]) fun s' => some (.nx s')) s = some (.go (s ++ l.map g)) := by
  obtain ⟨s', h1, h2⟩ := forL_inv (X := X) (body := fun i x s => bd (f i x) fun r => bd (app s [r]) fun s' => some (.nx s')) (fun i t => t = s ++ (l.take i).map g) (l := l) (s := s) (by simp)
    (fun i x t hx ht => by
      have hi := (List.getElem?_eq_some_iff.1 hx).1
      refine ⟨t ++ [g x], ?_, ?_⟩
      · simp only [hf i x hx, bd_some]
        have : t.length + [g x].length ≤ lim := by
          rw [ht]; simp; omega
        unfold app
        rw [if_pos this]; rfl
      · rw [ht, List.take_add_one, hx]; simp)
  rw [h1, h2, List.take_length]
/-- does something hold of an element at its place -/
def anyI (p : Nat → α → Bool) : List α → Nat → Bool
  | [], _ => false
  | y :: l, i => p i y || anyI p l (i + 1)
theorem anyI_any (p : α → Bool) (l : List α) (i : Nat) : anyI (fun _ y => p y) l i = l.any p := by
  induction l generalizing i with
  | nil => rfl
  | cons y l ih => simp [anyI, ih]
theorem anyI_congr {p q : Nat → α → Bool} : ∀ {l : List α} {k : Nat}, (∀ i y, l[i]? = some y → p (k + i) y = q (k + i) y) → anyI p l k = anyI q l k := by
  intro l
  induction l with
  | nil => intro k _; rfl
  | cons y l ih =>
    intro k h
    have h0 := h 0 y rfl
    rw [Nat.add_zero] at h0
    simp only [anyI]
    rw [h0, ih fun i z hz => by have := h (i + 1) z (by simpa using hz); rwa [show k + (i + 1) = k + 1 + i by omega] at this]
theorem anyI_false {p : Nat → α → Bool} : ∀ {l : List α} {k : Nat}, anyI p l k = false ↔ ∀ i y, l[i]? = some y → p (k + i) y = false := by
  intro l
  induction l with
  | nil => intro k; simp [anyI]
  | cons y l ih =>
    intro k
    simp only [anyI, Bool.or_eq_false_iff, ih]
    constructor
    · rintro ⟨h1, h2⟩ i z hz
      cases i with
      | zero => simp at hz; subst hz; simpa using h1
      | succ i => have := h2 i z (by simpa using hz); rwa [show k + 1 + i = k + (i + 1) by omega] at this
    · intro h
      refine ⟨by simpa using h 0 y rfl, fun i z hz => ?_⟩
      have := h (i + 1) z (by simpa using hz); rwa [show k + (i + 1) = k + 1 + i by omega] at this
/-- a loop that goes on until a test says yes -/
theorem forL_any {body : Nat → α → Unit → Option (Lp Unit X)} {p : Nat → α → Bool} {v : X} {l : List α} {u : Unit} (h : ∀ i y, l[i]? = some y → body i y () = (bif p i y then some (.rt v) else some (.nx ()))) :
    forL l body u = some (bif anyI p l 0 then .rt v else .go ()) := by
  have key : ∀ (m : List α) (k : Nat), (∀ i y, m[i]? = some y → body (k + i) y () = (bif p (k + i) y then some (.rt v) else some (.nx ()))) → forLFrom body m k () = some (bif anyI p m k then .rt v else .go ()) := by
    intro m
    induction m with
    | nil => intro k _; rfl
    | cons y m ih =>
      intro k hm
      have h0 := hm 0 y rfl
      rw [Nat.add_zero] at h0
      rw [forLFrom, h0]
      cases hp : p k y with
      | true => simp [anyI, hp]
      | false =>
        simp only [cond_false, anyI, hp, Bool.false_or]
        exact ih (k + 1) fun i z hz => by have := hm (i + 1) z (by simpa using hz); rwa [show k + (i + 1) = k + 1 + i by omega] at this
  exact key l 0 fun i y hy => by rw [Nat.zero_add]; exact h i y hy
/-- .. and hands back where -/
def findI (p : Nat → α → Bool) : List α → Nat → Option (Nat × α)
  | [], _ => none
  | y :: l, i => bif p i y then some (i, y) else findI p l (i + 1)
theorem forL_find {body : Nat → α → Unit → Option (Lp Unit X)} {p : Nat → α → Bool} {v : Nat → α → X} {l : List α} {u : Unit} (h : ∀ i y, l[i]? = some y → body i y () = (bif p i y then some (.rt (v i y)) else some (.nx ()))) :
    forL l body u = some (match findI p l 0 with | some z => .rt (v z.1 z.2) | none => .go ()) := by
  have key : ∀ (m : List α) (k : Nat), (∀ i y, m[i]? = some y → body (k + i) y () = (bif p (k + i) y then some (.rt (v (k + i) y)) else some (.nx ()))) → forLFrom body m k () = some (match findI p m k with | some z => .rt (v z.1 z.2) | none => .go ()) := by
    intro m
    induction m with
    | nil => intro k _; rfl
    | cons y m ih =>
      intro k hm
      have h0 := hm 0 y rfl
      rw [Nat.add_zero] at h0
      rw [forLFrom, h0]
      cases hp : p k y with
      | true => simp [findI, hp]
      | false =>
        simp only [cond_false, findI, hp]
        exact ih (k + 1) fun i z hz => by have := hm (i + 1) z (by simpa using hz); rwa [show k + (i + 1) = k + 1 + i by omega] at this
  exact key l 0 fun i y hy => by rw [Nat.zero_add]; exact h i y hy
theorem findI_none {p : Nat → α → Bool} : ∀ {l : List α} {k : Nat}, findI p l k = none ↔ anyI p l k = false := by
  intro l
  induction l with
  | nil => intro k; simp [findI, anyI]
  | cons y l ih =>
    intro k
    simp only [findI, anyI]
    cases p k y <;> simp [ih]
theorem findI_some {p : Nat → α → Bool} : ∀ {l : List α} {k : Nat} {z : Nat × α}, findI p l k = some z → k ≤ z.1 ∧ l[z.1 - k]? = some z.2 ∧ p z.1 z.2 = true ∧ anyI p l k = true := by
  intro l
  induction l with
  | nil => intro k z h; simp [findI] at h
  | cons y l ih =>
    intro k z h
    simp only [findI] at h
    cases hp : p k y with
    | true => rw [hp] at h; simp at h; subst h; simp [anyI, hp]
    | false =>
      rw [hp] at h
      simp only [cond_false] at h
      obtain ⟨h1, h2, h3, h4⟩ := ih h
      refine ⟨by omega, ?_, h3, by simp [anyI, h4]⟩
      rw [show z.1 - k = (z.1 - (k + 1)) + 1 by omega, List.getElem?_cons_succ]; exact h2
/-! loops with a counter of their own -/
/-- 'for i := 0; i < len(xs); i++' with a test on each element -/
theorem iter_any {xs : List α} {body : Int → Option (Lp Int X)} {p : Nat → α → Bool} {v : X} (h : ∀ (i : Nat) y, xs[i]? = some y → body (i : Int) = (bif p i y then some (.rt v) else some (.nx ((i : Int) + 1)))) (he : body (xs.length : Int) = some (.bk (xs.length : Int))) :
    iter body 0 = some (bif anyI p xs 0 then .rt v else .go (xs.length : Int)) := by
  have key : ∀ (m : List α) (k : Nat), k + m.length = xs.length → (∀ i y, m[i]? = some y → xs[k + i]? = some y) → iter body (k : Int) = some (bif anyI p m k then .rt v else .go (xs.length : Int)) := by
    intro m
    induction m with
    | nil =>
      intro k hk _
      simp only [List.length_nil, Nat.add_zero] at hk
      subst hk
      rw [iter_bk he]; rfl
    | cons y m ih =>
      intro k hk hm
      have h0 := h k y (by have := hm 0 y rfl; simpa using this)
      cases hp : p k y with
      | true => rw [hp] at h0; rw [iter_rt h0]; simp [anyI, hp]
      | false =>
        rw [hp] at h0
        rw [iter_nx h0]
        simp only [anyI, hp, Bool.false_or]
        exact ih (k + 1) (by simp at hk; omega) fun i z hz => by have := hm (i + 1) z (by simpa using hz); rwa [show k + (i + 1) = k + 1 + i by omega] at this
  have := key xs 0 (by simp) (by simp)
  simpa using this
/-- 'for k < len(xs) && p(xs[k]) { k++ }' -/
theorem iter_while {xs : List α} {body : Int → Option (Lp Int X)} {p : α → Bool} (h : ∀ (i : Nat) y, xs[i]? = some y → body (i : Int) = (bif p y then some (.nx ((i : Int) + 1)) else some (.bk (i : Int)))) (he : body (xs.length : Int) = some (.bk (xs.length : Int))) :
    iter body 0 = some (.go ((xs.takeWhile p).length : Int)) := by
  have key : ∀ (m : List α) (k : Nat), k + m.length = xs.length → (∀ i y, m[i]? = some y → xs[k + i]? = some y) → iter body (k : Int) = some (.go ((k + (m.takeWhile p).length : Nat) : Int)) := by
    intro m
    induction m with
    | nil =>
      intro k hk _
      simp only [List.length_nil, Nat.add_zero] at hk
      subst hk
      rw [iter_bk he]; rfl
    | cons y m ih =>
      intro k hk hm
      have h0 := h k y (by have := hm 0 y rfl; simpa using this)
      cases hp : p y with
      | true =>
        rw [hp] at h0
        rw [iter_nx h0, List.takeWhile_cons, if_pos hp]
        have := ih (k + 1) (by simp at hk; omega) fun i z hz => by have := hm (i + 1) z (by simpa using hz); rwa [show k + (i + 1) = k + 1 + i by omega] at this
        rw [show ((k : Int) + 1) = ((k + 1 : Nat) : Int) by simp, this]
        simp; omega
      | false =>
        rw [hp] at h0
        rw [iter_bk h0, List.takeWhile_cons, if_neg (by simp [hp])]; simp
  have := key xs 0 (by simp) (by simp)
  simpa using this
/-! small words -/
theorem ix_get {xs : List α} {i : Nat} : ix xs (i : Int) = xs[i]? := by simp [ix]
theorem ix_of {xs : List α} {i : Int} (h0 : 0 ≤ i) (h1 : i < xs.length) : ∃ x, ix xs i = some x ∧ xs[i.toNat]? = some x := by
  refine ⟨xs[i.toNat]'(by omega), ?_, List.getElem?_eq_getElem (by omega)⟩
  unfold ix; rw [if_pos h0]; exact List.getElem?_eq_getElem (by omega)
theorem wr_id {n : Int} (h : okI n) : wr n = n := wr_of n h.1 h.2
theorem wr_pred {i n : Nat} (hi : 0 < i) (h : i < n) (hn : n ≤ 9223372036854775807) : wr ((i : Int) - 1) = ((i - 1 : Nat) : Int) := by rw [wr_of _ (by omega) (by omega)]; omega
theorem wr_succ {i n : Nat} (h : i < n) (hn : n ≤ 9223372036854775807) : wr ((i : Int) + 1) = (i : Int) + 1 := wr_of _ (by omega) (by omega)
theorem app_ok {xs ys : List α} (h : xs.length + ys.length ≤ lim) : app xs ys = some (xs ++ ys) := by unfold app; rw [if_pos h]
theorem cut_ok {xs : List α} {a b : Nat} (h : a ≤ b) (hb : b ≤ xs.length) : cut xs (a : Int) (b : Int) = some ((xs.take b).drop a) := by unfold cut; rw [if_pos (by omega)]; simp
theorem put_ok {xs : List α} {i : Nat} {x : α} (h : i < xs.length) : put xs (i : Int) x = some (xs.set i x) := by unfold put; rw [if_pos (by omega)]; simp
theorem mk2_ok {z : α} {n : Nat} (h : n ≤ lim) : mk2 z (n : Int) (n : Int) = some (List.replicate n z) := by unfold mk2; rw [if_pos (by unfold lim at h ⊢; omega)]; simp
theorem len_eq (xs : List α) : len xs = (xs.length : Int) := rfl
theorem bif_some {β : Type} {c : Bool} {a b : β} : (bif c then some a else some b) = some (bif c then a else b) := by cases c <;> rfl
theorem bif_eq {β : Type} {c d : Bool} {a b : β} (h : c = d) : (bif c then a else b) = bif d then a else b := by rw [h]
@[simp] theorem bif_ff {c d : Bool} : (bif c then d else false) = (c && d) := by cases c <;> rfl
@[simp] theorem bif_tt {c d : Bool} : (bif c then true else d) = (c || d) := by cases c <;> rfl
/-- neighbours -/
def adj (r : α → α → Bool) : List α → Bool
  | a :: b :: l => r a b && adj r (b :: l)
  | _ => true
theorem anyI_adj {q : α → Bool} {r : α → α → Bool} {l : List α} {p : Nat → α → Bool} (h0 : ∀ y, l[0]? = some y → p 0 y = q y) (h : ∀ (i : Nat) x y, l[i]? = some x → l[i + 1]? = some y → p (i + 1) y = (q y || !r x y)) :
    anyI p l 0 = !(l.all (fun y => !q y) && adj r l) := by
  have key : ∀ (m : List α) (k : Nat) (x : α), l[k]? = some x → (∀ i y, m[i]? = some y → l[k + 1 + i]? = some y) → anyI p m (k + 1) = !(m.all (fun y => !q y) && adj r (x :: m)) := by
    intro m
    induction m with
    | nil => intro k x _ _; rfl
    | cons y m ih =>
      intro k x hx hm
      have hy : l[k + 1]? = some y := by simpa using hm 0 y rfl
      simp only [anyI, List.all_cons, adj]
      rw [h k x y hx hy, ih (k + 1) y hy fun i z hz => by have := hm (i + 1) z (by simpa using hz); rwa [show k + 1 + (i + 1) = k + 1 + 1 + i by omega] at this]
      cases q y <;> cases r x y <;> cases m.all (fun y => !q y) <;> simp
  cases l with
  | nil => rfl
  | cons x m =>
    simp only [anyI, List.all_cons]
    rw [h0 x rfl, Nat.zero_add, key m 0 x rfl (by intro i y hy; rw [show 0 + 1 + i = i + 1 by omega]; simpa using hy)]
    cases q x <;> simp
/-! the frame of a law: sizes, copies, comparisons, marks -/
def tot (wt : α → Nat) : List α → Nat
  | [] => 0
  | y :: l => wt y + tot wt l
theorem tot_mem {wt : α → Nat} {l : List α} {y : α} (h : y ∈ l) : wt y ≤ tot wt l := by
  induction l with
  | nil => cases h
  | cons x l ih =>
    simp only [tot]
    rcases List.mem_cons.1 h with rfl | h
    · omega
    · have := ih h; omega
/-- sizes are taken off, element by element -/
theorem sz_loop {sz : α → Int → Option Int} {wt : α → Nat} : ∀ {l : List α} {i : Nat} {s : Int}, (∀ y ∈ l, ∀ s : Int, 0 ≤ s → s ≤ 1048576 → ∃ t, sz y s = some t ∧ (t < 0 ∨ t + wt y = s)) → 0 ≤ s → s ≤ 1048576 →
    ∃ q, forLFrom (X := Int) (fun _ y s => bd (sz y s) fun t => bif decide (t < 0) then some (.rt (-1)) else some (.nx t)) l i s = some q ∧ match q with | .rt v => v = -1 | .go t => 0 ≤ t ∧ t + tot wt l = s := by
  intro l
  induction l with
  | nil => intro i s _ h0 _; exact ⟨_, rfl, h0, by simp [tot]⟩
  | cons y l ih =>
    intro i s h h0 h1
    obtain ⟨t, h2, h3⟩ := h y (by simp) s h0 h1
    simp only [forLFrom, h2, bd_some]
    by_cases ht : t < 0
    · simp only [ht, decide_true, cond_true]
      exact ⟨_, rfl, rfl⟩
    · simp only [ht, decide_false, cond_false]
      obtain ⟨q, h4, h5⟩ := ih (i := i + 1) (s := t) (fun z hz => h z (by simp [hz])) (by omega) (by omega)
      refine ⟨q, h4, ?_⟩
      cases q with
      | rt v => exact h5
      | go u => exact ⟨h5.1, by simp only [tot]; omega⟩
theorem sz_list {sz : α → Int → Option Int} {wt : α → Nat} {l : List α} {s : Int} {f : Nat → α → Int → Option (Lp Int Int)} (hf : ∀ i y s, f i y s = bd (sz y s) fun t => bif decide (t < 0) then some (.rt (-1)) else some (.nx t))
    (h : ∀ y ∈ l, ∀ s : Int, 0 ≤ s → s ≤ 1048576 → ∃ t, sz y s = some t ∧ (t < 0 ∨ t + wt y = s)) (hl : l.length ≤ 9223372036854775807) (h0 : 0 ≤ s) (h1 : s ≤ 1048576) :
    ∃ r, (bif (decide ((wr (s - (len l))) < 0)) then some (-1) else bdR (forL (S := Int) (X := Int) l f (wr (s - (len l)))) (fun s => some s) (fun x => some x)) = some r ∧ (r < 0 ∨ r + (l.length + tot wt l : Nat) = s) := by
  have e : f = fun _ y s => bd (sz y s) fun t => bif decide (t < 0) then some (.rt (-1)) else some (.nx t) := by funext i y s; exact hf i y s
  subst e
  rw [wr_of _ (by rw [len_eq]; omega) (by rw [len_eq]; omega)]
  by_cases hn : s - len l < 0
  · simp only [hn, decide_true, cond_true]
    exact ⟨_, rfl, .inl (by omega)⟩
  · simp only [hn, decide_false, cond_false]
    obtain ⟨q, h2, h3⟩ := sz_loop (l := l) (i := 0) (s := s - len l) h (by omega) (by rw [len_eq]; omega)
    unfold forL
    rw [h2]
    cases q with
    | rt v => simp only at h3; subst h3; exact ⟨-1, rfl, .inl (by omega)⟩
    | go t => exact ⟨t, rfl, .inr (by rw [len_eq] at h3; omega)⟩
/-- a copy, element by element -/
theorem to_list {f : Nat → α → List β → Option (Lp (List β) Empty)} {g : α → Option β} {h : α → β} {z : β} {l : List α} (hf : ∀ i y s, f i y s = bd (g y) fun r => bd (ix s (i : Int)) fun _ => bd (put s (i : Int) r) fun xs => some (.nx xs)) (hg : ∀ y ∈ l, g y = some (h y))
    (hl : l.length ≤ lim) : bd (mk2 z (len l) (len l)) (fun xs => bdR (forL (S := List β) (X := Empty) l f xs) (fun s => some s) (fun x => nomatch x)) = some (l.map h) := by
  rw [len_eq, mk2_ok hl, bd_some]
  obtain ⟨s', h1, h2, h3⟩ := forL_inv (X := Empty) (body := f) (fun i t => t = (l.take i).map h ++ List.replicate (l.length - i) z ∧ i ≤ l.length) (l := l) (s := List.replicate l.length z) (by simp) (fun i x t hx ht => by
    obtain ⟨rfl, _⟩ := ht
    have hi := (List.getElem?_eq_some_iff.1 hx).1
    have hm : x ∈ l := List.mem_of_getElem? hx
    have hlen : ((l.take i).map h ++ List.replicate (l.length - i) z).length = l.length := by simp; omega
    obtain ⟨u, hu, _⟩ := ix_of (xs := (l.take i).map h ++ List.replicate (l.length - i) z) (i := (i : Int)) (by omega) (by omega)
    refine ⟨_, by rw [hf, hg x hm, bd_some, hu, bd_some, put_ok (by omega)]; rfl, ?_, by omega⟩
    rw [List.set_append_right _ _ (by simp; omega), List.length_map, List.length_take, Nat.min_eq_left (by omega), Nat.sub_self]
    obtain ⟨m, hm'⟩ : ∃ m, l.length - i = m + 1 := ⟨l.length - i - 1, by omega⟩
    rw [hm', List.replicate_succ, List.set_cons_zero, List.take_add_one, hx]
    simp [show l.length - (i + 1) = m by omega])
  rw [h1]
  simp only [bdR_go, h2, List.take_length, Nat.sub_self, List.replicate_zero, List.append_nil]
/-- a datum against itself -/
theorem eq_list {f : Nat → α → Unit → Option (Lp Unit Bool)} {eq : α → α → Option Bool} {l : List α} (hf : ∀ i y u, f i y u = bd (ix l (i : Int)) fun x => bd (eq y x) fun r => bif !r then some (.rt false) else some (.nx ())) (he : ∀ y ∈ l, eq y y = some true) :
    (bif (!((len l) == (len l))) then some false else bdR (forL (S := Unit) (X := Bool) l f ()) (fun _ => some true) (fun x => some x)) = some true := by
  rw [forL_any (p := fun _ _ => false) (v := false) (fun i y hy => by
    rw [hf, ix_get, hy, bd_some, he y (List.mem_of_getElem? hy), bd_some]; rfl)]
  have : anyI (fun _ _ => false) l 0 = false := anyI_false.2 fun _ _ _ => rfl
  rw [this]; simp
theorem markFrom_len {F : α → Int → α × Int} : ∀ {l : List α} {k : Int}, (markFrom F l k).1.length = l.length := by
  intro l
  induction l with
  | nil => intro k; rfl
  | cons y l ih => intro k; simp [markFrom, ih]
theorem mark_end {F : α → Int → α × Int} {wt : α → Nat} : ∀ {l : List α} {k : Int}, (∀ y ∈ l, ∀ k : Int, 0 ≤ k → k + wt y ≤ 9223372036854775807 → (F y k).2 = k + wt y) → 0 ≤ k → k + tot wt l ≤ 9223372036854775807 → (markFrom F l k).2 = k + tot wt l := by
  intro l
  induction l with
  | nil => intro k _ _ _; simp [markFrom, tot]
  | cons y l ih =>
    intro k h h0 h1
    simp only [tot] at h1 ⊢
    have e := h y (by simp) k h0 (by omega)
    simp only [markFrom]
    rw [ih (fun z hz => h z (by simp [hz])) (by omega) (by omega), e]; omega
/-- what was marked is read back -/
theorem held_list {F : α → Int → α × Int} {wt : α → Nat} {f : Nat → α → Int → Option (Lp Int Int)} : ∀ {l : List α} {k : Int} {i : Nat}, (∀ y ∈ l, ∀ k : Int, 0 ≤ k → k + wt y ≤ 9223372036854775807 → (F y k).2 = k + wt y ∧ ∀ i, f i (F y k).1 k = some (.nx (F y k).2)) → 0 ≤ k → k + tot wt l ≤ 9223372036854775807 →
    forLFrom f (markFrom F l k).1 i k = some (.go (markFrom F l k).2) := by
  intro l
  induction l with
  | nil => intro k i _ _ _; rfl
  | cons y l ih =>
    intro k i h h0 h1
    simp only [tot] at h1
    obtain ⟨e, hb⟩ := h y (by simp) k h0 (by omega)
    simp only [markFrom, forLFrom, hb]
    exact ih (fun z hz => h z (by simp [hz])) (by omega) (by omega)
theorem forLFrom_nx {α S X : Type} {body : Nat → α → S → Option (Lp S X)} {a : α} {l : List α} {i : Nat} {s s' : S} (h : body i a s = some (.nx s')) : forLFrom body (a :: l) i s = forLFrom body l (i + 1) s' := by
  simp only [forLFrom, h]
theorem forLFrom_nil {α S X : Type} {body : Nat → α → S → Option (Lp S X)} {i : Nat} {s : S} : forLFrom body [] i s = some (.go s) := rfl
/-- 'for k := 0; k < len(xs); k++ { s = F(s, xs[k]) }' -/
theorem iter_foldI {σ : Type} {xs : List α} {body : σ × Int → Option (Lp (σ × Int) X)} {F : σ → α → σ} (I : Nat → σ → Prop) {s0 : σ} (h0 : I 0 s0)
    (h : ∀ (i : Nat) x s, xs[i]? = some x → I i s → body (s, (i : Int)) = some (.nx (F s x, (i : Int) + 1)) ∧ I (i + 1) (F s x)) (he : ∀ s, body (s, (xs.length : Int)) = some (.bk (s, (xs.length : Int)))) :
    iter body (s0, 0) = some (.go (xs.foldl F s0, (xs.length : Int))) ∧ I xs.length (xs.foldl F s0) := by
  have key : ∀ (m : List α) (k : Nat) (s : σ), k + m.length = xs.length → (∀ i y, m[i]? = some y → xs[k + i]? = some y) → I k s → iter body (s, (k : Int)) = some (.go (m.foldl F s, (xs.length : Int))) ∧ I xs.length (m.foldl F s) := by
    intro m
    induction m with
    | nil =>
      intro k s hk _ hI
      simp only [List.length_nil, Nat.add_zero] at hk
      subst hk
      exact ⟨iter_bk (he s), hI⟩
    | cons y m ih =>
      intro k s hk hm hI
      obtain ⟨h1, h2⟩ := h k y s (by have := hm 0 y rfl; simpa using this) hI
      rw [iter_nx h1]
      exact ih (k + 1) (F s y) (by simp at hk; omega) (fun i z hz => by have := hm (i + 1) z (by simpa using hz); rwa [show k + (i + 1) = k + 1 + i by omega] at this) h2
  have := key xs 0 s0 (by simp) (by simp) h0
  simpa using this
end
end Go.Pu
namespace Go.Mr
open Go.RowKit Go.Pu
/-- the memory there is, all of it sealed -/
def hpOf (w : World) : GH := fun b => w.heap[b]?
theorem sl_hpOf (w : World) : Sl (hpOf w) w := fun _ _ h => h
/-- what reads as data of type t lies as En says -/
def RdT (P : Program) (w : World) (t : TypeId) {A : Type} (En : Enc A) (ok : A → Prop) : Prop :=
  ∀ {H : Type} {enc : TypeId × Value → H} {base : Nat} {spare : Nat → Bool} {held : Bool} {fuel : Nat} {cs : List Value} {x : DataW H × List MemPlace}, DataW.trod enc P w base spare held fuel t cs = some x → ∃ a, En.rel (hpOf w) cs a ∧ ok a
section
variable {P : Program} {w : World} {t e k : Nat} {A : Type} {En : Enc A} {ok : A → Prop}
theorem okI_wf {n : Int} (h : (Lit.int .i64 n).wf = true) : okI n := by
  simp [Lit.wf, IntKind.min, IntKind.max, IntKind.signed, IntKind.bits] at h
  exact h
theorem RdT.int (ht : P.underlying t = some (.int .i64)) : RdT P w t eI okI := fun h => by
  obtain ⟨n, rfl, _, hw⟩ := DataW.trod_int ht h; exact ⟨n, rfl, okI_wf hw⟩
theorem RdT.bool (ht : P.underlying t = some .bool) : RdT P w t eB okT := fun h => by
  obtain ⟨n, rfl, _⟩ := DataW.trod_bool ht h; exact ⟨n, rfl, trivial⟩
theorem RdT.string (ht : P.underlying t = some .string) : RdT P w t eS okT := fun h => by
  obtain ⟨n, rfl, _⟩ := DataW.trod_string ht h; exact ⟨n, rfl, trivial⟩
theorem cell_block {p : Addr} {c : Value} (h : w.cell? p = some c) : p.spot = Option.none ∧ ∃ arr e fr, w.heap[p.block]? = some (.cells arr e fr) ∧ arr[p.off]? = some c := by
  have hs := World.cell?_spot h
  refine ⟨hs, ?_⟩
  unfold World.cell? at h
  split at h
  · rename_i arr e fr hb
    split at h
    · cases h
    · exact ⟨arr, e, fr, hb, h⟩
  · cases h
theorem cat_of_cells {base : Nat} {p : Addr} {cs : List Value} (hk : 0 < k) (h : w.cells? base p k = some cs) : cs.length = k ∧ CAt (hpOf w) p cs := by
  obtain ⟨_, hl, hc⟩ := World.cells?_some h
  refine ⟨hl, ?_⟩
  obtain ⟨c0, h0⟩ : ∃ c0, cs[0]? = some c0 := ⟨cs[0]'(by omega), List.getElem?_eq_getElem (by omega)⟩
  have := hc 0 hk
  rw [h0, Addr.add_zero'] at this
  obtain ⟨hs, arr, e, fr, hb, _⟩ := cell_block this
  refine ⟨arr, e, fr, hb, hs, fun j c hj => ?_⟩
  have hjk : j < k := by rw [← hl]; exact (List.getElem?_eq_some_iff.1 hj).1
  have h2 := hc j hjk
  rw [hj] at h2
  obtain ⟨_, arr', e', fr', hb', hc'⟩ := cell_block h2
  have hbl : (p.add j).block = p.block := by unfold Addr.add; split <;> rfl
  rw [hbl, hb] at hb'
  cases hb'
  rw [addr_eta hs] at hc'
  exact hc'
theorem RdT.slice (ht : P.underlying t = some (.slice e)) (hc : P.cellsOf e = k) (hk : 0 < k) (he : RdT P w e En ok) : RdT P w t (eL En k) (okL ok) := fun {H enc base spare held fuel cs x} h => by
  rcases DataW.trod_slice ht h with ⟨rfl, _⟩ | ⟨a, len, cap, elems, rest, n, _, rfl, _, _, hle, hm, hlen, hel, _⟩
  · exact ⟨[], ⟨_, rfl, RSl.nil _ _ _⟩, by simp, by simp⟩
  · rw [hc] at hel
    have key : ∀ m, m ≤ len → ∃ xs : List A, xs.length = m ∧ ∀ i x, xs[i]? = some x → ∃ cs, cs.length = k ∧ CAt (hpOf w) (a.add (i * k)) cs ∧ En.rel (hpOf w) cs x ∧ ok x := by
      intro m
      induction m with
      | zero => intro _; exact ⟨[], rfl, by simp⟩
      | succ m ih =>
        intro hlt
        obtain ⟨xs, h1, h2⟩ := ih (by omega)
        have h3 := hel m (by omega)
        rw [List.getElem?_eq_getElem (by omega)] at h3
        obtain ⟨cs', h4, h5⟩ := Option.bind_eq_some_iff.1 h3
        obtain ⟨y, hy, hok⟩ := he h5
        obtain ⟨h6, h7⟩ := cat_of_cells hk h4
        refine ⟨xs ++ [y], by simp [h1], fun i x hx => ?_⟩
        rcases Nat.lt_or_ge i xs.length with hi | hi
        · rw [List.getElem?_append_left hi] at hx; exact h2 i x hx
        · have : i = xs.length := by have := (List.getElem?_eq_some_iff.1 hx).1; simp at this; omega
          subst this
          simp at hx; subst hx
          rw [h1]
          exact ⟨cs', h6, h7, hy, hok⟩
    obtain ⟨xs, h1, h2⟩ := key len (Nat.le_refl _)
    subst h1
    refine ⟨xs, ⟨_, rfl, some a, cap, rfl, ⟨by omega, nofun, hle⟩, fun i x hx => let ⟨cs, g1, g2, g3, _⟩ := h2 i x hx; ⟨a, cs, rfl, g1, g2, g3⟩⟩, by simp only [maxLen] at hm; omega, fun x hx => ?_⟩
    obtain ⟨i, hi⟩ := List.mem_iff_getElem?.1 hx
    obtain ⟨_, _, _, _, h⟩ := h2 i x hi
    exact h
/-! the arguments by themselves -/
variable {H : Type} {enc : TypeId × Value → H} {base b0 : Nat} {spare : Nat → Bool} {held : Bool} {r : Reach} {v : Value} {d : DataW H} {ps : List MemPlace}
theorem arg_slice (ht : P.underlying t = some (.slice e)) (hc : P.cellsOf e = k) (hk : 0 < k) (he : RdT P w e En ok) (hval : Value.okWide P w r b0 t v) (h : DataW.Trod enc P w base spare held t v d ps) : ∃ xs : List A, RSl (hpOf w) En k v xs ∧ okL ok xs := by
  obtain ⟨a, len, cap, rfl⟩ := WideShapes.okWide_slice ht hval
  obtain ⟨fuel, h⟩ := h
  obtain ⟨xs, ⟨v', h1, h2⟩, h3⟩ := RdT.slice ht hc hk he h
  simp only [Value.cells, List.cons.injEq, and_true] at h1
  subst h1
  exact ⟨xs, h2, h3⟩
theorem arg_struct {fs : Array Field} (ht : P.underlying t = some (.struct fs)) (he : RdT P w t En ok) (hval : Value.okWide P w r b0 t v) (h : DataW.Trod enc P w base spare held t v d ps) : ∃ (x : A) (cs : List Value), v = .agg cs.toArray ∧ En.rel (hpOf w) cs x ∧ ok x := by
  obtain ⟨cs, rfl, _⟩ := WideShapes.okWide_struct ht hval
  obtain ⟨fuel, h⟩ := h
  obtain ⟨x, hx, ho⟩ := he h
  exact ⟨x, _, by simp [Value.cells], hx, ho⟩
/-- a reading stays, behind a call that leaves old memory alone -/
theorem trod_stays {W W' : World} (hl : laidOutB P = true) (hr : P.readableRec t = true) (hrow : t < P.types.size) (hb : Below W.heap.size W W') {ps : List MemPlace} (hp : ∀ p ∈ ps, p.block < W.heap.size)
    (h : DataW.Trod enc P W base (fun _ => true) true t v d ps) : DataW.Trod enc P W' base (fun b => decide (b < W.heap.size)) true t v d ps :=
  WideElems.Trod_stays hl hr hrow h (fun p h => hb.same (hp p h)) (fun p h => by simpa using hp p h)
end
/-- the law's 'post' -/
theorem post_law {H : Type} {enc : TypeId × Value → H} {P : Program} {f : Func} {s : ChangeSpec} {W W' : World} {args : Array Value} {ds : List (DataW H)} {p : List MemPlace} {tb : TypeId}
    (hW : DataW.Whole enc P f.params.toList s.vars false W args.toList ds [] (p ++ [])) (hv : s.vars = []) (hf : (s.fn H (ds ++ [])) = { results := [.lit (.bool true)], args := ds }) (hrt : f.resultTypes.toList = [tb]) (hrs : f.resultTypes.size = 1)
    (htb : P.underlying tb = some .bool) (hA : DataW.TrodAll enc P W' 0 (fun b => decide (b < W.heap.size)) true f.params.toList args.toList ds p) (hb : Below W.heap.size W W') :
    s.post enc P f false true false false W args (.bool true) W' := by
  refine ⟨ds, [], p ++ [], [], p, [], hW, ?_, ?_, ?_, hb.frame _, fun h => by cases h⟩
  · rw [hf, hrt, hrs]
    exact trodAll_cons_mk (shut_bool htb _) ChangeShapes.trodAll_mk0
  · rw [hf]; exact hA
  · rw [hf, hv]; rfl
end Go.Mr
namespace Go.PF
def okS (s : ByteArray) : Prop := s.size ≤ 9223372036854775807
end Go.PF
namespace Go.Mr
open Go.RowKit Go.Pu
theorem RdT.stringS {P : Program} {w : World} {t : TypeId} (ht : P.underlying t = some .string) : RdT P w t eS PF.okS := fun h => by
  obtain ⟨n, rfl, _, hw⟩ := DataW.trod_string ht h
  refine ⟨n, rfl, ?_⟩
  unfold maxLen at hw; unfold PF.okS; omega
theorem arg_string {H : Type} {enc : TypeId × Value → H} {P : Program} {w : World} {t : TypeId} {base b0 : Nat} {spare : Nat → Bool} {held : Bool} {r : Reach} {v : Value} {d : DataW H} {ps : List MemPlace} (ht : P.underlying t = some .string)
    (hval : Value.okWide P w r b0 t v) (h : DataW.Trod enc P w base spare held t v d ps) : ∃ s : ByteArray, v = .string s ∧ PF.okS s := by
  obtain ⟨s, rfl⟩ := WideShapes.okWide_string ht hval
  obtain ⟨fuel, h⟩ := h
  obtain ⟨n, h1, _, h2⟩ := DataW.trod_string ht h
  refine ⟨s, rfl, ?_⟩
  simp [Value.cells] at h1
  subst h1
  unfold maxLen at h2; unfold PF.okS; omega
end Go.Mr
namespace Go.Mr
open Go.RowKit Go.Pu Go.Sort
open Go.Proofs (OneCell CmpLays1 sortWorld ltOf)
section
variable {P : Program} {w w' : World} {H0 H H' : GH} {w0 : World} {l : List MO} {e n : Nat} {v : Value} {A : Type} {En : Enc A}
/-- an element of one cell, as it lies -/
def El1 {A : Type} (En : Enc A) (H : GH) (xs : List A) : Type := { p : Value × A // En.rel H [p.1] p.2 ∧ p.2 ∈ xs }
def El1.enc {H : GH} {xs : List A} (p : El1 En H xs) : Value := p.1.1
def El1.x {H : GH} {xs : List A} (p : El1 En H xs) : A := p.1.2
theorem El1.oneCell {H : GH} {xs : List A} : OneCell (El1.enc (En := En) (H := H) (xs := xs)) := fun p => Enc.one1 p.2.1
/-- the row as an array of such elements -/
theorem els1_arr {H : GH} {cells : List Value} {xs : List A} (h : Els H En 1 cells xs) (ys : List A) (hs : ∀ x ∈ xs, x ∈ ys) : ∃ d : List (El1 En H ys), d.map El1.enc = cells ∧ d.map El1.x = xs := by
  induction h with
  | nil => exact ⟨[], rfl, rfl⟩
  | snoc hp hc hx ih =>
    rename_i cells xs c x
    obtain ⟨d, h1, h2⟩ := ih (fun y hy => hs y (by simp [hy]))
    match c, hc, hx with
    | [c0], _, hx => exact ⟨d ++ [⟨(c0, x), hx, hs x (by simp)⟩], by rw [List.map_append, h1]; rfl, by rw [List.map_append, h2]; rfl⟩
theorem els1_of {H : GH} {ys : List A} (d : List (El1 En H ys)) : Els H En 1 (d.map El1.enc) (d.map El1.x) := by
  rw [← List.reverse_reverse d]
  generalize d.reverse = d
  induction d with
  | nil => exact .nil
  | cons p d ih => rw [List.reverse_cons, List.map_append, List.map_append]; exact .snoc ih rfl p.2.1
theorem heap_sorted1 {α : Type} [Inhabited α] {enc : α → Value} {w : World} {g m : Nat} {os : Array Obj} {cur : Array Value} {e : TypeId} {fr : Nat × Nat} (d : Array α) (hb : w.heap[g]? = some (.cells cur e fr)) :
    (sortWorld enc w g 0 m d os).heap[g]? = some (.cells (putCells enc 0 d cur) e fr) := by
  have hg : g < w.heap.size := (Array.getElem?_eq_some_iff.1 hb).1
  unfold sortWorld
  rw [heap_grow_old _ _ (by simpa using hg)]
  simp [putRow, mapBlock, Sort.ahead, Array.getElem?_modify, hb, onCells]
theorem grownBy_sorted1 {α : Type} [Inhabited α] {enc : α → Value} {w : World} {g m : Nat} {os : Array Obj} (d : Array α) : w.grownBy (sortWorld enc w g 0 m d os) (some g) := by
  unfold sortWorld
  refine ⟨rfl, rfl, rfl, by simp, fun k hk hne => ?_⟩
  rw [heap_grow_old _ _ (by simpa using hk)]
  have : g ≠ k := fun e => hne (by rw [e])
  simp [putRow, mapBlock, Sort.ahead, Array.getElem?_modify, this]
theorem take_putCells1 {α : Type} [Inhabited α] {enc : α → Value} (cur : Array Value) (ts : List α) (n : Nat) (hn : n ≤ ts.length) (h : ts.length ≤ cur.size) : (putCells enc 0 ts.toArray cur).toList.take n = (ts.take n).map enc := by
  apply List.ext_getElem?
  intro j
  by_cases hj : j < n
  · rw [List.getElem?_take_of_lt hj, Array.getElem?_toList]
    simp [putCells, hj, show j < cur.size by omega, show j < ts.length by omega]
  · rw [List.getElem?_take_eq_none (by omega), List.getElem?_eq_none (by simp; omega)]
/-- what the row's block holds otherwise: the row turned in place and cut to n' -/
theorem St.turned (h : St H0 w0 H w l) {i g cap m n' : Nat} {cells : List Value} (hi : l[i]? = some (.row e 1 (.slice (some ⟨g, 0, Option.none⟩) n cap) n cells)) {α : Type} [Inhabited α] {enc : α → Value} (h1 : OneCell enc) (d : List α) (os : Array Obj)
    (hn : n' ≤ d.length) (hd : d.length ≤ n) :
    St H0 w0 H (sortWorld enc w g 0 m d.toArray os) (l.set i (.row e 1 (.slice (some ⟨g, 0, Option.none⟩) n' cap) n' ((d.take n').map enc))) := by
  obtain ⟨⟨k1, k2⟩, k3⟩ := h.ok i _ hi
  rcases k2 with ⟨h3, _⟩ | ⟨g', cap', cur, hv, hg, hh, hle, hcm, hsz, htk⟩
  · cases h3
  cases hv
  refine h.upd hi (grownBy_sorted1 _) (by unfold sortWorld; simp [Sort.ahead, Go.Sort.grow]) ⟨⟨by simp; omega, .inr ⟨g, cap, _, rfl, hg, heap_sorted1 _ hh, by omega, hcm, by simp [putCells, hsz], ?_⟩⟩, ?_⟩ (fun b hb => .inl hb)
  · rw [Nat.mul_one]; exact take_putCells1 cur d n' hn (by omega)
  · intro u hu
    obtain ⟨y, _, rfl⟩ := List.mem_map.1 hu
    exact h1 y
/-- what the row holds, as the shelf says it -/
theorem St.holds1 (h : St H0 w0 H w l) {i g cap : Nat} {cells : List Value} (hi : l[i]? = some (.row e 1 (.slice (some ⟨g, 0, Option.none⟩) n cap) n cells)) {α : Type} [Inhabited α] {enc : α → Value} (d : List α) (hd : d.map enc = cells) :
    Holds enc w g 0 d.toArray ∧ g < w.heap.size ∧ d.length = n ∧ n ≤ cap ∧ cap ≤ maxLen := by
  obtain ⟨⟨k1, k2⟩, k3⟩ := h.ok i _ hi
  rcases k2 with ⟨h3, _⟩ | ⟨g', cap', cur, hv, hg, hh, hle, hcm, hsz, htk⟩
  · cases h3
  cases hv
  have hl : d.length = n := by rw [← hd] at k1; simpa using k1
  refine ⟨fun j hj => ?_, (Array.getElem?_eq_some_iff.1 hh).1, hl, hle, hcm⟩
  simp only [List.size_toArray] at hj
  have hc : cells[j]? = some (enc d[j]) := by rw [← hd]; simp [hj]
  rw [Nat.zero_add]
  constructor
  · rw [cell_of_row w g _ _ _ _ hh]
    rw [← htk, List.getElem?_take] at hc
    split at hc
    · simpa [hj] using hc
    · cases hc
  · simp [World.frozen?, hh]
theorem St.sl_sorted (h : St H0 w0 H w l) {i g cap m : Nat} {cells : List Value} (hi : l[i]? = some (.row e 1 (.slice (some ⟨g, 0, Option.none⟩) n cap) n cells)) {α : Type} [Inhabited α] {enc : α → Value} (d : Array α) (os : Array Obj) :
    Sl H (sortWorld enc w g 0 m d os) := fun b ob hb => by
  have hw := h.sl b ob hb
  have hne : some b ≠ some g := fun e => by cases e; rw [h.out i _ g hi rfl] at hb; cases hb
  rw [(grownBy_sorted1 (os := os) (m := m) d).block b (Array.getElem?_eq_some_iff.1 hw).1 hne]; exact hw
/-- what a run of scalars leaves: draws and blocks laid -/
theorem Run.grown {B : Nat} (hr : Run B H w H' w') (hB : B = w.heap.size) : ∃ q os', w' = grow (w.drewN q) os' := by
  obtain ⟨hb, _, _, _, hd⟩ := hr
  refine ⟨w'.drawn - w.drawn, w'.heap.extract w.heap.size w'.heap.size, ?_⟩
  have h1 : w'.heap = w.heap ++ w'.heap.extract w.heap.size w'.heap.size := by
    apply Array.ext_getElem?
    intro k
    by_cases hk : k < w.heap.size
    · rw [hb.block k (by omega), Array.getElem?_append_left hk]
    · rw [Array.getElem?_append_right (by omega), Array.getElem?_extract]
      split
      · congr 1; omega
      · rw [Array.getElem?_eq_none (by omega)]
  have h2 : w.drawn + (w'.drawn - w.drawn) = w'.drawn := by omega
  cases w; cases w'
  have := hb.os; have := hb.tape; have := hb.output
  simp only [Go.Sort.grow, World.drewN] at *
  subst_vars
  simp only [World.mk.injEq, and_true]
  exact ⟨h1, trivial, h2.symm⟩
theorem keeps_append {A : Type} [DecidableEq A] [Inhabited A] (xs : List A) (y : A) (j : Nat) (hj : j < xs.length) : Go.Lib.keeps (xs ++ [y]).toArray j = Go.Lib.keeps xs.toArray j := by
  have h1 : (xs ++ [y]).toArray[j]! = xs.toArray[j]! := by
    rw [getElem!_pos _ j (by simp; omega), getElem!_pos _ j (by simpa using hj)]; simp [List.getElem_append_left hj]
  have h2 : (xs ++ [y]).toArray[j - 1]! = xs.toArray[j - 1]! := by
    rw [getElem!_pos _ (j - 1) (by simp; omega), getElem!_pos _ (j - 1) (by simp; omega)]; simp [List.getElem_append_left (show j - 1 < xs.length by omega)]
  simp only [Go.Lib.keeps, h1, h2]
theorem compactUpTo_append {A : Type} [DecidableEq A] [Inhabited A] (xs : List A) (y : A) (m : Nat) (hm : m ≤ xs.length) : Go.Lib.compactUpTo (xs ++ [y]).toArray m = Go.Lib.compactUpTo xs.toArray m := by
  induction m with
  | zero => rfl
  | succ m ih =>
    rw [Go.Lib.compactUpTo_succ, Go.Lib.compactUpTo_succ, ih (by omega), keeps_append xs y m (by omega)]
    have h1 : (xs ++ [y]).toArray[m]! = xs.toArray[m]! := by
      rw [getElem!_pos _ m (by simp; omega), getElem!_pos _ m (by simp; omega)]; simp [List.getElem_append_left (show m < xs.length by omega)]
    rw [h1]
theorem compactL_snoc {A : Type} [DecidableEq A] : ∀ (xs : List A) (y : A), compactL (xs ++ [y]) = if xs.getLast? = some y then compactL xs else compactL xs ++ [y]
  | [], y => by simp [compactL]
  | [x], y => by
    by_cases h : x = y
    · subst h; simp [compactL]
    · simp [compactL, h]
  | x :: x' :: xs, y => by
    have ih := compactL_snoc (x' :: xs) y
    simp only [List.cons_append] at ih
    by_cases h : x = x'
    · simp only [List.cons_append, compactL, h, if_true]
      rw [ih]; simp [List.getLast?_cons_cons]
    · simp only [List.cons_append, compactL, h, if_false]
      rw [ih]
      simp only [List.getLast?_cons_cons]
      split <;> simp
theorem compactL_eq {A : Type} [DecidableEq A] [Inhabited A] (xs : List A) : Go.Lib.compactUpTo xs.toArray xs.length = compactL xs := by
  rw [← List.reverse_reverse xs]
  generalize xs.reverse = ys
  induction ys with
  | nil => rfl
  | cons y ys ih =>
    rw [List.reverse_cons]
    generalize ys.reverse = xs at ih ⊢
    rw [compactL_snoc, List.length_append, List.length_singleton, Go.Lib.compactUpTo_succ, compactUpTo_append xs y _ (Nat.le_refl _), ih]
    have hy : (xs ++ [y]).toArray[xs.length]! = y := by rw [getElem!_pos _ _ (by simp)]; simp
    rw [hy]
    rcases Nat.eq_zero_or_pos xs.length with h0 | h0
    · have : xs = [] := List.eq_nil_of_length_eq_zero h0
      subst this; simp [Go.Lib.keeps]
    · have hp : (xs ++ [y]).toArray[xs.length - 1]! = xs[xs.length - 1] := by rw [getElem!_pos _ _ (by simp; omega)]; simp [List.getElem_append_left (show xs.length - 1 < xs.length by omega)]
      have hg : xs.getLast? = some xs[xs.length - 1] := by rw [List.getLast?_eq_getElem?, List.getElem?_eq_getElem]
      simp only [Go.Lib.keeps, hy, hp, hg, Option.some.injEq]
      by_cases h : xs[xs.length - 1] = y
      · have : ¬ xs.length = 0 := by omega
        simp [h, this]
      · have : ¬ y = xs[xs.length - 1] := fun e => h e.symm
        simp [h, this]
theorem compactL_le {A : Type} [DecidableEq A] : ∀ (xs : List A), (compactL xs).length ≤ xs.length
  | [] => by simp [compactL]
  | [x] => by simp [compactL]
  | x :: x' :: xs => by
    have ih := compactL_le (x' :: xs)
    by_cases h : x = x'
    · simp only [compactL, h, if_true]; simp at ih ⊢; omega
    · simp only [compactL, h, if_false]; simp at ih ⊢; omega
/-! slices.SortFunc -/
theorem sortF_some {f : A → A → Option Int} {xs r : List A} (h : sortF f xs = some r) : (∃ cf, SortOk f xs cf) ∧ r = xs.mergeSort (leF f) := by
  unfold sortF at h
  split at h
  · rename_i hh; cases h; exact ⟨hh, rfl⟩
  · cases h
theorem St.sortF {G : GH} (hG : Inc G H) (h : St H0 w0 H w l) {i : Nat} {cells : List Value} (hi : l[i]? = some (.row e 1 v n cells)) {xs r : List A} (he : Els G En 1 cells xs) {fv : Value} {f : A → A → Option Int} {fid : Nat}
    (hf : ∀ (H2 : GH) (w2 : World), Inc H H2 → Sl H2 w2 → ∀ c x, En.rel H2 [c] x → ∀ d y, En.rel H2 [d] y → ∀ r, f x y = some r → ∃ fi cs, fv = .func (.func fi) #[] cs ∧ (∀ args w, (callFunc fi args).run P w = .ok (.enter fi args) w) ∧ Calls P fi (#[c, d] ++ cs) w2 (Sc H2 w2 (.int .i64 r)))
    (k0 : ∀ (p : Option Addr) (cap : Nat) (fv : Value) (w : World), Calls P fid #[.slice p 0 cap, fv] w fun e w' => e = .returned (.tuple #[]) ∧ w' = w)
    (k1 : ∀ (α : Type) [Inhabited α] (enc : α → Value) (_ : OneCell enc) (cf : α → α → Int) (_ : SWO (ltOf cf)) (g : Nat) (cb : Array Value) (blk off cap : Nat) (d : Array α) (w : World)
      (_ : ∀ args w, (callFunc g args).run P w = .ok (.enter g args) w) (_ : CmpLays1 P g cb enc cf blk off d.size w) (_ : Holds enc w blk off d) (_ : blk < w.heap.size) (_ : d.size < 4611686018427387904),
      Calls P fid #[.slice (some ⟨blk, off, Option.none⟩) d.size cap, .func (.func g) #[] cb] w fun e w' => e = .returned (.tuple #[]) ∧ ∃ d' n os, PermIn 0 d.size d d' ∧ SortedIn (ltOf cf) 0 d.size d' ∧ w' = sortWorld enc w blk off n d' os)
    (hr : Pu.sortF f xs = some r) :
    Calls P fid #[v, fv] w fun e' w' => e' = .returned (.tuple #[]) ∧ ∃ cells', St H0 w0 H w' (l.set i (.row e 1 v n cells')) ∧ Els G En 1 cells' r ∧ cells'.Perm cells := by
  obtain ⟨⟨cf, hlim, hc, hirr, htr, hntr, hanti⟩, rfl⟩ := sortF_some hr
  obtain ⟨⟨g1, g2⟩, g3⟩ := h.ok i _ hi
  have hlen := he.length
  have hset : l.set i (.row e 1 v n cells) = l := by
    apply List.ext_getElem?
    intro j
    rw [List.getElem?_set]
    split
    · rename_i hij; subst hij; rw [hi]; simp [(List.getElem?_eq_some_iff.1 hi).1]
    · rfl
  rcases g2 with ⟨rfl, rfl⟩ | ⟨g, cap, cur, rfl, hg, hh, hle, hcm, hsz, htk⟩
  · have : xs = [] := by rw [g1] at hlen; apply List.eq_nil_of_length_eq_zero; omega
    subst this
    refine (k0 Option.none 0 fv w).mono ?_
    rintro _ _ ⟨rfl, rfl⟩
    exact ⟨rfl, cells, by rw [hset]; exact h, by simpa using he, List.Perm.refl _⟩
  · match xs, he, hlen, hlim, hc, hirr, htr, hntr, hanti with
    | [], he, hlen, _, _, _, _, _, _ =>
      have : n = 0 := by rw [g1] at hlen; simpa using hlen
      subst this
      refine (k0 (some ⟨g, 0, Option.none⟩) cap fv w).mono ?_
      rintro _ _ ⟨rfl, rfl⟩
      exact ⟨rfl, cells, by rw [hset]; exact h, by simpa using he, List.Perm.refl _⟩
    | x0 :: xs0, he, hlen, hlim, hc, hirr, htr, hntr, hanti =>
      generalize hxs : x0 :: xs0 = xs at *
      obtain ⟨d, hd1, hd2⟩ := els1_arr he xs (fun _ hx => hx)
      have hx0 : xs[0]? = some x0 := by rw [← hxs]; rfl
      obtain ⟨c0, hc0, hr0⟩ := els1_some he hx0
      have hx0m : x0 ∈ xs := by rw [← hxs]; simp
      haveI : Inhabited (El1 En G xs) := ⟨⟨(c0, x0), hr0, hx0m⟩⟩
      obtain ⟨fi, cs, rfl, heg, _⟩ := hf H w (Inc.rfl H) h.sl c0 x0 (En.mono hG hr0) c0 x0 (En.mono hG hr0) _ (hc x0 hx0m x0 hx0m)
      obtain ⟨hH, hblk, hdl, hcap, hcm2⟩ := h.holds1 hi d hd1
      let cf' : El1 En G xs → El1 En G xs → Int := fun p q => cf p.x q.x
      have hlt : ∀ p q, ltOf cf' p q = decide (cf p.x q.x < 0) := fun p q => rfl
      have hO : SWO (ltOf cf') := ⟨fun p => by rw [hlt, decide_eq_false_iff_not]; exact hirr _ p.2.2,
        fun p q s a b => by rw [hlt, decide_eq_true_eq] at *; exact htr _ p.2.2 _ q.2.2 _ s.2.2 a b,
        fun p q s a b => by rw [hlt, decide_eq_false_iff_not] at *; exact hntr _ p.2.2 _ q.2.2 _ s.2.2 a b⟩
      have hcmp : CmpLays1 P fi cs El1.enc cf' g 0 d.toArray.size w := fun m os dk hs p q => by
        have hsl := h.sl_sorted hi (enc := El1.enc) (m := m) dk os
        obtain ⟨fi', cs', hfv, _, hcall⟩ := hf H _ (Inc.rfl H) hsl _ _ (En.mono hG p.2.1) _ _ (En.mono hG q.2.1) _ (hc _ p.2.2 _ q.2.2)
        cases hfv
        refine hcall.mono ?_
        rintro _ W' ⟨rfl, hrun⟩
        exact ⟨rfl, hrun.grown rfl⟩
      have hK := k1 _ El1.enc El1.oneCell cf' hO fi cs g 0 cap d.toArray w heg hcmp hH hblk (by have hdx := congrArg List.length hd2; simp only [List.length_map] at hdx; simp only [lim] at hlim; simp only [List.size_toArray]; omega)
      simp only [List.size_toArray, hdl] at hK
      refine hK.mono ?_
      rintro _ _ ⟨rfl, d', m, os, hp, hso, rfl⟩
      have hd'l : d'.size = n := by rw [hp.1]; simp [hdl]
      have hT := h.turned (m := m) (n' := n) hi El1.oneCell d'.toList os (by simp [hd'l]) (by simp [hd'l])
      have hpm : d'.toList.Perm d := by
        have := hp.2.2
        rw [show (n : Nat) = d'.size from hd'l.symm] at this
        rw [Array.extract_size, hd'l] at this
        rw [show n = d.toArray.size by simp [hdl]] at this
        rw [Array.extract_size] at this
        simpa using this
      refine ⟨rfl, _, by simpa using hT, ?_, by rw [List.take_of_length_le (by simp [hd'l]), ← hd1]; exact hpm.map El1.enc⟩
      have hE : Els G En 1 (d'.toList.map El1.enc) (d'.toList.map El1.x) := els1_of _
      rw [List.take_of_length_le (by simp [hd'l])]
      have : d'.toList.map El1.x = xs.mergeSort (leF f) := by
        have hpx : (d'.toList.map El1.x).Perm xs := (hpm.map El1.x).trans (by rw [hd2])
        have hmem : ∀ y ∈ d'.toList.map El1.x, y ∈ xs := fun y hy => hpx.mem_iff.1 hy
        have hms : (xs.mergeSort (leF f)).Perm xs := List.mergeSort_perm _ _
        have hle : ∀ x ∈ xs, ∀ y ∈ xs, leF f x y = !decide (cf y x < 0) := fun x hx y hy => by simp [leF, hc y hy x hx]
        refine List.Perm.eq_of_pairwise (le := fun x y => x ∈ xs ∧ y ∈ xs ∧ leF f x y = true) ?_ ?_ ?_ (hpx.trans hms.symm)
        · intro a b _ _ h1 h2
          obtain ⟨ha, hb, h1⟩ := h1
          obtain ⟨_, _, h2⟩ := h2
          rw [hle _ ha _ hb] at h1
          rw [hle _ hb _ ha] at h2
          simp only [Bool.not_eq_true', decide_eq_false_iff_not] at h1 h2
          exact hanti a ha b hb h2 h1
        · rw [List.pairwise_iff_getElem]
          intro a b ha hb hab
          refine ⟨hmem _ (List.getElem_mem _), hmem _ (List.getElem_mem _), ?_⟩
          rw [hle _ (hmem _ (List.getElem_mem _)) _ (hmem _ (List.getElem_mem _))]
          simp only [List.length_map, Array.length_toList] at ha hb
          have := hso a b (Nat.zero_le _) hab (by omega)
          rw [hlt, getElem!_pos d' b (by omega), getElem!_pos d' a (by omega)] at this
          simpa using this
        · have hpw : (xs.mergeSort (leF f)).Pairwise fun x y => leF f x y = true := by
            let le' : El1 En G xs → El1 En G xs → Bool := fun p q => !decide (cf q.x p.x < 0)
            have hm := List.map_mergeSort (r := le') (s := leF f) (f := El1.x) (l := d) (fun a _ b _ => (hle _ a.2.2 _ b.2.2).symm)
            rw [hd2] at hm
            rw [← hm, List.pairwise_map]
            have hs' := List.pairwise_mergeSort (le := le') ?_ ?_ d
            · refine hs'.imp ?_
              intro a b hab
              exact (hle a.x a.2.2 b.x b.2.2).trans hab
            · intro a b c h1 h2
              simp only [le', Bool.not_eq_true', decide_eq_false_iff_not] at h1 h2 ⊢
              exact hntr _ c.2.2 _ b.2.2 _ a.2.2 h2 h1
            · intro a b
              simp only [le', Bool.or_eq_true, Bool.not_eq_true', decide_eq_false_iff_not]
              by_cases h1 : cf b.x a.x < 0
              · right
                intro h2
                exact hirr _ b.2.2 (htr _ b.2.2 _ a.2.2 _ b.2.2 h1 h2)
              · exact .inl h1
          rw [List.pairwise_iff_getElem] at hpw ⊢
          intro a b ha hb hab
          exact ⟨hms.mem_iff.1 (List.getElem_mem _), hms.mem_iff.1 (List.getElem_mem _), hpw a b ha hb hab⟩
      rw [← this]
      exact hE
/-! slices.Compact -/
theorem St.compactF {G : GH} [DecidableEq A] [Inhabited A] (h : St H0 w0 H w l) {i : Nat} {cells : List Value} (hi : l[i]? = some (.row e 1 v n cells)) {xs : List A} (he : Els G En 1 cells xs) {fid : Nat} {enc : A → Value} (h1 : OneCell enc)
    (henc : ∀ (H : GH) c x, En.rel H [c] x → c = enc x) (hrel : ∀ (H : GH) x, En.rel H [enc x] x) (z : A)
    (k0 : ∀ (w : World), Calls P fid #[.slice Option.none 0 0] w fun e w' => e = .returned (.slice Option.none 0 0) ∧ w' = w)
    (k1 : ∀ (blk off cap : Nat) (d : Array A) (w : World) (_ : Holds enc w blk off d) (_ : d.size ≤ 9223372036854775807) (_ : d.size ≤ cap),
      Calls P fid #[.slice (some ⟨blk, off, Option.none⟩) d.size cap] w fun e w' => e = .returned (.slice (some ⟨blk, off, Option.none⟩) (Go.Lib.compactUpTo d d.size).length cap) ∧
        ∃ q, w' = Go.Sort.putRow enc (Sort.ahead w q) blk off (Go.Lib.compactUpTo d d.size ++ List.replicate (d.size - (Go.Lib.compactUpTo d d.size).length) z).toArray) :
    Calls P fid #[v] w fun e' w' => ∃ v' n' cells', e' = .returned v' ∧ St H0 w0 H w' (l.set i (.row e 1 v' n' cells')) ∧ Els G En 1 cells' (compactL xs) := by
  obtain ⟨⟨g1, g2⟩, g3⟩ := h.ok i _ hi
  have hlen := he.length
  have hset : l.set i (.row e 1 v n cells) = l := by
    apply List.ext_getElem?
    intro j
    rw [List.getElem?_set]
    split
    · rename_i hij; subst hij; rw [hi]; simp [(List.getElem?_eq_some_iff.1 hi).1]
    · rfl
  rcases g2 with ⟨rfl, rfl⟩ | ⟨g, cap, cur, rfl, hg, hh, hle, hcm, hsz, htk⟩
  · have : xs = [] := by rw [g1] at hlen; apply List.eq_nil_of_length_eq_zero; omega
    subst this
    refine (k0 w).mono ?_
    rintro _ _ ⟨rfl, rfl⟩
    exact ⟨_, _, cells, rfl, by rw [hset]; exact h, by simpa [compactL] using he⟩
  · have hcells : xs.map enc = cells := by
      clear hi g1 g3 hset htk hlen
      induction he with
      | nil => rfl
      | snoc hp hc hx ih =>
        rename_i cells xs c x
        match c, hc, hx with
        | [c0], _, hx => rw [List.map_append, ih, henc _ _ _ hx]; rfl
    obtain ⟨hH, hblk, hdl, hcap, hcm2⟩ := h.holds1 hi xs hcells
    have hK := k1 g 0 cap xs.toArray w hH (by simp [hdl]; simp only [maxLen] at hcm; omega) (by simp [hdl]; omega)
    simp only [List.size_toArray, hdl] at hK
    have hcl : Go.Lib.compactUpTo xs.toArray n = compactL xs := by rw [← hdl]; exact compactL_eq xs
    rw [hcl] at hK
    refine hK.mono ?_
    rintro _ _ ⟨rfl, q, rfl⟩
    have hcle : (compactL xs).length ≤ n := by rw [← hdl]; exact compactL_le xs
    have hT := h.turned (m := q) (n' := (compactL xs).length) hi h1 (compactL xs ++ List.replicate (n - (compactL xs).length) z) #[] (by simp) (by simp; omega)
    unfold sortWorld at hT
    rw [grow_empty, List.take_left'  rfl] at hT
    refine ⟨_, _, _, rfl, hT, ?_⟩
    generalize compactL xs = ys
    rw [← List.reverse_reverse ys]
    generalize ys.reverse = ys
    induction ys with
    | nil => exact .nil
    | cons y ys ih => rw [List.reverse_cons, List.map_append]; exact .snoc ih rfl (hrel _ _)
end
end Go.Mr
namespace Go.Proofs
open Go.Shelf Go.RowKit Go.Lib Go.Sort
theorem compact_none {P : Program} {ρ : Ren} (L : SlLaysE.n43 P ρ) (w : World) :
    Calls P (ρ.f 43) #[.slice none 0 0] w fun e w' => e = .returned (.slice none 0 0) ∧ w' = w := by
  have mixed := L.mixed; have t0 := L.t0; have a0 := L.a0; have z0 := L.z0; have v0 := L.v0; have t3 := L.t3; have a3 := L.a3; have z3 := L.z3; have v3 := L.v3; have t4 := L.t4; have a4 := L.a4; have z4 := L.z4; have v4 := L.v4; have t22 := L.t22; have a22 := L.a22; have z22 := L.z22; have v22 := L.v22; have a23 := L.a23; have z23 := L.z23
  obtain ⟨_, _, FG⟩ := L.f43
  go_enter FG, SlBodyN.n43_ntmps ρ
  go_wp2
  go_ret
  exact ⟨rfl, rfl⟩
end Go.Proofs
namespace Go.Mr
open Go.RowKit Go.Pu Go.Sort
open Go.Proofs (OneCell CmpLays1 sortWorld ltOf)
section
variable {P : Program} {w w' : World} {H0 H H' : GH} {w0 : World} {l : List MO} {e n : Nat} {v : Value}
theorem els_eI {G : GH} {cells : List Value} {xs : List Int} (h : Els G eI 1 cells xs) : cells = xs.map (Value.int .i64) := by
  induction h with
  | nil => rfl
  | snoc _ _ hx ih => rw [ih, eI_open hx]; simp
theorem eI_els {G : GH} (xs : List Int) : Els G eI 1 (xs.map (Value.int .i64)) xs := by
  rw [← List.reverse_reverse xs]
  generalize xs.reverse = d
  induction d with
  | nil => exact .nil
  | cons p d ih => rw [List.reverse_cons, List.map_append]; exact .snoc ih rfl rfl
theorem sortI_some {xs r : List Int} (h : sortI xs = some r) : xs.length ≤ lim ∧ r = xs.mergeSort (fun x y => decide (x ≤ y)) := by
  unfold sortI at h
  split at h
  · rename_i hh; cases h; exact ⟨hh, rfl⟩
  · cases h
theorem St.sortInts {G : GH} (h : St H0 w0 H w l) {i : Nat} {cells : List Value} (hi : l[i]? = some (.row e 1 v n cells)) {xs r : List Int} (he : Els G eI 1 cells xs) {fid : Nat}
    (k0 : ∀ (p : Option Addr) (cap : Nat) (w : World), Calls P fid #[.slice p 0 cap] w fun e w' => e = .returned (.tuple #[]) ∧ w' = w)
    (k1 : ∀ (blk off cap : Nat) (zs : List Int) (w : World) (_ : Holds (Value.int .i64) w blk off zs.toArray) (_ : blk < w.heap.size) (_ : zs.length < 4611686018427387904),
      Calls P fid #[.slice (some ⟨blk, off, Option.none⟩) zs.length cap] w fun e w' => e = .returned (.tuple #[]) ∧ ∃ n os, w' = sortWorld (Value.int .i64) w blk off n (zs.mergeSort fun x y => decide (x ≤ y)).toArray os)
    (hr : sortI xs = some r) :
    Calls P fid #[v] w fun e' w' => e' = .returned (.tuple #[]) ∧ ∃ cells', St H0 w0 H w' (l.set i (.row e 1 v n cells')) ∧ Els G eI 1 cells' r := by
  obtain ⟨hlim, rfl⟩ := sortI_some hr
  obtain ⟨⟨g1, g2⟩, g3⟩ := h.ok i _ hi
  have hlen := he.length
  have hset : l.set i (.row e 1 v n cells) = l := by
    apply List.ext_getElem?
    intro j
    rw [List.getElem?_set]
    split
    · rename_i hij; subst hij; rw [hi]; simp [(List.getElem?_eq_some_iff.1 hi).1]
    · rfl
  rcases g2 with ⟨rfl, rfl⟩ | ⟨g, cap, cur, rfl, hg, hh, hle, hcm, hsz, htk⟩
  · have : xs = [] := by rw [g1] at hlen; apply List.eq_nil_of_length_eq_zero; omega
    subst this
    refine (k0 Option.none 0 w).mono ?_
    rintro _ _ ⟨rfl, rfl⟩
    exact ⟨rfl, cells, by rw [hset]; exact h, by simpa using he⟩
  · have hc := els_eI he
    obtain ⟨hH, hblk, hdl, hcap, hcm2⟩ := h.holds1 hi (enc := Value.int .i64) xs hc.symm
    have hK := k1 g 0 cap xs w hH hblk (by unfold lim at hlim; omega)
    rw [hdl] at hK
    refine hK.mono ?_
    rintro _ _ ⟨rfl, m, os, rfl⟩
    have hT := h.turned (m := m) (n' := n) hi (enc := Value.int .i64) (fun _ => rfl) (xs.mergeSort fun x y => decide (x ≤ y)) os (by simp [hdl]) (by simp [hdl])
    refine ⟨rfl, _, hT, ?_⟩
    rw [List.take_of_length_le (by simp [hdl])]
    exact eI_els _
end
end Go.Mr
namespace Go.Mr
open Go.RowKit Go.Pu
/-- a piece of code with a post on the act itself -/
def FT {δ : List Nat} (P : Program) (N : Nat) (c : Code) (Q : Exit → Act → World → Prop) (f : Fm) (w : World) : Prop :=
  ∀ a, Fr (δ := δ) N a f → c.wpIn Fence.wide 2 P Q a w
section
variable {δ : List Nat} {P : Program} {N : Nat} {Q : Exit → Act → World → Prop} {f : Fm} {w : World}
theorem FT.last {c : Code} (h : FW (ρ := none) (δ := δ) P N c (fun e f w => ∀ a, Fr (δ := δ) N a f → Q e a w) f w) : FT (δ := δ) P N c Q f w := by
  intro a ha
  refine wpIn_mono (h 2 a ha) ?_
  rintro e a' w' ⟨f', hf, q⟩
  exact q a' hf
theorem FT.seq {x y : Code} (h : FW (ρ := none) (δ := δ) P N x (thenF (fun f w => FT (δ := δ) P N y Q f w) (fun e f w => ∀ a, Fr (δ := δ) N a f → Q e a w)) f w) : FT (δ := δ) P N (.seq x y) Q f w := by
  intro a ha
  refine wpIn_seq (wpIn_mono (h 2 a ha) ?_)
  rintro e a' w' ⟨f', hf, q⟩
  cases e <;> exact q a' hf
/-- from the body to the call -/
theorem calls_goM {P : Program} {fid N : Nat} {fn : Func} {c : Code} {args : List Value} {w : World} {R : Ending → World → Prop}
    (hf : P.funcs[fid]? = some fn) (hb : fn.body = some c) (hn : fn.ntmps = N) (hsz : Nat.ble args.length N = true)
    (h : FT (δ := []) P N c (bodyPostM Fence.wide 2 P fn R) (fr0 args) w) : Calls P fid args.toArray w R := by
  have hle : args.length ≤ N := Nat.le_of_ble_eq_true hsz
  subst hn
  refine (callsIn_wide (n := 2)).1 (callsIn_of_wp_marks hf hb trivial (h _ ⟨rfl, by simp; omega, ?_⟩))
  simpa using fr0_ok args fn.ntmps
/-- the end, no mark -/
theorem ends0 {fn : Func} {R : Ending → World → Prop} (h : ∀ a, Fr (δ := []) N a f → ∃ v, (results fn a.tmps).run P w = .ok v w ∧ R (.returned v) w) {e : Exit} (he : e = .normal ∨ e = .ret) :
    ∀ a, Fr (δ := []) N a f → bodyPostM Fence.wide 2 P fn R e a w := by
  intro a ha
  have hd : a.defers = [] := ha.dfr
  rcases he with rfl | rfl <;> (show LeavesInM Fence.wide 2 P fn a.tmps R a.defers .returning w; rw [hd]; exact h a ha)
/-- the end, with a mark: its block is shut -/
theorem ends1 {fn : Func} {R : Ending → World → Prop} {D : Nat} (hD : w.heap[D]? = some (.deferred (some [])))
    (h : ∀ a, Fr (δ := [D]) N a f → ∃ v, (results fn a.tmps).run P (w.putObj D (.deferred none)) = .ok v (w.putObj D (.deferred none)) ∧ R (.returned v) (w.putObj D (.deferred none))) {e : Exit} (he : e = .normal ∨ e = .ret) :
    ∀ a, Fr (δ := [D]) N a f → bodyPostM Fence.wide 2 P fn R e a w := by
  intro a ha
  have hd : a.defers = [dmark D] := ha.dfr
  have key : LeavesInM Fence.wide 2 P fn a.tmps R a.defers .returning w := by
    rw [hd]
    exact ⟨by simp, .inl ⟨D, _, rfl, run_takeDeferred hD, h a ha⟩⟩
  rcases he with rfl | rfl <;> exact key
end
end Go.Mr
namespace Go.Mr
open Go.RowKit Go.Pu
section
variable {P : Program} {w w' : World} {H0 H Hs : GH} {w0 : World} {l l0 T : List MO} {N : Nat} {f : Fm}
theorem St.rot {o : MO} (h : St H0 w0 H w (o :: l)) : St H0 w0 H w (l ++ [o]) := by
  have key : ∀ (i : Nat) (x : MO), (l ++ [o])[i]? = some x → (o :: l)[if i < l.length then i + 1 else 0]? = some x ∧ i ≤ l.length := by
    intro i x hx
    rw [List.getElem?_append] at hx
    by_cases hi : i < l.length
    · rw [if_pos hi] at hx ⊢; exact ⟨by simpa using hx, by omega⟩
    · rw [if_neg hi] at hx ⊢
      have h0 : i - l.length = 0 := by
        rcases Nat.eq_zero_or_pos (i - l.length) with h | h
        · exact h
        · rw [List.getElem?_eq_none (by simp; omega)] at hx; cases hx
      rw [h0] at hx; exact ⟨by simpa using hx, by omega⟩
  refine ⟨h.run, fun i x hx => h.ok _ x (key i x hx).1, fun i x b hx => h.out _ x b (key i x hx).1, fun i j x y b hx hy h1 h2 => ?_⟩
  have e := h.dis _ _ x y b (key i x hx).1 (key j y hy).1 h1 h2
  have := (key i x hx).2; have := (key j y hy).2
  split at e <;> split at e <;> omega
theorem St.rawPush (h : St H0 w0 H w l) (obj : Obj) : St H0 w0 H (w.alloc obj) (l ++ [.raw w.heap.size obj]) :=
  (h.push (.raw w.heap.size obj) obj ⟨heap_alloc_new w obj, h.size⟩ (fun b hb => by simpa [MO.blk] using hb.symm)).rot
theorem putObj_grown (w : World) (b : Nat) (o : Obj) : w.grownBy (w.putObj b o) (some b) := ⟨rfl, rfl, rfl, by simp, fun k _ hk => World.putObj_heap_other (fun e => hk (by rw [e]))⟩
theorem St.rawPut {i b : Nat} {o : Obj} (o' : Obj) (h : St H0 w0 H w l) (hi : l[i]? = some (.raw b o)) : St H0 w0 H (w.putObj b o') (l.set i (.raw b o')) := by
  have hok := h.ok i _ hi
  exact h.upd hi (putObj_grown w b o') (Nat.le_refl _) ⟨World.putObj_heap_same (Array.getElem?_eq_some_iff.1 hok.1).1, hok.2⟩ (fun b' hb => .inl hb)
theorem St.rawAt {i b : Nat} {o : Obj} (h : St H0 w0 H w l) (hi : l[i]? = some (.raw b o)) : w.heap[b]? = some o := (h.ok i _ hi).1
/-- a state that says the same whatever else lies beside it -/
def NJ (Hs H0 : GH) (w0 : World) (J : List MO → World → Prop) : Prop :=
  ∀ T W, J T W → ∃ H l0, St H0 w0 H W (l0 ++ T) ∧ Inc Hs H ∧ ∀ T' W', St H0 w0 H W' (l0 ++ T') → J T' W'
variable {J : List MO → World → Prop}
theorem NJ.sl (n : NJ Hs H0 w0 J) (h : J T w) : Sl Hs w := let ⟨_, _, S, i, _⟩ := n _ _ h; fun b o hb => S.sl b o (i b o hb)
theorem NJ.push (n : NJ Hs H0 w0 J) (h : J T w) (obj : Obj) : J (T ++ [.raw w.heap.size obj]) (w.alloc obj) := by
  obtain ⟨H, l0, S, _, k⟩ := n _ _ h
  refine k _ _ ?_
  rw [← List.append_assoc]; exact S.rawPush obj
theorem NJ.at1 (n : NJ Hs H0 w0 J) {b : Nat} {o : Obj} (h : J (.raw b o :: T) w) : w.heap[b]? = some o := by
  obtain ⟨H, l0, S, _, k⟩ := n _ _ h
  exact S.rawAt (i := l0.length) (by simp)
theorem NJ.at2 (n : NJ Hs H0 w0 J) {a : MO} {b : Nat} {o : Obj} (h : J (a :: .raw b o :: T) w) : w.heap[b]? = some o := by
  obtain ⟨H, l0, S, _, k⟩ := n _ _ h
  exact S.rawAt (i := l0.length + 1) (by simp)
theorem NJ.put1 (n : NJ Hs H0 w0 J) {b : Nat} {o : Obj} (o' : Obj) (h : J (.raw b o :: T) w) : J (.raw b o' :: T) (w.putObj b o') := by
  obtain ⟨H, l0, S, _, k⟩ := n _ _ h
  have := S.rawPut (i := l0.length) o' (b := b) (o := o) (by simp)
  exact k _ _ (by simpa using this)
theorem St.put2 {a : MO} {b : Nat} {o : Obj} (o' : Obj) (S : St H0 w0 H w (l0 ++ (a :: .raw b o :: T))) : St H0 w0 H (w.putObj b o') (l0 ++ (a :: .raw b o' :: T)) := by
  have := S.rawPut (i := l0.length + 1) o' (b := b) (o := o) (by simp)
  simpa [List.set_append] using this
theorem NJ.put2 (n : NJ Hs H0 w0 J) {a : MO} {b : Nat} {o : Obj} (o' : Obj) (h : J (a :: .raw b o :: T) w) : J (a :: .raw b o' :: T) (w.putObj b o') := by
  obtain ⟨H, l0, S, _, k⟩ := n _ _ h
  exact k _ _ (S.put2 o')
theorem NJ.drop2 (n : NJ Hs H0 w0 J) {a b : MO} (h : J (a :: b :: T) w) : J (a :: T) w := by
  obtain ⟨H, l0, S, _, k⟩ := n _ _ h
  have := S.drop (l0.length + 1)
  refine k _ _ ?_
  rw [List.eraseIdx_append_of_length_le (by omega)] at this
  simpa using this
/-- the block of a loop's marks is shut -/
theorem St.shut {D : Nat} {o : Obj} (S : St H0 w0 H w (l ++ [.raw D o])) (o' : Obj) : St H0 w0 H (w.putObj D o') l := by
  have h1 := S.rawPut (i := l.length) o' (b := D) (o := o) (by simp)
  have h2 := h1.drop l.length
  rw [List.set_append_right _ _ (Nat.le_refl _), List.eraseIdx_append_of_length_le (Nat.le_refl _)] at h2
  simpa using h2
theorem St.shutAt {D : Nat} {o : Obj} (S : St H0 w0 H w (l ++ [.raw D o])) : w.heap[D]? = some o := S.rawAt (i := l.length) (by simp)
@[reducible] def iterPost (K : Nat → World → Prop) (Kx : World → Prop) (n : Nat) : Ending → World → Prop := fun e W' => (∃ v, e = .returned v) ∧ (K n W' ∨ Kx W')
/-- a function value that yields L, one behind another, where what Hs says stays -/
def IterOk {A : Type} (P : Program) (Hs : GH) (gf : Nat) (lb : Array Value) (encs : A → List Value) (L : List A) : Prop :=
  ∀ (l : Nat) (K : Nat → World → Prop) (Kx : World → Prop) (W : World), (∀ j W, K j W → Sl Hs W) →
    (∀ j x W1, L[j]? = some x → K j W1 → ∀ n, YieldAt Fence.wide n P l (encs x).toArray W1 fun e W' => (e = .returned (.bool true) ∧ K (j + 1) W') ∨ (e = .returned (.bool false) ∧ Kx W')) →
    K 0 W → Calls P gf (#[.func (.yield l) #[] #[]] ++ lb) W (iterPost K Kx L.length)
def setF : Fm → List Nat → List Value → Fm
  | f, p :: ps, v :: vs => setF (upd f p v) ps vs
  | f, _, _ => f
theorem Fr.setF : ∀ (ps : List Nat) (vs : List Value) {a : Act} {f : Fm}, Fr (δ := []) N a f → ps.all (Nat.blt · N) = true →
    Fr (δ := []) N { tmps := (ps.zip vs).foldl (fun t p => t.setIfInBounds p.1 p.2) a.tmps, defers := [] } (setF f ps vs)
  | [], vs, a, f, h, _ => by
    have : a.defers = [] := h.dfr
    simpa [Mr.setF] using (⟨rfl, h.sz, h.val⟩ : Fr (δ := []) N { tmps := a.tmps, defers := [] } f)
  | p :: ps, [], a, f, h, _ => by simpa [Mr.setF] using (⟨rfl, h.sz, h.val⟩ : Fr (δ := []) N { tmps := a.tmps, defers := [] } f)
  | p :: ps, v :: vs, a, f, h, hp => by
    simp only [List.all_cons, Bool.and_eq_true] at hp
    have h1 := Fr.setF ps vs (h.put (nblt hp.1) v) hp.2
    simpa [Mr.setF, Act.put] using h1
@[reducible] def rndQ {S X : Type} (id : Nat) (J : List MO → S → World → Prop) (E : List MO → X → World → Prop) (T : List MO) (o : Lp S X) : FQ := fun e _ W =>
  match o with
  | .nx s => e = .normal ∧ J T s W
  | .bk s => e = .exit id ∧ J T s W
  | .rt x => e = .ret ∧ E T x W
end
theorem FT.range {P : Program} {N id : Nat} {g : Operand} {ps : Array Tmp} {assign body : Code} {Q : Exit → Act → World → Prop} {f : Fm} {w : World} {gf : Nat} {lb : Array Value}
    {A B S X : Type} {Hs H0 : GH} {w0 : World} {L : List A} {pj : A → B} {encs : A → List Value} {rb : Nat → B → S → Option (Lp S X)} {s0 : S} {q : Rs S X}
    (hg : ev f g = .func (.func gf) #[] lb) (eg : ∀ args w, (callFunc gf args).run P w = .ok (.enter gf args) w) (hit : IterOk P Hs gf lb encs L)
    (hlt : ps.toList.all (Nat.blt · N) = true) (hps : ∀ a, (encs a).length = ps.size)
    (J : List MO → S → World → Prop) (E : List MO → X → World → Prop) (nJ : ∀ s, NJ Hs H0 w0 (J · s)) (nE : ∀ x, NJ Hs H0 w0 (E · x))
    (h0 : J [] s0 w) (hq : forL (L.map pj) rb s0 = some q)
    (hrnd : ∀ (l i : Nat) (T T' : List MO) (a : A) (s : S) (W : World) (o : Lp S X), L[i]? = some a → J T s W → rb i (pj a) s = some o →
      FW (ρ := some l) (δ := []) P N assign (fun e f1 W1 => e = .normal ∧ ∃ H l0, St H0 w0 H W1 (l0 ++ T) ∧
        ∀ W2, St H0 w0 H W2 (l0 ++ T') → FW (ρ := some l) (δ := []) P N body (rndQ id J E T' o) f1 W2) (setF f ps.toList (encs a)) W)
    (hgo : ∀ D s, q = .go s → ∀ W, J [.raw D (.deferred (some []))] s W → ∀ a, Fr (δ := [D]) N a f → Q .normal a W)
    (hrt : ∀ D x, q = .rt x → ∀ W, E [.raw D (.deferred (some []))] x W → ∀ a, Fr (δ := [D]) N a f → Q .ret a W) :
    FT (δ := []) P N (.block id (.rangeFunc g ps assign body)) Q f w := by
  intro a ha
  have had : a.defers = [] := ha.dfr
  refine wpIn_block (wpIn_rangeFunc ?_)
  intro fn _
  obtain ⟨rec, hrec⟩ : ∃ rec : LoopState → Option Code → Loop, rec = fun st pe => { state := st, pending := pe, fn, tmps := a.tmps, params := ps, assign, body, defers := w.heap.size } := ⟨_, rfl⟩
  refine ⟨w.heap.size + 1, [dmark w.heap.size], (w.alloc (.deferred (some []))).alloc (.loop (rec .ready none)), { target := .fn (.func gf) lb, args := #[.func (.yield (w.heap.size + 1)) #[] #[]] },
    (w.alloc (.deferred (some []))).alloc (.loop (rec .ready none)), gf, #[.func (.yield (w.heap.size + 1)) #[] #[]] ++ lb, (w.alloc (.deferred (some []))).alloc (.loop (rec .ready none)), ?_, ?_, fun _ _ => trivial, ?_, (fun h => nomatch h), ?_⟩
  · rw [hrec]; exact run_enterLoop_outer _ _ _ _ _
  · have hge : a.eval g = .func (.func gf) #[] lb := by rw [ha.eval]; exact hg
    simp only [resolve, hge]
    simp [go_sem]
  · simp [invoke, go_sem, eg]
  have hfr : Fr (δ := [w.heap.size]) N { a with defers := [dmark w.heap.size] ++ a.defers } f := ⟨by rw [had]; rfl, ha.sz, ha.val⟩
  generalize hD : w.heap.size = D at *
  have J1 : J [.raw D (.deferred (some [])), .raw (D + 1) (.loop (rec .ready none))] s0 ((w.alloc (.deferred (some []))).alloc (.loop (rec .ready none))) := by
    have h1 := (nJ s0).push h0 (.deferred (some []))
    have h2 := (nJ s0).push h1 (.loop (rec .ready none))
    simpa [hD] using h2
  have endL : ∀ (st : LoopState) (pe : Option Code) (W : World), st ≠ .busy → W.heap[D + 1]? = some (.loop (rec st pe)) → (Instr.endLoop (D + 1)).run P W = .ok pe (W.putObj (D + 1) (.loop { rec st pe with state := .exhausted })) := fun st pe W hb hW => by
    have := run_endLoop (P := P) hW (by rw [hrec]; exact hb)
    rw [this, hrec]
  refine callsIn_wide.2 ((hit (D + 1) (fun j W => ∃ s, J [.raw D (.deferred (some [])), .raw (D + 1) (.loop (rec .ready none))] s W ∧ forLFrom rb ((L.map pj).drop j) j s = some q)
    (fun W => (∃ s, q = .go s ∧ J [.raw D (.deferred (some [])), .raw (D + 1) (.loop (rec .done (some (.exit id))))] s W) ∨ (∃ x, q = .rt x ∧ E [.raw D (.deferred (some [])), .raw (D + 1) (.loop (rec .done (some .ret)))] x W))
    _ (fun j W ⟨s, hj, _⟩ => (nJ s).sl hj) ?_ ⟨s0, J1, hq⟩).mono ?_)
  · rintro j x W hx ⟨s, hj, hf⟩ n
    have hdr : (L.map pj).drop j = pj x :: (L.map pj).drop (j + 1) := by
      have : (L.map pj)[j]? = some (pj x) := by simp [hx]
      obtain ⟨hlt, he⟩ := List.getElem?_eq_some_iff.1 this
      rw [List.drop_eq_getElem_cons hlt, he]
    rw [hdr] at hf
    unfold forLFrom at hf
    have hrec1 := (nJ s).at2 hj
    have hy := run_yield (P := P) (args := (encs x).toArray) hrec1 (by rw [hrec]; exact hps x)
    have htm : ((rec .ready none).params.zip (encs x).toArray).foldl (fun tmps (t, a) => tmps.setIfInBounds t a) (rec .ready none).tmps = (ps.toList.zip (encs x)).foldl (fun t p => t.setIfInBounds p.1 p.2) a.tmps := by
      rw [hrec]
      show (ps.zip (encs x).toArray).foldl _ a.tmps = _
      rw [← Array.foldl_toList, Array.toList_zip]
    rw [htm] at hy
    have e1 : (rec .ready none).fn = fn := by rw [hrec]
    have e2 : (rec .ready none).assign = assign := by rw [hrec]
    have e3 : (rec .ready none).body = body := by rw [hrec]
    rw [e1, e2, e3] at hy
    refine ⟨fn, _, assign, body, hy, roundIn_of_wpIn trivial ?_⟩
    cases hb : rb j (pj x) s with
    | none => rw [hb] at hf; cases hf
    | some o =>
      rw [hb] at hf
      have hw := hrnd (D + 1) j _ [.raw D (.deferred (some [])), .raw (D + 1) (.loop (rec .busy none))] x s W o hx hj hb n _ (Fr.setF ps.toList (encs x) ha hlt)
      refine wpIn_mono hw ?_
      rintro e a1 W1 ⟨f1, hf1, rfl, H, l0, S1, hcont⟩
      have hr1 : W1.heap[D + 1]? = some (.loop (rec .ready none)) := S1.rawAt (i := l0.length + 1) (by simp)
      refine ⟨_, run_beginRound hr1 (by rw [hrec]), ?_⟩
      have hbody := hcont (W1.putObj (D + 1) (.loop { rec .ready none with state := .busy })) (by
        have := S1.put2 (.loop { rec .ready none with state := .busy })
        rw [hrec] at this ⊢; exact this) n a1 hf1
      refine wpIn_mono hbody ?_
      rintro e2 a2 W3 ⟨f2, hf2, hR⟩
      have fin : ∀ (jump : Option Code), W3.heap[D + 1]? = some (.loop (rec .busy none)) →
          (Instr.endRound (D + 1) jump).run P W3 = .ok (.bool jump.isNone) (W3.putObj (D + 1) (.loop (rec (if jump.isNone then .ready else .done) jump))) := fun jump h3 => by
        have := run_endRound (P := P) jump h3
        rw [this, hrec]
      cases o with
      | nx s' =>
        obtain ⟨rfl, hJ⟩ := hR
        exact ⟨_, _, fin none ((nJ s').at2 hJ), .inl ⟨rfl, s', (nJ s').put2 _ hJ, hf⟩⟩
      | bk s' =>
        obtain ⟨rfl, hJ⟩ := hR
        cases hf
        exact ⟨_, _, fin (some (.exit id)) ((nJ s').at2 hJ), .inr ⟨rfl, .inl ⟨s', rfl, (nJ s').put2 _ hJ⟩⟩⟩
      | rt x' =>
        obtain ⟨rfl, hE⟩ := hR
        cases hf
        exact ⟨_, _, fin (some .ret) ((nE x').at2 hE), .inr ⟨rfl, .inr ⟨x', rfl, (nE x').put2 _ hE⟩⟩⟩
  · rintro e W2 ⟨⟨v, rfl⟩, hK⟩
    rcases hK with ⟨s, hj, hf⟩ | ⟨s, rfl, hj⟩ | ⟨x, rfl, hj⟩
    · have hdn : (L.map pj).drop L.length = [] := by simp
      rw [hdn] at hf
      unfold forLFrom at hf
      cases hf
      exact ⟨none, _, endL .ready none W2 (by nofun) ((nJ s).at2 hj), hgo D s rfl _ ((nJ s).drop2 ((nJ s).put2 _ hj)) _ hfr⟩
    · refine ⟨some (.exit id), _, endL .done _ W2 (by nofun) ((nJ s).at2 hj), wpIn_exit ?_⟩
      simp only [Exit.inBlock, if_true]
      exact hgo D s rfl _ ((nJ s).drop2 ((nJ s).put2 _ hj)) _ hfr
    · refine ⟨some .ret, _, endL .done _ W2 (by nofun) ((nE x).at2 hj), wpIn_ret ?_⟩
      exact hrt D x rfl _ ((nE x).drop2 ((nE x).put2 _ hj)) _ hfr
end Go.Mr
namespace Go.Mr
open Go.RowKit Go.Pu
section
variable {P : Program} {N : Nat} {Q : FQ} {f : Fm} {w : World} {δ : List Nat} {ops : Array Oper} {o : Oper} {rest : List Oper}
theorem FT.seqT {x y : Code} {Q : Exit → Act → World → Prop} (h : FT (δ := δ) P N x (Exit.then (fun a w => y.wpIn Fence.wide 2 P Q a w) Q) f w) : FT (δ := δ) P N (.seq x y) Q f w :=
  fun a ha => wpIn_seq (h a ha)
theorem FT.then_ {y : Code} {Q : Exit → Act → World → Prop} (h : FT (δ := δ) P N y Q f w) : ∀ a, Fr (δ := δ) N a f → Exit.then (fun a w => y.wpIn Fence.wide 2 P Q a w) Q .normal a w := h
theorem E.yield {d : Option Tmp} {ty : TypeId} {pos : String} {aft : Array Edge} {gd : Option (Nat × Bool)} {x : Operand} {xs : Array Operand} {ts : Array TypeId} {l : Nat} {args : Array Value}
    (hx : ev f x = .func (.yield l) #[] #[]) (ha : xs.map (ev f) = args) : (execOp (ev f) ⟨d, .call ⟨.value x, xs, ts⟩, ty, pos, aft, gd⟩).run P w = (Instr.yield l args).run P w := by
  subst ha
  simp [execOp, resolve, invoke, hx, Deferred.ofValue]
theorem FL.yield {d l : Nat} {args : List Value} {R : Ending → World → Prop} (hw : wF ops f o = true) (hd : o.dst = some d) (hlt : Nat.blt d N = true)
    (hr : (execOp (ev f) o).run P w = (Instr.yield l args.toArray).run P w) (hy : ∀ n, YieldAt Fence.wide n P l args.toArray w R)
    (h : ∀ e w', R e w' → ∃ v, e = .returned v ∧ FL (ρ := none) (δ := δ) P N ops Q rest (upd f d v) w') : FL (ρ := none) (δ := δ) P N ops Q (o :: rest) f w := by
  intro n a ha
  refine wpListIn_step fun K hK => ?_
  rw [ha.yielded, if_pos (show Region.wanted o (yF ops f) = true from hw)]
  refine ⟨fun _ _ => trivial, ?_⟩
  show Oper.uponIn (wideR none) n P o a K (lift (δ := δ) N Q) ((Oper.semAt none a.eval o).run P w)
  obtain ⟨fn, tmps, assign, body, hyr, hR⟩ := hy (n - 1)
  rw [ha.eval, semAt_go (by intro d e; cases e) (hr.trans hyr), Oper.uponIn_round, hd]
  refine ⟨(fun h => by cases h), hR.mono fun e w' r => ?_⟩
  obtain ⟨v, rfl, hv⟩ := h e w' r
  exact hK _ _ (hv n _ (ha.put (nblt hlt) v))
end
/-- what slices.Backward yields: the values, with what they say -/
theorem back_list {A : Type} {Hs : GH} {En : Enc A} {k : Nat} {v : Value} {xs : List A} (hv : RSl Hs En k v xs) (mkv : List Value → Value) :
    ∃ L : List (Value × A × Nat), L.map Prod.snd = xs.zipIdx.reverse ∧ ∀ j a, L[j]? = some a → a.2.2 + j + 1 = xs.length ∧
      ∃ p cs, PtrOf k v (a.2.2 : Int) p ∧ cs.length = k ∧ CAt Hs p cs ∧ En.rel Hs cs a.2.1 ∧ a.1 = mkv cs := by
  have h1 : ∀ i : Nat, ∃ u, ∀ x, xs[i]? = some x → ∃ p cs, PtrOf k v (i : Int) p ∧ cs.length = k ∧ CAt Hs p cs ∧ En.rel Hs cs x ∧ u = mkv cs := by
    intro i
    cases hx : xs[i]? with
    | none => exact ⟨undef, nofun⟩
    | some x =>
      obtain ⟨p, cs, a, b, c, d⟩ := hv.at (ix_nat hx)
      exact ⟨mkv cs, fun x' h => by cases h; exact ⟨p, cs, a, b, c, d, rfl⟩⟩
  have h2 := Classical.axiomOfChoice h1
  obtain ⟨g, hg⟩ := h2
  refine ⟨xs.zipIdx.reverse.map fun p => (g p.2, p), by simp [Function.comp_def], ?_⟩
  intro j a ha
  rw [List.getElem?_map] at ha
  cases hz : xs.zipIdx.reverse[j]? with
  | none => rw [hz] at ha; cases ha
  | some p =>
    rw [hz] at ha
    cases ha
    have hj : j < xs.length := by have := (List.getElem?_eq_some_iff.1 hz).1; simpa using this
    rw [List.getElem?_reverse (by simpa using hj)] at hz
    simp only [List.length_zipIdx, List.getElem?_zipIdx] at hz
    cases hx : xs[xs.length - 1 - j]? with
    | none => rw [hx] at hz; cases hz
    | some x =>
      rw [hx] at hz
      simp at hz
      subst hz
      exact ⟨by show xs.length - 1 - j + j + 1 = xs.length; omega, hg _ _ hx⟩
end Go.Mr
namespace Go.Mr
open Go.RowKit Go.Pu
def eP {α : Type} (E : Enc α) (k : Nat) : Enc α := ⟨fun H cs x => ∃ p cs', cs = [.pointer (some p)] ∧ cs'.length = k ∧ CAt H p cs' ∧ E.rel H cs' x,
  by rintro H H' cs x hi ⟨p, cs', h1, h2, h3, h4⟩; exact ⟨p, cs', h1, h2, h3.mono hi, E.mono hi h4⟩,
  by rintro H cs x ⟨p, cs', rfl, _⟩; simp [Value.oneCell'], by rintro H cs x ⟨p, cs', rfl, _⟩ b hb; simp [bl, neb] at hb⟩
theorem New.nilv {H : GH} : New H [.slice none 0 0] := fun b hb => by simp [bl, neb] at hb
/-! drawn regions with guards -/
section
variable {δ : List Nat} {P : Program} {N : Nat} {f : Fm} {w : World} {ops : Array Oper} {S : World → Prop} {M : Fm → World → Prop} {n : Nat} {ls l' : Array Bool}
theorem FA.skip {i : Nat} {o : Oper} (hi : ops[i]? = some o) (hs : Region.noSelect ops = true) (hf : Region.free .any ops ls i = true) (hr : (Region.ready .any ops ls).contains i = true)
    (hl : ls.setIfInBounds i true = l') (hS : S w) (hw : wF ops f o = false) (hlt : (o.dst.all fun t => Nat.blt t N) = true)
    (h : FA (δ := δ) P N ops S M n l' (putF f o.dst undef) w) : FA (δ := δ) P N ops S M (n + 1) ls f w := by
  subst hl
  intro a ha
  refine wpAnyH_take hi hs hf hr (fun c a w hq => ?_) (.inr ⟨by rw [ha.yielded]; exact hw, rfl⟩) hS ?_
  · obtain ⟨_, _, h0, _⟩ := hq; cases h0
  · exact h _ (ha.putF (nbltO hlt) undef)
theorem E.asB {o : Oper} {a b : Bool} (h : (execOp (ev f) o).run P w = .ok (.value (.bool a)) w) (e : a = b) : (execOp (ev f) o).run P w = .ok (.value (.bool b)) w := e ▸ h
end
end Go.Mr
namespace Go.Mr
open Go.RowKit Go.Pu Go.Shelf Go.Sort
section
variable {P : Program} {H0 H : GH} {w0 w : World} {l : List MO} {e n : Nat} {v : Value} {A : Type} {En : Enc A}
theorem Els.delete {G : GH} {cells : List Value} {xs : List A} (he : Els G En 1 cells xs) (i j : Nat) (hij : i ≤ j) (hj : j ≤ xs.length) : Els G En 1 (cells.take i ++ cells.drop j) (xs.take i ++ xs.drop j) := by
  have hl := he.length
  refine els1_mk _ _ (by simp; omega) fun m u x hu hx => ?_
  rw [List.getElem?_append] at hu hx
  simp only [List.length_take] at hu hx
  have get : ∀ (q : Nat), cells[q]? = some u → xs[q]? = some x → En.rel G [u] x := fun q h1 h2 => by
    obtain ⟨c, hc, hr⟩ := els1_some he h2
    rw [h1] at hc; cases hc; exact hr
  by_cases hm : m < i
  · rw [if_pos (by omega), List.getElem?_take_of_lt hm] at hu hx
    exact get m hu hx
  · rw [if_neg (by omega), List.getElem?_drop] at hu hx
    have e1 : j + (m - min i cells.length) = j + (m - min i xs.length) := by rw [Nat.min_eq_left (by omega), Nat.min_eq_left (by omega)]
    rw [e1] at hu
    exact get _ hu hx
abbrev OC := { v : Value // v.oneCell' = true }
instance : Inhabited OC := ⟨⟨.int .i64 0, rfl⟩⟩
theorem St.deleteF {G : GH} (h : St H0 w0 H w l) {i : Nat} {cells : List Value} (hi : l[i]? = some (.row e 1 v n cells)) {xs r : List A} (he : Els G En 1 cells xs) {fid : Nat} (z : OC) {a b : Int} (hr : delL xs a b = some r)
    (k1 : ∀ (blk off cap i j : Nat) (d : Array OC) (w : World) (_ : Holds (fun x : OC => x.1) w blk off d) (_ : d.size ≤ cap) (_ : cap ≤ 9223372036854775807) (_ : i ≤ j) (_ : j ≤ d.size),
      Calls P fid #[.slice (some ⟨blk, off, Option.none⟩) d.size cap, .int .i64 i, .int .i64 j] w fun e w' => e = .returned (.slice (some ⟨blk, off, Option.none⟩) (d.size - (j - i)) cap) ∧
        ∃ q, w' = Go.Sort.putRow (fun x : OC => x.1) (Sort.ahead w q) blk off (d.toList.take i ++ d.toList.drop j ++ List.replicate (j - i) z).toArray) :
    Calls P fid #[v, .int .i64 a, .int .i64 b] w fun e' w' => ∃ v' n' cells', e' = .returned v' ∧ St H0 w0 H w' (l.set i (.row e 1 v' n' cells')) ∧ Els G En 1 cells' r := by
  obtain ⟨h0, hab, hb, rfl⟩ := delL_some hr
  obtain ⟨⟨g1, g2⟩, g3⟩ := h.ok i _ hi
  have hlen := he.length
  rcases g2 with ⟨rfl, rfl⟩ | ⟨g, cap, cur, rfl, hg, hh, hle, hcm, hsz, htk⟩
  · exfalso; rw [g1] at hlen; omega
  · obtain ⟨d, hd⟩ : ∃ d : List OC, d.map (fun x => x.1) = cells := by
      clear hi htk hlen he g1
      induction cells with
      | nil => exact ⟨[], rfl⟩
      | cons c cs ih =>
        obtain ⟨d, hd⟩ := ih (fun u hu => g3 u (by simp [hu]))
        exact ⟨⟨c, g3 c (by simp)⟩ :: d, by simp [hd]⟩
    obtain ⟨hH, hblk, hdl, hcap, hcm2⟩ := h.holds1 hi d hd
    have ha' : ((a.toNat : Nat) : Int) = a := by omega
    have hb' : ((b.toNat : Nat) : Int) = b := by omega
    have hK := k1 g 0 cap a.toNat b.toNat d.toArray w hH (by simp [hdl]; omega) (by simp only [maxLen] at hcm; omega) (by omega) (by simp [hdl]; omega)
    simp only [List.size_toArray, hdl, ha', hb'] at hK
    refine hK.mono ?_
    rintro _ _ ⟨rfl, q, rfl⟩
    have hT := h.turned (m := q) (n' := n - (b.toNat - a.toNat)) hi (enc := fun x : OC => x.1) (fun x => x.2) (d.take a.toNat ++ d.drop b.toNat ++ List.replicate (b.toNat - a.toNat) z) #[] (by simp; omega) (by simp; omega)
    refine ⟨_, n - (b.toNat - a.toNat), ((d.take a.toNat ++ d.drop b.toNat ++ List.replicate (b.toNat - a.toNat) z).take (n - (b.toNat - a.toNat))).map (fun x => x.1), rfl, ?_, ?_⟩
    · unfold Go.Proofs.sortWorld at hT
      rw [grow_empty] at hT
      exact hT
    · have e2 : (d.take a.toNat ++ d.drop b.toNat ++ List.replicate (b.toNat - a.toNat) z).take (n - (b.toNat - a.toNat)) = d.take a.toNat ++ d.drop b.toNat := by
        rw [List.take_append_of_le_length (by simp; omega), List.take_of_length_le (by simp; omega)]
      rw [e2, List.map_append, List.map_take, List.map_drop, hd]
      exact he.delete _ _ (by omega) (by omega)
/-! a row's tail, that is read -/
variable {f : Fm} {d : Option Tmp} {ty : TypeId} {pos : String} {aft : Array Edge} {gd : Option (Nat × Bool)} {x : Operand} {k : Nat} {z : Value}
theorem PtrOf.uniq {i : Int} {p q : Addr} (h1 : PtrOf k v i p) (h2 : PtrOf k v i q) : p = q := by
  obtain ⟨a, m, c, rfl, _, _, rfl⟩ := h1
  obtain ⟨a', m', c', hv, _, _, rfl⟩ := h2
  cases hv; rfl
theorem PtrOf.tail {v' : Value} {a i : Int} {q : Addr} (ht : TailOf k v a v') (h : PtrOf k v (a + i) q) (h0 : 0 ≤ i) : PtrOf k v' i q := by
  obtain ⟨p, len, cap, rfl, h1, h2, h3, rfl⟩ := ht
  obtain ⟨p0, len', cap', hv, g0, g1, rfl⟩ := h
  cases hv
  rw [if_neg (by omega)]
  refine ⟨_, _, _, rfl, h0, by omega, ?_⟩
  rw [addr_add_add, ← Nat.add_mul]
  congr 2
  omega
theorem St.tailLn {G : GH} (h : St H0 w0 H w l) {i : Nat} {cells : List Value} (hi : l[i]? = some (.row e k v n cells)) {xs : List A} (he : Els G En k cells xs) (hk : 0 < k) {a : Int} {v' : Value} (ht : TailOf k v a v') : ∃ m : Nat, Ln v' m ∧ (m : Int) = Pu.len xs - a := by
  have hn := h.row_n hi he hk
  obtain ⟨a', c', hv⟩ := h.row_ln hi
  obtain ⟨p, len, cap, rfl, h1, h2, h3, rfl⟩ := ht
  cases hv
  refine ⟨_, ⟨_, _, rfl⟩, ?_⟩
  simp only [Pu.len]; omega
theorem E.lenT {G : GH} {t e' : Nat} (te : TE P t e' k z) {v' : Value} (hx : ev f x = v') (h : St H0 w0 H w l) {i : Nat} {cells : List Value} (hi : l[i]? = some (.row e k v n cells)) {xs : List A} (he : Els G En k cells xs) (hk : 0 < k) {a : Int} (ht : TailOf k v a v') :
    (execOp (ev f) ⟨d, .call ⟨.builtin .len, #[x], #[t]⟩, ty, pos, aft, gd⟩).run P w = .ok (.value (.int .i64 (Pu.len xs - a))) w := by
  obtain ⟨m, h1, h2⟩ := h.tailLn hi he hk ht
  rw [← h2]; exact E.len te hx h1
end
end Go.Mr
