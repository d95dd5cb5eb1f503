/- Regions whose order is drawn within a round of a range over a function. -/
import Derived.Test.YtdkfkiifbagnnaaMr24
import Derived.OrdersIn
namespace Go.Mr
open Go.RowKit Go.Pu
def noDefer (l : List Oper) : Bool := l.all fun o => match o.op with | .defer _ => false | _ => true
section
variable {ρ : Option Nat} {P : Program} {ops : Array Oper} {Q : Exit → Act → World → Prop} {md : Region.Mode}
theorem uponIn_of_upon {n : Nat} {o : Oper} {a : Act} {K : Act → World → Prop} {r : Result Next} (h : o.upon P a K Q r) : o.uponIn (wideR ρ) n P a K Q r := by
  cases r with
  | ok x w' =>
    cases x <;> simp only [Oper.upon] at h <;> simp only [Oper.uponIn]
    case value => exact h
    case skip => exact h
    case defer => exact h
    case enter f args => exact ⟨(fun h => by cases h), callsIn_wideR (h.mono fun e w'' he => by cases e <;> exact he)⟩
    case row r args =>
      refine ⟨(fun h => by cases h), fun c cs _ => ?_⟩
      obtain ⟨v, w2, h1, h2⟩ := h c cs
      exact ⟨v, w2, h1, stepsIn_wide.2 h2⟩
  | halt x w' => cases x <;> simp only [Oper.upon] at h <;> first | exact h | exact h.elim
theorem wpOpIn_of_wpOp {n : Nat} (hd : noDefer ops.toList = true) (hL : ¬ LetsOut Q) {i : Nat} {K : Act → World → Prop} {a : Act} {w : World} (h : wpOp P ops Q i K a w) : wpOpIn (wideR ρ) n P ops Q i K a w := by
  unfold wpOp at h
  unfold wpOpIn
  cases ho : ops[i]? with
  | none => simpa [ho] using h
  | some o =>
    simp only [ho] at h ⊢
    have hn : ∀ c, o.op ≠ .defer c := by
      intro c hc
      have := List.all_eq_true.1 hd o (by
        have := Array.mem_of_getElem? ho
        simpa using this)
      rw [hc] at this; cases this
    split
    · rename_i hw
      simp only [hw, if_true] at h
      rcases h with h | h
      · refine ⟨fun _ _ => trivial, ?_⟩
        rw [Oper.semAt_eq _ _ _ hn]
        exact uponIn_of_upon h
      · exact absurd h.2 hL
    · rename_i hw
      simp only [hw] at h
      exact ⟨fun _ _ => trivial, h⟩
theorem wpAnyIn_of_wpAny {n : Nat} (hd : noDefer ops.toList = true) (hL : ¬ LetsOut Q) : ∀ (m : Nat) (ls : Array Bool) (a : Act) (w : World), wpAny P md ops Q m ls a w → wpAnyIn (wideR ρ) n P md ops Q m ls a w
  | 0, _, _, _, h => h
  | m + 1, _, _, _, h => ⟨h.1, fun i hi => wpOpIn_mono (fun _ _ k => wpAnyIn_of_wpAny hd hL m _ _ _ k) (wpOpIn_of_wpOp hd hL (h.2 i hi))⟩
end
section
variable {δ : List Nat} {P : Program} {N : Nat} {f : Fm} {w : World} {H : GH}
theorem FW.drawR {ρ : Option Nat} {Q : FQ} {id : Nat} {l : List Oper} (C : World → Prop) (hm : P.follows .mixedOrders = true) (hB : Region.lexB .any l.toArray = true) (hn : noDefer l = true) (hC : C { w with drawn := w.drawn + 1 })
    (h : FD (δ := δ) P N l.toArray C (fun f' => ∀ w', C w' → Q .normal f' w') l f) : FW (ρ := ρ) (δ := δ) P N (.region id l.toArray true) Q f w := by
  intro n a ha
  simp only [Region.lexB, Bool.and_eq_true] at hB
  have h1 := h a ha
  have h2 := wpAnyQ_lex (C := C) (md := .any) hB.1 l 0 (Array.replicate l.toArray.size false) a (by simp) (by simpa using hB.2) (by simpa using h1)
  have h3 := wpAny_of_quiet (Q' := lift (δ := δ) N fun e f w => e = .normal ∧ Q .normal f w) (fun a w' hw' (hq : ∃ f', Fr (δ := δ) N a f' ∧ ∀ w', C w' → Q .normal f' w') => by
    obtain ⟨f', hf, hq⟩ := hq; exact ⟨f', hf, rfl, hq w' hw'⟩) _ _ _ _ hC h2
  refine Code.wpIn_mono (Q := lift (δ := δ) N fun e f w => e = .normal ∧ Q .normal f w) (fun e a w ⟨f, hf, he, hM⟩ => he ▸ ⟨f, hf, hM⟩) (wpIn_region_any hm ?_)
  exact wpAnyIn_of_wpAny (by simpa using hn) (by rintro ⟨_, _, _, _, h0, _⟩; cases h0) _ _ _ _ (by simpa using h3)
theorem FW.drawRA {ρ : Option Nat} {Q : FQ} {id : Nat} {l : List Oper} (S : World → Prop) (M : Fm → World → Prop) (hm : P.follows .mixedOrders = true) (hn : noDefer l = true) (hs : Sl H w)
    (h : ∀ w1, Run w.heap.size H w H w1 → FA (δ := δ) P N l.toArray S M l.length (Array.replicate l.length false) f w1) (hQ : ∀ f w, M f w → Q .normal f w) : FW (ρ := ρ) (δ := δ) P N (.region id l.toArray true) Q f w := by
  intro n a ha
  refine Code.wpIn_mono (Q := lift (δ := δ) N fun e f w => e = .normal ∧ M f w) (fun e a w ⟨f, hf, he, hM⟩ => he ▸ ⟨f, hf, hQ f w hM⟩) (wpIn_region_any hm ?_)
  have := h _ (run_drew hs) a ha
  refine wpAnyIn_of_wpAny (by simpa using hn) (by rintro ⟨_, _, _, _, h0, _⟩; cases h0) _ _ _ _ (wpAny_of_held (S := S) _ _ _ _ ?_)
  simpa using this
theorem FW.drawRB {ρ : Option Nat} {Q : FQ} {id : Nat} {l : List Oper} (B : World → Prop) (M : Fm → World → Prop) (hm : P.follows .mixedOrders = true) (hn : noDefer l = true) (hs : Sl H w)
    (h : ∀ w1, Run w.heap.size H w H w1 → FB (δ := δ) P N l.toArray B M [] l.length (Array.replicate l.length false) f w1) (hQ : ∀ f w, M f w → Q .normal f w) : FW (ρ := ρ) (δ := δ) P N (.region id l.toArray true) Q f w := by
  intro n a ha
  refine Code.wpIn_mono (Q := lift (δ := δ) N fun e f w => e = .normal ∧ M f w) (fun e a w ⟨f, hf, he, hM⟩ => he ▸ ⟨f, hf, hQ f w hM⟩) (wpIn_region_any hm ?_)
  have := h _ (run_drew hs) a ha
  refine wpAnyIn_of_wpAny (by simpa using hn) (by rintro ⟨_, _, _, _, h0, _⟩; cases h0) _ _ _ _ (wpAny_of_held (S := fun _ => True) _ _ _ _ (wpAnyI.held (S := SP B []) _ _ _ _ ?_))
  simpa using this
end
end Go.Mr
namespace Go.Mr
open Go.RowKit Go.Pu
section
variable {H : GH} {A A2 : Type} {En : Enc A} {E2 : Enc A2} {k k2 B lo hi : Nat} {v v2 : Value} {xs : List A} {x2 : List A2}
/-- two rows of one call: each has a span of its own -/
theorem New.apart (h : RSl (up B H) En k v xs) (n : New H [v2]) : ∀ b ∈ bl [v], b ∉ bl [v2] := fun b hb hb2 => by
  have h0 := h.dom b hb
  have := n b hb2
  unfold up at h0
  split at h0
  · exact h0 rfl
  · exact h0 (by rw [this]; rfl)
theorem RSl.span1 (h : RSl (sg lo hi H) En k v xs) (hE : FlatE En) (hl : lo ≤ hi) : ∃ b d, lo ≤ b ∧ b ≤ d ∧ d ≤ hi ∧ RSl (sg b d H) En k v xs ∧ ((b = lo ∧ d = lo) ∨ (d = b + 1 ∧ b ∈ bl [v])) := by
  by_cases hb : ∃ b, b ∈ bl [v]
  · obtain ⟨b, hb⟩ := hb
    have h0 := h.dom b hb
    have hin : lo ≤ b ∧ b < hi := by
      cases h1 : sg lo hi H b with
      | none => exact absurd h1 h0
      | some o => obtain ⟨a, b, _, _⟩ := sg_iff.1 h1; exact ⟨a, b⟩
    refine ⟨b, b + 1, hin.1, by omega, by omega, h.only hE.rel fun b' hb' => ?_, .inr ⟨rfl, hb⟩⟩
    have e : b' = b := by
      simp only [bl, List.filterMap_cons, List.filterMap_nil] at hb hb'
      split at hb
      · cases hb
      · rename_i hn
        rw [hn] at hb'
        simp at hb hb'
        omega
    subst e
    have e1 : ¬ b' < lo := by omega
    simp [sg, up, hin.2, e1]
  · exact ⟨lo, lo, Nat.le_refl _, Nat.le_refl _, hl, h.only hE.rel fun b' hb' => absurd ⟨b', hb'⟩ hb, .inl ⟨rfl, rfl⟩⟩
theorem two_spans (h1 : RSl (sg lo hi H) En k v xs) (h2 : RSl (sg lo hi H) E2 k2 v2 x2) (f1 : FlatE En) (f2 : FlatE E2) (hl : lo ≤ hi) (hd : ∀ b ∈ bl [v], b ∉ bl [v2]) :
    ∃ b d b2 d2, (lo ≤ b ∧ b ≤ d ∧ d ≤ hi ∧ lo ≤ b2 ∧ b2 ≤ d2 ∧ d2 ≤ hi ∧ (d ≤ b2 ∨ d2 ≤ b)) ∧ RSl (sg b d H) En k v xs ∧ RSl (sg b2 d2 H) E2 k2 v2 x2 := by
  obtain ⟨b, d, p1, p2, p3, r1, q1⟩ := h1.span1 f1 hl
  obtain ⟨b2, d2, p4, p5, p6, r2, q2⟩ := h2.span1 f2 hl
  refine ⟨b, d, b2, d2, ⟨p1, p2, p3, p4, p5, p6, ?_⟩, r1, r2⟩
  rcases q1 with ⟨rfl, rfl⟩ | ⟨rfl, m1⟩
  · exact .inl p4
  · rcases q2 with ⟨rfl, rfl⟩ | ⟨rfl, m2⟩
    · exact .inr p1
    · have : b ≠ b2 := fun e => hd b m1 (e ▸ m2)
      omega
end
end Go.Mr
