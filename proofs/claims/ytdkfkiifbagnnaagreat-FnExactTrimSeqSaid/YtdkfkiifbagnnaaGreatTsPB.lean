/- Helpers of the walks and plain laws. -/
import Derived.Test.YtdkfkiifbagnnaaGreatTsPA
import Derived.Test.YtdkfkiifbagnnaaGreatTsPf
set_option linter.unusedVariables false
namespace Go.PF
open Go.Pu
def PreP (S : List SeqStep) (k : Nat) (i : Int) (p : Sequent → Prop) : Prop := ∃ j : Nat, i = (j : Int) ∧ j < k ∧ ∃ y, S[j]? = some y ∧ seqB y.seq = true ∧ p y.seq
structure SOk (S : List SeqStep) : Prop where
 len : S.length ≤ 1048576
 sides : ∀ y ∈ S, y.seq.left.length ≤ lim ∧ y.seq.right.length ≤ lim
theorem FQ_good {s : Sequent} (h : seqB s = true) : FQ s := by
 unfold seqB at h
 rw [Bool.and_eq_true, sideB_iff, sideB_iff] at h
 have g : ∀ x, goodB x = true → FT x ∧ x.size ≤ 1000 := fun x hx => ⟨FT_good hx, by
  obtain ⟨_, _, _, _, h80, _⟩ := good_ft hx; omega⟩
 have := h.1.len; have := h.2.len
 exact ⟨fun x hx => g x (h.1.good x hx), fun x hx => g x (h.2.good x hx), by omega, by omega⟩
theorem FT_AB {t : Ft} (h : t.wf = true) (hl : ∀ c, t ≠ .leaf c) (hz : t.txt.length ≤ 80) : (FT t.tA ∧ t.tA.size ≤ 1000) ∧ ((∃ op a b, t = .bin op a b) → FT t.tB ∧ t.tB.size ≤ 1000) := by
 cases t with
 | leaf c => exact absurd rfl (hl c)
 | neg a =>
  simp only [Ft.txt, List.length_cons] at hz
  exact ⟨⟨FT_txt (t := a) h, by show (tx a.txt).size ≤ _; rw [tx_size]; omega⟩, fun ⟨_, _, _, e⟩ => by cases e⟩
 | bin op a b =>
  simp only [Ft.txt, List.length_cons, List.length_append, List.length_nil] at hz
  simp only [Ft.wf, Bool.and_eq_true] at h
  exact ⟨⟨FT_txt h.1.2, by show (tx a.txt).size ≤ _; rw [tx_size]; omega⟩, fun _ => ⟨FT_txt h.2, by show (tx b.txt).size ≤ _; rw [tx_size]; omega⟩⟩
theorem FQ_prem {s : Sequent} {t : Ft} {l : Bool} (hs : seqB s = true) (hw : t.wf = true) (hz : t.txt.length ≤ 80) (h0 : ruleV t l ≠ 0) : ∀ p ∈ premV s (ruleV t l) t, FQ p := by
 have hq := FQ_good hs
 have hl : ∀ c, t ≠ .leaf c := fun c e => by subst e; exact h0 rfl
 obtain ⟨hA, hB⟩ := FT_AB hw hl hz
 have hS := hs
 unfold seqB at hS
 rw [Bool.and_eq_true, sideB_iff, sideB_iff] at hS
 have n1 := hS.1.len
 have n2 := hS.2.len
 have lk : ∀ {m : List ByteArray} {x : ByteArray}, (∀ y ∈ m, FT y ∧ y.size ≤ 1000) → ∀ y ∈ lackS m x, FT y ∧ y.size ≤ 1000 := fun h y hy => h y (List.mem_filter.1 hy).1
 have w : ∀ {m q : List ByteArray}, (∀ y ∈ m, FT y ∧ y.size ≤ 1000) → (∀ y ∈ q, FT y ∧ y.size ≤ 1000) → ∀ y ∈ wS m q, FT y ∧ y.size ≤ 1000 := fun h1 h2 y hy => by
  unfold wS at hy
  rw [mem_setO STO_F, List.mem_append] at hy
  exact hy.elim (h1 y) (h2 y)
 have wl : ∀ m q : List ByteArray, (wS m q).length ≤ m.length + q.length := fun m q => by
  have := setO_len (l := m ++ q)
  unfold wS; rw [List.length_append] at this; exact this
 have k1 := lack_len s.left (tx t.txt)
 have k2 := lack_len s.right (tx t.txt)
 have oneA : ∀ y ∈ [t.tA], FT y ∧ y.size ≤ 1000 := fun y hy => by rw [List.mem_singleton.1 hy]; exact hA
 have a1 := wl s.left [t.tA]; have a2 := wl s.right [t.tA]
 have a3 := wl (lackS s.left (tx t.txt)) [t.tA]; have a4 := wl (lackS s.right (tx t.txt)) [t.tA]
 have a5 := wl (lackS s.left (tx t.txt)) [t.tB]; have a6 := wl (lackS s.right (tx t.txt)) [t.tB]
 have a7 := wl (lackS s.left (tx t.txt)) [t.tA, t.tB]; have a8 := wl (lackS s.right (tx t.txt)) [t.tA, t.tB]
 simp only [List.length_cons, List.length_nil] at a1 a2 a3 a4 a5 a6 a7 a8
 cases t with
 | leaf c => exact absurd rfl (hl c)
 | neg a =>
  cases l with
  | true =>
   intro p hp
   have hp : p ∈ [(⟨lackS s.left (tx (Ft.neg a).txt), wS s.right [(Ft.neg a).tA]⟩ : Sequent)] := hp
   rw [List.mem_singleton.1 hp]
   exact ⟨lk hq.l, w hq.r oneA, by dsimp only; omega, by dsimp only; omega⟩
  | false =>
   intro p hp
   have hp : p ∈ [(⟨wS s.left [(Ft.neg a).tA], lackS s.right (tx (Ft.neg a).txt)⟩ : Sequent)] := hp
   rw [List.mem_singleton.1 hp]
   exact ⟨w hq.l oneA, lk hq.r, by dsimp only; omega, by dsimp only; omega⟩
 | bin op a b =>
  have hB := hB ⟨op, a, b, rfl⟩
  have oneB : ∀ y ∈ [(Ft.bin op a b).tB], FT y ∧ y.size ≤ 1000 := fun y hy => by rw [List.mem_singleton.1 hy]; exact hB
  have both : ∀ y ∈ [(Ft.bin op a b).tA, (Ft.bin op a b).tB], FT y ∧ y.size ≤ 1000 := fun y hy => by
   rcases List.mem_cons.1 hy with rfl | hy
   · exact hA
   · rw [List.mem_singleton.1 hy]; exact hB
  generalize hT : Ft.bin op a b = t at *
  have c1 : FQ ⟨wS (lackS s.left (tx t.txt)) [t.tA, t.tB], s.right⟩ := ⟨w (lk hq.l) both, hq.r, by dsimp only; omega, by dsimp only; omega⟩
  have c2 : FQ ⟨s.left, wS (lackS s.right (tx t.txt)) [t.tA]⟩ := ⟨hq.l, w (lk hq.r) oneA, by dsimp only; omega, by dsimp only; omega⟩
  have c3 : FQ ⟨s.left, wS (lackS s.right (tx t.txt)) [t.tB]⟩ := ⟨hq.l, w (lk hq.r) oneB, by dsimp only; omega, by dsimp only; omega⟩
  have c4 : FQ ⟨wS (lackS s.left (tx t.txt)) [t.tA], s.right⟩ := ⟨w (lk hq.l) oneA, hq.r, by dsimp only; omega, by dsimp only; omega⟩
  have c5 : FQ ⟨wS (lackS s.left (tx t.txt)) [t.tB], s.right⟩ := ⟨w (lk hq.l) oneB, hq.r, by dsimp only; omega, by dsimp only; omega⟩
  have c6 : FQ ⟨s.left, wS (lackS s.right (tx t.txt)) [t.tA, t.tB]⟩ := ⟨hq.l, w (lk hq.r) both, by dsimp only; omega, by dsimp only; omega⟩
  have c7 : FQ ⟨lackS s.left (tx t.txt), wS s.right [t.tA]⟩ := ⟨lk hq.l, w hq.r oneA, by dsimp only; omega, by dsimp only; omega⟩
  have c8 : FQ ⟨wS s.left [t.tA], wS (lackS s.right (tx t.txt)) [t.tB]⟩ := ⟨w hq.l oneA, w (lk hq.r) oneB, by dsimp only; omega, by dsimp only; omega⟩
  intro p hp
  unfold premV at hp
  dsimp only at hp
  split at hp
  · simp only [List.mem_cons, List.not_mem_nil, or_false] at hp; subst hp; exact c7
  split at hp
  · simp only [List.mem_cons, List.not_mem_nil, or_false] at hp; subst hp
    exact ⟨w hq.l oneA, lk hq.r, by dsimp only; omega, by dsimp only; omega⟩
  split at hp
  · simp only [List.mem_cons, List.not_mem_nil, or_false] at hp; subst hp; exact c1
  split at hp
  · simp only [List.mem_cons, List.not_mem_nil, or_false] at hp; rcases hp with rfl | rfl
    · exact c2
    · exact c3
  split at hp
  · simp only [List.mem_cons, List.not_mem_nil, or_false] at hp; rcases hp with rfl | rfl
    · exact c4
    · exact c5
  split at hp
  · simp only [List.mem_cons, List.not_mem_nil, or_false] at hp; subst hp; exact c6
  split at hp
  · simp only [List.mem_cons, List.not_mem_nil, or_false] at hp; rcases hp with rfl | rfl
    · exact c7
    · exact c5
  · simp only [List.mem_cons, List.not_mem_nil, or_false] at hp; subst hp; exact c8
theorem pre_impl {S : List SeqStep} (hS : SOk S) {k : Nat} (hk : k ≤ S.length) {i : Int} {f : Sequent → Option Bool} {p : Sequent → Prop} (hf : ∀ q, seqB q = true → ∃ b, f q = some b ∧ (b = true ↔ p q)) :
 ∃ b, impl_seqCorrect_1 i f (k : Int) S = some b ∧ (b = true ↔ PreP S k i p) := by
 have hl := hS.len
 unfold impl_seqCorrect_1 impl_within
 have hw : wr ((k : Int) - 1) = (k : Int) - 1 := wr_of _ (by omega) (by omega)
 rw [hw]
 by_cases h : 0 ≤ i ∧ i ≤ (k : Int) - 1
 · rw [bifT (decide_eq_true h.1), decide_eq_true h.2, cond_true]
   obtain ⟨j, rfl⟩ := Int.eq_ofNat_of_zero_le h.1
   obtain ⟨y, hy⟩ : ∃ y, S[j]? = some y := ⟨_, List.getElem?_eq_getElem (by omega)⟩
   have sd := hS.sides y (List.mem_of_getElem? hy)
   rw [ix_get, hy, bd_some, impl_IsSequent_eq sd.1 sd.2, bd_some, bd_some]
   cases hq : seqB y.seq with
   | false =>
    refine ⟨_, rfl, ⟨fun g => (by cases g), fun ⟨j', e, _, y', e1, e2, _⟩ => ?_⟩⟩
    have : j' = j := by omega
    subst this
    rw [hy] at e1; cases e1; rw [hq] at e2; cases e2
   | true =>
    obtain ⟨b, b1, b2⟩ := hf y.seq hq
    rw [cond_true, bd_some, b1]
    refine ⟨_, rfl, b2.trans ⟨fun g => ⟨j, rfl, by omega, y, hy, hq, g⟩, fun ⟨j', e, _, y', e1, _, e3⟩ => ?_⟩⟩
    have : j' = j := by omega
    subst this
    rw [hy] at e1; cases e1; exact e3
 · have : (bif decide (0 ≤ i) then decide (i ≤ (k : Int) - 1) else false) = false := by
    by_cases h0 : 0 ≤ i
    · rw [decide_eq_true h0, cond_true]; exact decide_eq_false fun g => h ⟨h0, g⟩
    · rw [decide_eq_false h0]; rfl
   rw [this]
   refine ⟨_, rfl, ⟨fun g => (by cases g), fun ⟨j, e, e2, _⟩ => absurd ⟨by omega, by omega⟩ h⟩⟩
theorem pre_spec {S : List SeqStep} (hS : SOk S) {k : Nat} (hk : k ≤ S.length) {i : Int} : ∃ b, spec_l23Earlier S (k : Int) i = some b ∧ (b = true ↔ PreP S k i fun _ => True) := by
 have hl := hS.len
 unfold spec_l23Earlier spec_l1In
 have hw : wr ((k : Int) - 1) = (k : Int) - 1 := wr_of _ (by omega) (by omega)
 rw [hw]
 by_cases h : 0 ≤ i ∧ i ≤ (k : Int) - 1
 · rw [bifT (decide_eq_true h.1), decide_eq_true h.2, cond_true]
   obtain ⟨j, rfl⟩ := Int.eq_ofNat_of_zero_le h.1
   obtain ⟨y, hy⟩ : ∃ y, S[j]? = some y := ⟨_, List.getElem?_eq_getElem (by omega)⟩
   rw [ix_get, hy, bd_some, spec_l23Good_eq]
   refine ⟨_, rfl, ⟨fun g => ⟨j, rfl, by omega, y, hy, g, trivial⟩, fun ⟨j', e, _, y', e1, e2, _⟩ => ?_⟩⟩
   have : j' = j := by omega
   subst this
   rw [hy] at e1; cases e1; exact e2
 · have : (bif decide (0 ≤ i) then decide (i ≤ (k : Int) - 1) else false) = false := by
    by_cases h0 : 0 ≤ i
    · rw [decide_eq_true h0, cond_true]; exact decide_eq_false fun g => h ⟨h0, g⟩
    · rw [decide_eq_false h0]; rfl
   rw [this]
   refine ⟨_, rfl, ⟨fun g => (by cases g), fun ⟨j, e, e2, _⟩ => absurd ⟨by omega, by omega⟩ h⟩⟩
def PartP (a b : List ByteArray) : Prop := ∀ x ∈ a, x ∈ b
theorem spec_l23Part_eq (a b : List ByteArray) : ∃ r, spec_l23Part a b = some r ∧ (r = true ↔ PartP a b) := by
 unfold spec_l23Part
 rw [forL_any (p := fun _ y => !decide (y ∈ b)) (v := false) (fun i y _ => by rw [spec_l23Has_eq, bd_some]), anyI_any]
 cases h : a.any fun y => !decide (y ∈ b) with
 | true =>
  refine ⟨_, rfl, ⟨fun g => (by cases g), fun g => ?_⟩⟩
  obtain ⟨x, hx, e⟩ := List.any_eq_true.1 h
  rw [Bool.not_eq_true', decide_eq_false_iff_not] at e
  exact absurd (g x hx) e
 | false =>
  refine ⟨_, rfl, ⟨fun _ x hx => ?_, fun _ => rfl⟩⟩
  have := List.any_eq_false.1 h x hx
  simpa using this
theorem impl_contained_eq (a b : List ByteArray) : ∃ r, impl_contained a b = some r ∧ (r = true ↔ PartP a b) := by
 unfold impl_contained
 rw [containsFuncS (g := fun y => !decide (y ∈ b)) (fun y _ => by unfold impl_contained_1; rw [slices_Contains_string_eq]; rfl), bd_some]
 refine ⟨_, rfl, ?_⟩
 rw [Bool.not_eq_true', List.any_eq_false]
 constructor
 · intro h x hx; have := h x hx; simpa using this
 · intro h x hx; simpa using h x hx
def CorP (S : List SeqStep) (k : Nat) (s : SeqStep) : Prop := seqB s.seq = true ∧
  ((s.rule = 1 ∧ bs s.main = [] ∧ s.a = 0 ∧ s.b = 0 ∧ axB s.seq = true) ∨
   (s.rule = 10 ∧ bs s.main = [] ∧ s.b = 0 ∧ PreP S k s.a fun t => PartP t.left s.seq.left ∧ PartP t.right s.seq.right) ∨
   (s.rule = 11 ∧ goodB s.main = true ∧ PreP S k s.a (fun t => (⟨s.seq.left, wS s.seq.right [s.main]⟩ : Sequent) = t) ∧ PreP S k s.b (fun t => (⟨wS s.seq.left [s.main], s.seq.right⟩ : Sequent) = t)) ∨
   (∃ t l, F? (bs s.main) = some t ∧ s.main.size ≤ 80 ∧ s.rule = ruleV t l ∧ s.rule ≠ 0 ∧ s.main ∈ (bif l then s.seq.left else s.seq.right) ∧
     ∃ p r, premV s.seq s.rule t = p :: r ∧ PreP S k s.a (fun x => p = x) ∧ ((r = [] ∧ s.b = 0) ∨ ∃ q, r = [q] ∧ PreP S k s.b (fun x => q = x))))
theorem PreP.wk {S : List SeqStep} {k : Nat} {i : Int} {p q : Sequent → Prop} (h : PreP S k i p) (hpq : ∀ t, p t → q t) : PreP S k i q := by
 obtain ⟨j, h1, h2, y, h3, h4, h5⟩ := h
 exact ⟨j, h1, h2, y, h3, h4, hpq _ h5⟩
theorem PreP.at {S : List SeqStep} {k : Nat} {p : Sequent → Prop} {j : Nat} {y : SeqStep} (hy : S[j]? = some y) (h : PreP S k (j : Int) p) : p y.seq := by
 obtain ⟨j', h1, h2, y', h3, h4, h5⟩ := h
 have : j' = j := by omega
 subst this
 rw [hy] at h3; cases h3; exact h5
end Go.PF
namespace Go.PF
open Go.Pu
theorem isEmp' (s : ByteArray) : (s.toList == (ByteArray.mk #[]).toList) = decide (bs s = []) := by
 rw [isEmp]; cases bs s <;> simp
theorem same_impl {p : Sequent} (x : Sequent) : ∃ b, (fun x0 => impl_seqCorrect_2_1 x0 p) x = some b ∧ (b = true ↔ p = x) := by
 obtain ⟨r, r1, r2⟩ := impl_sameSequent_eq p x
 refine ⟨r, ?_, r2⟩
 show bd (impl_sameSequent p x) (fun r29 => some r29) = _
 rw [r1]; rfl
theorem impl_cor {S : List SeqStep} (hS : SOk S) {k : Nat} {s : SeqStep} (hs : S[k]? = some s) : ∃ b, impl_seqCorrect S (k : Int) = some b ∧ (b = true ↔ CorP S k s) := by
 have hk := lt_of_get hs
 have sd := hS.sides s (List.mem_of_getElem? hs)
 unfold impl_seqCorrect
 rw [ix_get, hs, bd_some, impl_IsSequent_eq sd.1 sd.2, bd_some]
 cases hq : seqB s.seq with
 | false =>
  refine ⟨_, rfl, ⟨fun g => (by cases g), fun g => ?_⟩⟩
  rw [g.1] at hq; cases hq
 | true =>
  have hQ := hq
  unfold seqB at hQ
  rw [Bool.and_eq_true, sideB_iff, sideB_iff] at hQ
  have n1 := hQ.1.len
  have n2 := hQ.2.len
  rw [Bool.not_true, cond_false]
  by_cases r1 : s.rule = 1
  · rw [r1, beq_self_eq_true, cond_true, isEmp']
    have key : ∀ b, (b = true ↔ bs s.main = [] ∧ s.a = 0 ∧ s.b = 0 ∧ axB s.seq = true) → (b = true ↔ CorP S k s) := fun b hb => by
     rw [hb]
     constructor
     · exact fun ⟨h1, h2, h3, h4⟩ => ⟨hq, .inl ⟨r1, h1, h2, h3, h4⟩⟩
     · rintro ⟨_, ⟨_, h⟩ | ⟨e, _⟩ | ⟨e, _⟩ | ⟨t, l, _, _, e, _⟩⟩
       · exact h
       · omega
       · omega
       · have := (ruleV_bd t l).2.2; omega
    by_cases c : bs s.main = [] ∧ s.a = 0 ∧ s.b = 0
    · obtain ⟨c1, c2, c3⟩ := c
      rw [decide_eq_true c1, c2, c3]
      refine ⟨axB s.seq, ?_, key _ ⟨fun h => ⟨c1, c2, c3, h⟩, fun h => h.2.2.2⟩⟩
      show bd (bd (impl_isSeqAxiom s.seq) fun r97 => some r97) (fun t90 => some t90) = _
      rw [impl_isSeqAxiom_eq]; rfl
    · refine ⟨false, ?_, key _ ⟨fun h => (by cases h), fun h => absurd ⟨h.1, h.2.1, h.2.2.1⟩ c⟩⟩
      have : (bif (bif (decide (bs s.main = [])) then (s.a == 0) else false) then (s.b == 0) else false) = false := by
       by_cases c1 : bs s.main = []
       · rw [decide_eq_true c1, cond_true]
         by_cases c2 : s.a = 0
         · rw [c2, beq_self_eq_true, cond_true, beq_eq_false_iff_ne]; exact fun c3 => c ⟨c1, c2, c3⟩
         · rw [beq_eq_false_iff_ne.2 c2]; rfl
       · rw [decide_eq_false c1]; rfl
      rw [this]; rfl
  · rw [beq_eq_false_iff_ne.2 r1, cond_false]
    by_cases r10 : s.rule = 10
    · rw [r10, beq_self_eq_true, cond_true, isEmp']
      have key : ∀ b, (b = true ↔ bs s.main = [] ∧ s.b = 0 ∧ PreP S k s.a fun t => PartP t.left s.seq.left ∧ PartP t.right s.seq.right) → (b = true ↔ CorP S k s) := fun b hb => by
       rw [hb]
       constructor
       · exact fun ⟨h1, h2, h3⟩ => ⟨hq, .inr (.inl ⟨r10, h1, h2, h3⟩)⟩
       · rintro ⟨_, ⟨e, _⟩ | ⟨_, h⟩ | ⟨e, _⟩ | ⟨t, l, _, _, e, _⟩⟩
         · omega
         · exact h
         · omega
         · have := (ruleV_bd t l).2.1; omega
      by_cases c : bs s.main = [] ∧ s.b = 0
      · obtain ⟨c1, c2⟩ := c
        rw [decide_eq_true c1, c2]
        obtain ⟨b, b1, b2⟩ := pre_impl hS (k := k) (by omega) (i := s.a) (f := fun x0 => impl_seqCorrect_3 x0 s) (p := fun t => PartP t.left s.seq.left ∧ PartP t.right s.seq.right) (fun q _ => by
         show ∃ b, impl_seqCorrect_3 q s = some b ∧ _
         unfold impl_seqCorrect_3
         obtain ⟨u, u1, u2⟩ := impl_contained_eq q.left s.seq.left
         obtain ⟨v, v1, v2⟩ := impl_contained_eq q.right s.seq.right
         rw [u1, bd_some]
         cases u with
         | false => exact ⟨_, rfl, ⟨fun g => (by cases g), fun g => absurd (u2.2 g.1) (by simp)⟩⟩
         | true => rw [cond_true, v1]; exact ⟨_, rfl, v2.trans ⟨fun g => ⟨u2.1 rfl, g⟩, fun g => g.2⟩⟩)
        refine ⟨b, ?_, key _ ⟨fun h => ⟨c1, c2, b2.1 h⟩, fun h => b2.2 h.2.2⟩⟩
        show bd (bd (impl_seqCorrect_1 s.a (fun x0 => impl_seqCorrect_3 x0 s) (k : Int) S) fun r126 => some r126) (fun t119 => some t119) = _
        rw [b1]; rfl
      · refine ⟨false, ?_, key _ ⟨fun h => (by cases h), fun h => absurd ⟨h.1, h.2.1⟩ c⟩⟩
        have : (bif (decide (bs s.main = [])) then (s.b == 0) else false) = false := by
         by_cases c1 : bs s.main = []
         · rw [decide_eq_true c1, cond_true, beq_eq_false_iff_ne]; exact fun c3 => c ⟨c1, c3⟩
         · rw [decide_eq_false c1]; rfl
        rw [this]; rfl
    · rw [beq_eq_false_iff_ne.2 r10, cond_false]
      cases hg : goodB s.main with
      | false =>
       rw [impl_parse_bad hg, bd_some]
       refine ⟨false, rfl, ⟨fun g => (by cases g), ?_⟩⟩
       rintro ⟨_, ⟨e, _⟩ | ⟨e, _⟩ | ⟨_, e, _⟩ | ⟨t, l, e, e2, _⟩⟩
       · omega
       · omega
       · rw [hg] at e; cases e
       · rw [good_iff.2 ⟨t, e, e2⟩] at hg; cases hg
      | true =>
       obtain ⟨t, t1, t2, t3, t4, t5⟩ := good_ft hg
       rw [impl_parse_good t1 t4, bd_some]
       dsimp only
       rw [Bool.not_true, cond_false]
       by_cases r11 : s.rule = 11
       · rw [r11, beq_self_eq_true, cond_true, impl_wS (by simp; omega), bd_some]
         obtain ⟨u, u1, u2⟩ := pre_impl hS (k := k) (by omega) (i := s.a) (f := fun x0 => impl_seqCorrect_2_1 x0 ⟨s.seq.left, wS s.seq.right [s.main]⟩) (p := fun t => (⟨s.seq.left, wS s.seq.right [s.main]⟩ : Sequent) = t) (fun q _ => same_impl q)
         obtain ⟨v, v1, v2⟩ := pre_impl hS (k := k) (by omega) (i := s.b) (f := fun x0 => impl_seqCorrect_2_1 x0 ⟨wS s.seq.left [s.main], s.seq.right⟩) (p := fun t => (⟨wS s.seq.left [s.main], s.seq.right⟩ : Sequent) = t) (fun q _ => same_impl q)
         have key : ∀ b, (b = true ↔ u = true ∧ v = true) → (b = true ↔ CorP S k s) := fun b hb => by
          rw [hb, u2, v2]
          constructor
          · exact fun ⟨h1, h2⟩ => ⟨hq, .inr (.inr (.inl ⟨r11, hg, h1, h2⟩))⟩
          · rintro ⟨_, ⟨e, _⟩ | ⟨e, _⟩ | ⟨_, _, h⟩ | ⟨t, l, _, _, e, _⟩⟩
            · omega
            · omega
            · exact h
            · have := (ruleV_bd t l).2.1; omega
         rw [u1, bd_some]
         cases u with
         | false => exact ⟨false, rfl, key _ ⟨fun g => (by cases g), fun g => by cases g.1⟩⟩
         | true =>
          rw [cond_true, impl_wS (by simp; omega), bd_some, v1]
          exact ⟨v, rfl, key _ ⟨fun g => ⟨rfl, g⟩, fun g => g.2⟩⟩
       · obtain ⟨n, g1, g2, _⟩ := Ft.get_eq t
         rw [beq_eq_false_iff_ne.2 r11, cond_false, g1, bd_some, g2, impl_ruleFor_eq t2, impl_ruleFor_eq t2]
         have fit : ∀ (l : Bool) (side : List ByteArray), (bif ruleV t l == s.rule then bd (slices_Contains_string_string side s.main) (fun r => some r) else some false) = some (decide (s.rule = ruleV t l ∧ s.main ∈ side)) := by
          intro l side
          by_cases e : ruleV t l = s.rule
          · rw [beq_iff_eq.2 e, cond_true, slices_Contains_string_eq, bd_some]
            congr 1
            exact decide_eq_decide.2 ⟨fun g => ⟨e.symm, g⟩, fun g => g.2⟩
          · rw [beq_eq_false_iff_ne.2 e, cond_false, decide_eq_false fun g => e g.1.symm]
         rw [fit, bd_some, fit, bd_some]
         have nofit : (∀ l : Bool, ¬ (s.rule = ruleV t l ∧ s.rule ≠ 0 ∧ s.main ∈ (bif l then s.seq.left else s.seq.right))) → ¬ CorP S k s := by
          rintro hno ⟨_, ⟨e, _⟩ | ⟨e, _⟩ | ⟨e, _⟩ | ⟨t', l, e1, e2, e3, e4, e5, _⟩⟩
          · omega
          · omega
          · omega
          · rw [t1] at e1; cases e1
            exact hno l ⟨e3, e4, e5⟩
         by_cases hf : ∃ l : Bool, s.rule = ruleV t l ∧ s.rule ≠ 0 ∧ s.main ∈ (bif l then s.seq.left else s.seq.right)
         · obtain ⟨l, f1, f2, f3⟩ := hf
           have tst : (bif (s.rule == 0) then true else (bif (!decide (s.rule = ruleV t true ∧ s.main ∈ s.seq.left)) then (!decide (s.rule = ruleV t false ∧ s.main ∈ s.seq.right)) else false)) = false := by
            rw [beq_eq_false_iff_ne.2 f2, cond_false]
            cases l with
            | true => rw [decide_eq_true (show s.rule = ruleV t true ∧ s.main ∈ s.seq.left from ⟨f1, f3⟩)]; rfl
            | false =>
             rw [decide_eq_true (show s.rule = ruleV t false ∧ s.main ∈ s.seq.right from ⟨f1, f3⟩)]
             cases decide (s.rule = ruleV t true ∧ s.main ∈ s.seq.left) <;> rfl
           rw [tst, cond_false, impl_premisesOf_eq (by omega) (by omega) ⟨l, f1⟩ f2 t2, bd_some]
           have only : ∀ P : List Sequent → Prop, (CorP S k s ↔ ∃ p r, premV s.seq s.rule t = p :: r ∧ PreP S k s.a (fun x => p = x) ∧ ((r = [] ∧ s.b = 0) ∨ ∃ q, r = [q] ∧ PreP S k s.b (fun x => q = x))) := fun _ => by
            constructor
            · rintro ⟨_, ⟨e, _⟩ | ⟨e, _⟩ | ⟨e, _⟩ | ⟨t', l', e1, e2, e3, e4, e5, h⟩⟩
              · omega
              · omega
              · omega
              · rw [t1] at e1; cases e1; exact h
            · exact fun h => ⟨hq, .inr (.inr (.inr ⟨t, l, t1, t4, f1, f2, f3, h⟩))⟩
           have only := only (fun _ => True)
           have pl := premV_len s.seq s.rule t
           cases hP : premV s.seq s.rule t with
           | nil =>
            exfalso
            unfold premV at hP
            dsimp only at hP
            repeat (split at hP; · cases hP)
            cases hP
           | cons p r =>
            rw [hP] at only pl
            obtain ⟨u, u1, u2⟩ := pre_impl hS (k := k) (by omega) (i := s.a) (f := fun x0 => impl_seqCorrect_2_1 x0 p) (p := fun x => p = x) (fun q _ => same_impl q)
            rw [show ix (p :: r) 0 = some p from rfl, bd_some, u1, bd_some]
            cases u with
            | false =>
             refine ⟨false, rfl, ⟨fun g => (by cases g), fun g => ?_⟩⟩
             obtain ⟨p', r', e, e2, _⟩ := only.1 g
             cases e
             exact u2.2 e2
            | true =>
             rw [Bool.not_true, cond_false]
             cases r with
             | nil =>
              rw [show ((len [p]) == 1) = true from rfl, cond_true]
              refine ⟨_, rfl, ?_⟩
              rw [only, beq_iff_eq]
              constructor
              · exact fun g => ⟨p, [], rfl, u2.1 rfl, .inl ⟨rfl, g⟩⟩
              · rintro ⟨p', r', e, _, ⟨_, g⟩ | ⟨q, e2, _⟩⟩
                · exact g
                · cases e; cases e2
             | cons q r' =>
              have : r' = [] := by
               simp only [List.length_cons] at pl
               exact List.eq_nil_of_length_eq_zero (by omega)
              subst this
              obtain ⟨v, v1, v2⟩ := pre_impl hS (k := k) (by omega) (i := s.b) (f := fun x0 => impl_seqCorrect_2_1 x0 q) (p := fun x => q = x) (fun q _ => same_impl q)
              rw [show ((len [p, q]) == 1) = false from rfl, cond_false, show ix [p, q] 1 = some q from rfl, bd_some, v1]
              refine ⟨v, rfl, ?_⟩
              rw [only, v2]
              constructor
              · exact fun g => ⟨p, [q], rfl, u2.1 rfl, .inr ⟨q, rfl, g⟩⟩
              · rintro ⟨p', r', e, _, ⟨e2, _⟩ | ⟨q', e2, g⟩⟩
                · cases e; cases e2
                · cases e; cases e2; exact g
         · have hno := nofit fun l g => hf ⟨l, g⟩
           have tst : (bif (s.rule == 0) then true else (bif (!decide (s.rule = ruleV t true ∧ s.main ∈ s.seq.left)) then (!decide (s.rule = ruleV t false ∧ s.main ∈ s.seq.right)) else false)) = true := by
            by_cases f2 : s.rule = 0
            · rw [f2]; rfl
            · rw [beq_eq_false_iff_ne.2 f2, cond_false, decide_eq_false (fun g => hf ⟨true, g.1, f2, g.2⟩), decide_eq_false (fun g => hf ⟨false, g.1, f2, g.2⟩)]; rfl
           rw [tst]
           exact ⟨false, rfl, ⟨fun g => (by cases g), fun g => absurd g hno⟩⟩
end Go.PF
namespace Go.PF
open Go.Pu
theorem ruleV_par {t : Ft} {l : Bool} (h : ruleV t l ≠ 0) : ((ruleV t l).tmod 2 == 0) = l := by
 cases t with
 | leaf c => exact absurd rfl h
 | neg a => cases l <;> rfl
 | bin op a b =>
  simp only [ruleV]
  split
  · cases l <;> rfl
  · split
    · cases l <;> rfl
    · cases l <;> rfl
theorem spec_cut {s : Sequent} {m : ByteArray} {t : Ft} (h : F? (bs m) = some t) (hs : m.size ≤ 1000) (h1 : SS ltF s.left) (h2 : SS ltF s.right) (l1 : s.left.length ≤ 1000) (l2 : s.right.length ≤ 1000) :
 spec_l23Premises s 11 m = some [⟨s.left, wS s.right [m]⟩, ⟨wS s.left [m], s.right⟩] := by
 unfold spec_l23Premises
 rw [spec_l22Parts_eq h hs, bd_some, spec_l23Without_eq (by omega), bd_some, spec_l23Without_eq (by omega), bd_some]
 rw [show ((11 : Int) == 2) = false from rfl, show ((11 : Int) == 3) = false from rfl, show ((11 : Int) == 4) = false from rfl, show ((11 : Int) == 5) = false from rfl, show ((11 : Int) == 6) = false from rfl, show ((11 : Int) == 7) = false from rfl, show ((11 : Int) == 8) = false from rfl, show ((11 : Int) == 9) = false from rfl,
  cond_false, cond_false, cond_false, cond_false, cond_false, cond_false, cond_false, cond_false, spec_with h2 (by omega), bd_some, spec_with h1 (by omega), bd_some]
theorem spec_due {S : List SeqStep} (hS : SOk S) {k : Nat} (hk : k ≤ S.length) {s : SeqStep} {ps : List Sequent} {p : Sequent} {r : List Sequent} (hps : ps = p :: r) (hr : r.length ≤ 1) (hF : ∀ x ∈ ps, FQ x) (hA : PreP S k s.a fun _ => True) :
 ∃ b, (bd (ix ps 0) (fun x312 => bd (ix S s.a) (fun x324 => bd (PF.spec_l23Same x312 x324.seq) (fun r330 => (bif (!r330) then some false else (bif ((len ps) == 1) then some (s.b == 0) else bd (PF.spec_l23Earlier S (k : Int) s.b) (fun r338 => bd (bif r338 then bd (ix ps 1) (fun x379 => bd (ix S s.b) (fun x391 => bd (PF.spec_l23Same x379 x391.seq) (fun r397 => some r397))) else some false) (fun t366 => some t366)))))))) = some b ∧
  (b = true ↔ PreP S k s.a (fun x => p = x) ∧ ((r = [] ∧ s.b = 0) ∨ ∃ q, r = [q] ∧ PreP S k s.b (fun x => q = x))) := by
 subst hps
 obtain ⟨j, e, hj, y, hy, hq, _⟩ := hA
 have fp := hF p (List.mem_cons_self ..)
 obtain ⟨u, u1, u2⟩ := spec_l23Same_eq fp (FQ_good hq)
 have pa : PreP S k s.a (fun x => p = x) ↔ u = true := by
  rw [u2]
  constructor
  · intro h; rw [e] at h; exact h.at hy
  · exact fun h => ⟨j, e, hj, y, hy, hq, h⟩
 rw [pa, show ix (p :: r) 0 = some p from rfl, bd_some, e, ix_get, hy, bd_some, u1, bd_some]
 cases u with
 | false => exact ⟨false, rfl, ⟨fun g => (by cases g), fun g => by cases g.1⟩⟩
 | true =>
  rw [Bool.not_true, cond_false]
  cases r with
  | nil =>
   rw [show ((len [p]) == 1) = true from rfl, cond_true]
   refine ⟨_, rfl, ?_⟩
   rw [beq_iff_eq]
   constructor
   · exact fun g => ⟨rfl, .inl ⟨rfl, g⟩⟩
   · rintro ⟨_, ⟨_, g⟩ | ⟨q, e2, _⟩⟩
     · exact g
     · cases e2
  | cons q r' =>
   have : r' = [] := by
    simp only [List.length_cons] at hr
    exact List.eq_nil_of_length_eq_zero (by omega)
   subst this
   have fq := hF q (by simp)
   rw [show ((len [p, q]) == 1) = false from rfl, cond_false]
   obtain ⟨v, v1, v2⟩ := pre_spec hS hk (i := s.b)
   rw [v1, bd_some]
   cases v with
   | false =>
    refine ⟨false, rfl, ⟨fun g => (by cases g), ?_⟩⟩
    rintro ⟨_, ⟨e2, _⟩ | ⟨q', e2, g⟩⟩
    · cases e2
    · exact v2.2 (g.wk fun _ _ => trivial)
   | true =>
    obtain ⟨j2, e2, hj2, y2, hy2, hq2, _⟩ := v2.1 rfl
    obtain ⟨w, w1, w2⟩ := spec_l23Same_eq fq (FQ_good hq2)
    rw [cond_true, show ix [p, q] 1 = some q from rfl, bd_some, e2, ix_get, hy2, bd_some, w1]
    refine ⟨w, rfl, ?_⟩
    rw [w2]
    constructor
    · exact fun g => ⟨rfl, .inr ⟨q, rfl, j2, rfl, hj2, y2, hy2, hq2, g⟩⟩
    · rintro ⟨_, ⟨e3, _⟩ | ⟨q', e3, g⟩⟩
      · cases e3
      · cases e3; exact g.at hy2
theorem spec_cor {S : List SeqStep} (hS : SOk S) {k : Nat} {s : SeqStep} (hs : S[k]? = some s) : ∃ b, spec_l23Correct S (k : Int) = some b ∧ (b = true ↔ CorP S k s) := by
 have hk := lt_of_get hs
 unfold spec_l23Correct
 rw [ix_get, hs, bd_some, spec_l23Good_eq, bd_some]
 cases hq : seqB s.seq with
 | false =>
  refine ⟨_, rfl, ⟨fun g => (by cases g), fun g => ?_⟩⟩
  rw [g.1] at hq; cases hq
 | true =>
  have hQ := hq
  unfold seqB at hQ
  rw [Bool.and_eq_true, sideB_iff, sideB_iff] at hQ
  have n1 := hQ.1.len
  have n2 := hQ.2.len
  rw [Bool.not_true, cond_false]
  by_cases rr : 1 ≤ s.rule ∧ s.rule ≤ 11
  · have hin : spec_l1In s.rule 1 11 = true := by unfold spec_l1In; rw [decide_eq_true rr.1, decide_eq_true rr.2]; rfl
    rw [hin, Bool.not_true, cond_false]
    by_cases r1 : s.rule = 1
    · rw [r1, beq_self_eq_true, cond_true, isEmp']
      have key : ∀ b, (b = true ↔ bs s.main = [] ∧ s.a = 0 ∧ s.b = 0 ∧ axB s.seq = true) → (b = true ↔ CorP S k s) := fun b hb => by
       rw [hb]
       constructor
       · exact fun ⟨h1, h2, h3, h4⟩ => ⟨hq, .inl ⟨r1, h1, h2, h3, h4⟩⟩
       · rintro ⟨_, ⟨_, h⟩ | ⟨e, _⟩ | ⟨e, _⟩ | ⟨t, l, _, _, e, _⟩⟩
         · exact h
         · omega
         · omega
         · have := (ruleV_bd t l).2.2; omega
      by_cases c : bs s.main = [] ∧ s.a = 0 ∧ s.b = 0
      · obtain ⟨c1, c2, c3⟩ := c
        rw [decide_eq_true c1, c2, c3]
        refine ⟨axB s.seq, ?_, key _ ⟨fun h => ⟨c1, c2, c3, h⟩, fun h => h.2.2.2⟩⟩
        show bd (bd (spec_l23Axiom s.seq) fun r97 => some r97) (fun t90 => some t90) = _
        rw [spec_l23Axiom_eq (by omega)]; rfl
      · refine ⟨false, ?_, key _ ⟨fun h => (by cases h), fun h => absurd ⟨h.1, h.2.1, h.2.2.1⟩ c⟩⟩
        have : (bif (bif (decide (bs s.main = [])) then (s.a == 0) else false) then (s.b == 0) else false) = false := by
         by_cases c1 : bs s.main = []
         · rw [decide_eq_true c1, cond_true]
           by_cases c2 : s.a = 0
           · rw [c2, beq_self_eq_true, cond_true, beq_eq_false_iff_ne]; exact fun c3 => c ⟨c1, c2, c3⟩
           · rw [beq_eq_false_iff_ne.2 c2]; rfl
         · rw [decide_eq_false c1]; rfl
        rw [this]; rfl
    · rw [beq_eq_false_iff_ne.2 r1, cond_false]
      obtain ⟨ea, ea1, ea2⟩ := pre_spec hS (k := k) (by omega) (i := s.a)
      rw [ea1, bd_some]
      cases ea with
      | false =>
       refine ⟨false, rfl, ⟨fun g => (by cases g), fun g => ?_⟩⟩
       refine ea2.2 ?_
       rcases g with ⟨_, ⟨e, _⟩ | ⟨_, _, _, h⟩ | ⟨_, _, h, _⟩ | ⟨_, _, _, _, _, _, _, _, _, _, h, _⟩⟩
       · exact absurd e r1
       · exact h.wk fun _ _ => trivial
       · exact h.wk fun _ _ => trivial
       · exact h.wk fun _ _ => trivial
      | true =>
       have hA := ea2.1 rfl
       rw [Bool.not_true, cond_false]
       by_cases r10 : s.rule = 10
       · rw [r10, beq_self_eq_true, cond_true, isEmp']
         have key : ∀ b, (b = true ↔ bs s.main = [] ∧ s.b = 0 ∧ PreP S k s.a fun t => PartP t.left s.seq.left ∧ PartP t.right s.seq.right) → (b = true ↔ CorP S k s) := fun b hb => by
          rw [hb]
          constructor
          · exact fun ⟨h1, h2, h3⟩ => ⟨hq, .inr (.inl ⟨r10, h1, h2, h3⟩)⟩
          · rintro ⟨_, ⟨e, _⟩ | ⟨_, h⟩ | ⟨e, _⟩ | ⟨t, l, _, _, e, _⟩⟩
            · omega
            · exact h
            · omega
            · have := (ruleV_bd t l).2.1; omega
         by_cases c : bs s.main = [] ∧ s.b = 0
         · obtain ⟨c1, c2⟩ := c
           rw [decide_eq_true c1, c2]
           obtain ⟨j, e, hj, y, hy, hyq, _⟩ := hA
           obtain ⟨u, u1, u2⟩ := spec_l23Part_eq y.seq.left s.seq.left
           obtain ⟨v, v1, v2⟩ := spec_l23Part_eq y.seq.right s.seq.right
           have pa : (PreP S k s.a fun t => PartP t.left s.seq.left ∧ PartP t.right s.seq.right) ↔ u = true ∧ v = true := by
            rw [u2, v2]
            constructor
            · intro h; rw [e] at h; exact h.at hy
            · exact fun h => ⟨j, e, hj, y, hy, hyq, h⟩
           rw [beq_self_eq_true, cond_true, cond_true, e, ix_get, hy, bd_some, u1, bd_some, bd_some]
           cases u with
           | false => exact ⟨false, rfl, key _ ⟨fun g => (by cases g), fun g => by cases (pa.1 g.2.2).1⟩⟩
           | true =>
            rw [cond_true, bd_some, v1]
            exact ⟨v, rfl, key _ ⟨fun g => ⟨c1, c2, pa.2 ⟨rfl, g⟩⟩, fun g => (pa.1 g.2.2).2⟩⟩
         · refine ⟨false, ?_, key _ ⟨fun h => (by cases h), fun h => absurd ⟨h.1, h.2.1⟩ c⟩⟩
           have : (bif (decide (bs s.main = [])) then (s.b == 0) else false) = false := by
            by_cases c1 : bs s.main = []
            · rw [decide_eq_true c1, cond_true, beq_eq_false_iff_ne]; exact fun c3 => c ⟨c1, c3⟩
            · rw [decide_eq_false c1]; rfl
           rw [this]; rfl
       · rw [beq_eq_false_iff_ne.2 r10, cond_false, spec_l22Good_eq, bd_some]
         cases hg : goodB s.main with
         | false =>
          refine ⟨false, rfl, ⟨fun g => (by cases g), ?_⟩⟩
          rintro ⟨_, ⟨e, _⟩ | ⟨e, _⟩ | ⟨_, e, _⟩ | ⟨t, l, e, e2, _⟩⟩
          · omega
          · omega
          · rw [hg] at e; cases e
          · rw [good_iff.2 ⟨t, e, e2⟩] at hg; cases hg
         | true =>
          obtain ⟨t, t1, t2, t3, t4, t5⟩ := good_ft hg
          rw [Bool.not_true, cond_false]
          by_cases r11 : s.rule = 11
          · rw [r11, beq_self_eq_true, Bool.not_true, cond_false, bdR_go, spec_cut t1 (by omega) hQ.1.ord hQ.2.ord (by omega) (by omega), bd_some]
            have hqs := FQ_good hq
            have gm : FT s.main ∧ s.main.size ≤ 1000 := ⟨FT_good hg, by omega⟩
            have w : ∀ {m : List ByteArray}, (∀ y ∈ m, FT y ∧ y.size ≤ 1000) → ∀ y ∈ wS m [s.main], FT y ∧ y.size ≤ 1000 := fun h1 y hy => by
             unfold wS at hy
             rw [mem_setO STO_F, List.mem_append, List.mem_singleton] at hy
             exact hy.elim (h1 y) fun e => e ▸ gm
            have wl : ∀ m : List ByteArray, (wS m [s.main]).length ≤ m.length + 1 := fun m => by
             have := setO_len (l := m ++ [s.main])
             unfold wS; rw [List.length_append] at this; exact this
            have w1 := wl s.seq.left
            have w2 := wl s.seq.right
            obtain ⟨b, b1, b2⟩ := spec_due hS (k := k) (by omega) (s := s) (ps := [⟨s.seq.left, wS s.seq.right [s.main]⟩, ⟨wS s.seq.left [s.main], s.seq.right⟩]) rfl (by simp) (fun x hx => by
             simp only [List.mem_cons, List.not_mem_nil, or_false] at hx
             rcases hx with rfl | rfl
             · exact ⟨hqs.l, w hqs.r, by dsimp only; omega, by dsimp only; omega⟩
             · exact ⟨w hqs.l, hqs.r, by dsimp only; omega, by dsimp only; omega⟩) hA
            refine ⟨b, b1, b2.trans ?_⟩
            constructor
            · rintro ⟨h1, ⟨e, _⟩ | ⟨q, e, h2⟩⟩
              · cases e
              · cases e; exact ⟨hq, .inr (.inr (.inl ⟨r11, hg, h1, h2⟩))⟩
            · rintro ⟨_, ⟨e, _⟩ | ⟨e, _⟩ | ⟨_, _, h1, h2⟩ | ⟨t, l, _, _, e, _⟩⟩
              · omega
              · omega
              · exact ⟨h1, .inr ⟨_, rfl, h2⟩⟩
              · have := (ruleV_bd t l).2.1; omega
          · rw [beq_eq_false_iff_ne.2 r11, Bool.not_false, cond_true]
            generalize hl : (s.rule.tmod 2 == 0) = l
            have side : (bif l then (some (Rs.go s.seq.left) : Option (Rs (List ByteArray) Empty)) else some (Rs.go s.seq.right)) = some (Rs.go (bif l then s.seq.left else s.seq.right)) := by cases l <;> rfl
            rw [side, bdR_go, spec_l23Rule_eq t1 (by omega), bd_some]
            have only : CorP S k s → s.rule = ruleV t l ∧ s.main ∈ (bif l then s.seq.left else s.seq.right) := by
             rintro ⟨_, ⟨e, _⟩ | ⟨e, _⟩ | ⟨e, _⟩ | ⟨t', l', e1, e2, e3, e4, e5, _⟩⟩
             · omega
             · omega
             · omega
             · rw [t1] at e1; cases e1
               have : l' = l := by
                rw [← hl, e3]
                exact (ruleV_par (by rw [← e3]; exact e4)).symm
               rw [← this]; exact ⟨e3, e5⟩
            by_cases e1 : s.rule = ruleV t l
            · rw [show (ruleV t l == s.rule) = true by rw [beq_iff_eq]; exact e1.symm, Bool.not_true, cond_false, spec_l23Has_eq, bd_some, bd_some]
              by_cases e2 : s.main ∈ (bif l then s.seq.left else s.seq.right)
              · rw [decide_eq_true e2, Bool.not_true, cond_false, bdR_go]
                have rb := ruleV_bd t l
                rw [spec_l23Premises_eq t1 (by omega) hQ.1.ord hQ.2.ord (by omega) (by omega) (by omega) (by omega), bd_some]
                have pl := premV_len s.seq s.rule t
                cases hP : premV s.seq s.rule t with
                | nil =>
                 exfalso
                 unfold premV at hP
                 dsimp only at hP
                 repeat (split at hP; · cases hP)
                 cases hP
                | cons p r =>
                 rw [hP] at pl
                 simp only [List.length_cons] at pl
                 obtain ⟨b, b1, b2⟩ := spec_due hS (k := k) (by omega) (s := s) (ps := p :: r) rfl (by omega) (fun x hx => by
                  rw [← hP, e1] at hx
                  exact FQ_prem hq t2 (by omega) (by omega) x hx) hA
                 refine ⟨b, b1, b2.trans ?_⟩
                 constructor
                 · exact fun h => ⟨hq, .inr (.inr (.inr ⟨t, l, t1, t4, e1, by omega, e2, p, r, hP, h⟩))⟩
                 · rintro ⟨_, ⟨e, _⟩ | ⟨e, _⟩ | ⟨e, _⟩ | ⟨t', l', f1, f2, f3, f4, f5, p', r', f6, f7⟩⟩
                   · omega
                   · omega
                   · omega
                   · rw [t1] at f1; cases f1
                     rw [hP] at f6; cases f6; exact f7
              · rw [decide_eq_false e2]
                exact ⟨false, rfl, ⟨fun g => (by cases g), fun g => absurd (only g).2 e2⟩⟩
            · rw [show (ruleV t l == s.rule) = false by rw [beq_eq_false_iff_ne]; exact fun e => e1 e.symm]
              exact ⟨false, rfl, ⟨fun g => (by cases g), fun g => absurd (only g).1 e1⟩⟩
  · have hin : spec_l1In s.rule 1 11 = false := by
     unfold spec_l1In
     by_cases h1 : 1 ≤ s.rule
     · rw [decide_eq_true h1, cond_true]; exact decide_eq_false fun g => rr ⟨h1, g⟩
     · rw [decide_eq_false h1]; rfl
    rw [hin]
    refine ⟨false, rfl, ⟨fun g => (by cases g), ?_⟩⟩
    rintro ⟨_, ⟨e, _⟩ | ⟨e, _⟩ | ⟨e, _⟩ | ⟨t, l, _, _, e, e4, _⟩⟩
    · omega
    · omega
    · omega
    · have := ruleV_bd t l; omega
def PrfP (S : List SeqStep) : Prop := 1 ≤ S.length ∧ S.length ≤ 200 ∧ ∀ (k : Nat) (s : SeqStep), S[k]? = some s → CorP S k s
theorem first_eq {S : List SeqStep} (hS : SOk S) {f : List SeqStep → Int → Option Bool} (hf : ∀ (k : Nat) (s : SeqStep), S[k]? = some s → ∃ b, f S (k : Int) = some b ∧ (b = true ↔ CorP S k s)) {g : Nat → SeqStep → Unit → Option (Lp Unit Int)}
 (hg : ∀ i y u, g i y u = bd (f S ((i : Nat) : Int)) (fun r43 => (bif (!r43) then some (Lp.rt ((i : Nat) : Int)) else some (Lp.nx ())))) :
 ∃ r, bdR (forL (S := Unit) (X := Int) S g ()) (fun s22 => some (-1)) (fun x22 => some x22) = some r ∧ (r < 0 ↔ ∀ (k : Nat) (s : SeqStep), S[k]? = some s → CorP S k s) := by
 have key : ∀ (m : List SeqStep) (k : Nat), S.drop k = m → ∃ q, forLFrom g m k () = some q ∧ ((q = .go () ∧ ∀ j s, k ≤ j → S[j]? = some s → CorP S j s) ∨ ∃ i : Nat, q = .rt (i : Int) ∧ ∃ s, S[i]? = some s ∧ ¬ CorP S i s) := by
  intro m
  induction m with
  | nil =>
   intro k hk
   refine ⟨_, rfl, .inl ⟨rfl, fun j s h1 h2 => ?_⟩⟩
   have := congrArg List.length hk
   rw [List.length_drop, List.length_nil] at this
   have := lt_of_get h2
   omega
  | cons y m ih =>
   intro k hk
   have hy : S[k]? = some y := by
    have : (S.drop k)[0]? = some y := by rw [hk]; rfl
    rwa [List.getElem?_drop, Nat.add_zero] at this
   have hk' : S.drop (k + 1) = m := by rw [← List.tail_drop, hk]; rfl
   obtain ⟨b, b1, b2⟩ := hf k y hy
   cases b with
   | false =>
    refine ⟨.rt (k : Int), ?_, .inr ⟨k, rfl, y, hy, fun h => by cases b2.2 h⟩⟩
    rw [forLFrom, hg, b1]; rfl
   | true =>
    obtain ⟨q, q1, q2⟩ := ih (k + 1) hk'
    refine ⟨q, by rw [forLFrom_nx (s' := ()) (by rw [hg, b1]; rfl), q1], ?_⟩
    rcases q2 with ⟨e, h⟩ | h
    · refine .inl ⟨e, fun j s h1 h2 => ?_⟩
      by_cases ej : j = k
      · subst ej; rw [hy] at h2; cases h2; exact b2.1 rfl
      · exact h j s (by omega) h2
    · exact .inr h
 obtain ⟨q, q1, q2⟩ := key S 0 rfl
 unfold forL
 rw [q1]
 rcases q2 with ⟨rfl, h⟩ | ⟨i, rfl, s, h1, h2⟩
 · exact ⟨_, rfl, ⟨fun _ k s e => h k s (by omega) e, fun _ => by omega⟩⟩
 · exact ⟨_, rfl, ⟨fun g => by omega, fun g => absurd (g i s h1) h2⟩⟩
theorem spec_l23Proof_eq {S : List SeqStep} (hS : SOk S) : ∃ b, spec_l23Proof S = some b ∧ (b = true ↔ PrfP S) := by
 unfold spec_l23Proof spec_l1In PrfP
 by_cases h : 1 ≤ S.length ∧ S.length ≤ 200
 · rw [bifT (decide_eq_true (show 1 ≤ len S by rw [len_eq]; omega)), bifT (decide_eq_true (show len S ≤ 200 by rw [len_eq]; omega))]
   unfold spec_l23First
   obtain ⟨r, r1, r2⟩ := first_eq hS (f := spec_l23Correct) (fun k s e => spec_cor hS e) (g := fun i22 y21 s22 => bd (PF.spec_l23Correct S ((i22 : Nat) : Int)) (fun r43 => (bif (!r43) then some (Lp.rt ((i22 : Nat) : Int)) else some (Lp.nx ())))) (fun _ _ _ => rfl)
   rw [r1, bd_some]
   refine ⟨_, rfl, ?_⟩
   rw [decide_eq_true_iff, r2]
   exact ⟨fun g => ⟨h.1, h.2, g⟩, fun g => g.2.2⟩
 · have : (bif decide (1 ≤ len S) then decide (len S ≤ 200) else false) = false := by
    rw [len_eq]
    by_cases h1 : 1 ≤ S.length
    · rw [decide_eq_true (by omega), cond_true]; exact decide_eq_false fun g => h ⟨h1, by omega⟩
    · rw [decide_eq_false (by omega)]; rfl
   rw [this]
   exact ⟨false, rfl, ⟨fun g => (by cases g), fun g => absurd ⟨g.1, g.2.1⟩ h⟩⟩
theorem impl_isSeqProof_eq {S : List SeqStep} (hS : SOk S) : ∃ b, impl_isSeqProof S = some b ∧ (b = true ↔ PrfP S) := by
 unfold impl_isSeqProof impl_within PrfP
 by_cases h : 1 ≤ S.length ∧ S.length ≤ 200
 · rw [bifT (decide_eq_true (show 1 ≤ len S by rw [len_eq]; omega)), bifT (decide_eq_true (show len S ≤ 200 by rw [len_eq]; omega))]
   unfold impl_firstBadSeq
   obtain ⟨r, r1, r2⟩ := first_eq hS (f := impl_seqCorrect) (fun k s e => impl_cor hS e) (g := fun i22 y21 s22 => bd (PF.impl_seqCorrect S ((i22 : Nat) : Int)) (fun r43 => (bif (!r43) then some (Lp.rt ((i22 : Nat) : Int)) else some (Lp.nx ())))) (fun _ _ _ => rfl)
   rw [r1, bd_some]
   refine ⟨_, rfl, ?_⟩
   rw [decide_eq_true_iff, r2]
   exact ⟨fun g => ⟨h.1, h.2, g⟩, fun g => g.2.2⟩
 · have : (bif decide (1 ≤ len S) then decide (len S ≤ 200) else false) = false := by
    rw [len_eq]
    by_cases h1 : 1 ≤ S.length
    · rw [decide_eq_true (by omega), cond_true]; exact decide_eq_false fun g => h ⟨h1, by omega⟩
    · rw [decide_eq_false (by omega)]; rfl
   rw [this]
   exact ⟨false, rfl, ⟨fun g => (by cases g), fun g => absurd ⟨g.1, g.2.1⟩ h⟩⟩
theorem proof_both {S : List SeqStep} (hS : SOk S) : ∃ b, spec_l23Proof S = some b ∧ impl_isSeqProof S = some b ∧ (b = true ↔ PrfP S) := by
 obtain ⟨b, b1, b2⟩ := spec_l23Proof_eq hS
 obtain ⟨c, c1, c2⟩ := impl_isSeqProof_eq hS
 have : b = c := Bool.eq_iff_iff.2 (b2.trans c2.symm)
 subst this
 exact ⟨b, b1, c1, b2⟩
end Go.PF
namespace Go.PF
open Go.Pu
def wtS (y : SeqStep) : Nat := (y.seq.left.length + tot (·.size) y.seq.left) + (y.seq.right.length + tot (·.size) y.seq.right) + y.main.size
theorem sz_SeqStep {a : SeqStep} {s : Int} (ha : okSeqStep a) (h0 : 0 ≤ s) (h1 : s ≤ 1048576) : ∃ r, laws_szSeqStep a s = some r ∧ (r < 0 ∨ r + wtS a = s) := by
 unfold laws_szSeqStep wtS
 obtain ⟨r, e, hr⟩ := sz_Sequent ha.1 h0 h1
 rw [e, bd_some]
 by_cases hn : r < 0
 · rw [bifT (decide_eq_true hn)]
   exact ⟨_, rfl, .inl (by omega)⟩
 · rw [bifF (decide_eq_false hn)]
   have hm : a.main.size ≤ 9223372036854775807 := ha.2.2.1
   have hw : wr (r - (a.main.size : Int)) = r - (a.main.size : Int) := wr_of _ (by omega) (by omega)
   rw [hw]
   by_cases hn' : r - (a.main.size : Int) < 0
   · rw [bifT (decide_eq_true hn')]
     exact ⟨_, rfl, .inl (by omega)⟩
   · rw [bifF (decide_eq_false hn')]
     exact ⟨_, rfl, .inr (by omega)⟩
theorem sz_SeqStepS {a : List SeqStep} {s : Int} (ha : okL okSeqStep a) (h0 : 0 ≤ s) (h1 : s ≤ 1048576) : ∃ r, laws_szSeqStepS a s = some r ∧ (r < 0 ∨ r + (a.length + tot wtS a : Nat) = s) := by
 unfold laws_szSeqStepS
 have := sz_list (sz := laws_szSeqStep) (wt := wtS) (l := a) (s := s)
  (f := fun i23 y22 s23 => bd (PF.laws_szSeqStep y22 s23) (fun r66 => (bif (decide (r66 < 0)) then some (Lp.rt (-1)) else some (Lp.nx r66)))) (fun _ _ _ => rfl) (fun y hy s h0 h1 => sz_SeqStep (ha.2 y hy) h0 h1) ha.1 h0 h1
 exact this
theorem SOk_sz {a : List SeqStep} {r s : Int} (hs : s ≤ 1048576) (h0 : 0 ≤ r) (h : r + (a.length + tot wtS a : Nat) = s) : SOk a := by
 refine ⟨by omega, fun y hy => ?_⟩
 have := tot_mem (wt := wtS) hy
 have e : wtS y = (y.seq.left.length + tot (·.size) y.seq.left) + (y.seq.right.length + tot (·.size) y.seq.right) + y.main.size := rfl
 unfold lim
 constructor <;> omega
theorem to_SeqStepS {a : List SeqStep} (ha : SOk a) : laws_toSeqStepS a = some a := by
 unfold laws_toSeqStepS
 have hl := ha.len
 have := to_list (z := (SeqStep.mk (Sequent.mk [] []) 0 ByteArray.empty 0 0 : SeqStep)) (l := a) (g := laws_toSeqStep) (h := fun y => y)
  (f := fun i33 y32 s33 => bd (PF.laws_toSeqStep y32) (fun r173 => bd (ix s33 ((i33 : Nat) : Int)) (fun x198 => bd (put s33 ((i33 : Nat) : Int) r173) (fun xs207 => some (Lp.nx xs207))))) (fun _ _ _ => rfl) (fun y hy => by
   unfold laws_toSeqStep
   have := ha.sides y hy
   rw [to_Sequent this.1 this.2]; rfl) (by unfold lim; omega)
 rw [List.map_id'] at this
 exact this
theorem wtStep_wtS (y : SeqStep) : wtStep y ≤ wtS y + 4 := by unfold wtStep wtS; omega
theorem tot_le4 {a : List SeqStep} : tot wtStep a ≤ tot wtS a + 4 * a.length := by
 induction a with
 | nil => simp [tot]
 | cons y a ih =>
  have := wtStep_wtS y
  simp only [tot, List.length_cons]; omega
theorem mark_in {a : List SeqStep} {r s : Int} (hs : s ≤ 1048576) (h0 : 0 ≤ r) (h : r + (a.length + tot wtS a : Nat) = s) {k : Int} (hk : 0 ≤ k) (hk2 : k ≤ 100000000) : 0 ≤ (laws_markSeqStepS a k).2 ∧ (laws_markSeqStepS a k).2 ≤ k + 10000000 := by
 have := tot_le4 (a := a)
 have h2 := mark_SeqStepS (a := a) (k := k) hk (by omega)
 omega
theorem PrfP.seq {S : List SeqStep} (h : PrfP S) {k : Nat} {y : SeqStep} (hy : S[k]? = some y) : seqB y.seq = true := (h.2.2 k y hy).1
end Go.PF
namespace Go.PF
open Go.Pu
def nUse (y : SeqStep) : Nat := if y.rule = 1 then 0 else if y.rule = 5 ∨ y.rule = 6 ∨ y.rule = 8 ∨ y.rule = 11 then 2 else 1
theorem uses_spec (y : SeqStep) : len (spec_l23Uses y) = (nUse y : Int) := by
 unfold spec_l23Uses nUse
 by_cases h1 : y.rule = 1
 · rw [h1]; rfl
 · rw [beq_eq_false_iff_ne.2 h1, cond_false, if_neg h1]
   by_cases h5 : y.rule = 5
   · rw [h5]; rfl
   · rw [beq_eq_false_iff_ne.2 h5, cond_false]
     by_cases h6 : y.rule = 6
     · rw [h6]; rfl
     · rw [beq_eq_false_iff_ne.2 h6, cond_false]
       by_cases h8 : y.rule = 8
       · rw [h8]; rfl
       · rw [beq_eq_false_iff_ne.2 h8, cond_false]
         by_cases h11 : y.rule = 11
         · rw [h11]; rfl
         · rw [beq_eq_false_iff_ne.2 h11, cond_false, if_neg (by omega)]; rfl
theorem uses_impl (y : SeqStep) : len (impl_SeqStep_uses y) = (nUse y : Int) := uses_spec y
theorem premV_use {s : Sequent} {r : Int} {t : Ft} (h2 : 2 ≤ r) (h9 : r ≤ 9) : (premV s r t).length = (if r = 5 ∨ r = 6 ∨ r = 8 then 2 else 1) := by
 unfold premV
 dsimp only
 have hc : r = 2 ∨ r = 3 ∨ r = 4 ∨ r = 5 ∨ r = 6 ∨ r = 7 ∨ r = 8 ∨ r = 9 := by omega
 rcases hc with rfl | rfl | rfl | rfl | rfl | rfl | rfl | rfl <;> rfl
theorem PreP.lt {S : List SeqStep} {k : Nat} {i : Int} {p : Sequent → Prop} (h : PreP S k i p) : 0 ≤ i ∧ i < k := by
 obtain ⟨j, e, h, _⟩ := h
 omega
theorem nUse_le (y : SeqStep) : nUse y ≤ 2 := by unfold nUse; split; · omega
                                                 split <;> omega
end Go.PF
namespace Go.PF
open Go.Pu
def inB (a b c : Int) : Bool := decide (b ≤ a) && decide (a ≤ c)
structure IsC (v : Int) (c : List Int) : Prop where
 lo : 0 ≤ v
 hi : v ≤ 12
 lit : ∀ l ∈ c, -v ≤ l ∧ l ≤ v ∧ l ≠ 0
 srt : c.Pairwise fun a b => a.natAbs < b.natAbs
end Go.PF
namespace Go.PF
open Go.Pu
theorem wr_len {A : Type} {l : List A} (h : l.length ≤ 9223372036854775807) : wr (len l - 1) = len l - 1 := wr_of _ (by rw [len_eq]; omega) (by rw [len_eq]; omega)
end Go.PF
namespace Go.PF
open Go.Pu
abbrev Asc (c : List Int) : Prop := c.Pairwise fun a b => a < b
end Go.PF
namespace Go.PF
open Go.Pu
structure IsPv (n : Nat) (out : List (List Int)) : Prop where
 len : out.length = n
 asc : ∀ y ∈ out, Asc y
 sm : ∀ y ∈ out, ∀ z ∈ y, 1 ≤ z ∧ z ≤ 12
end Go.PF
namespace Go.PF
open Go.Pu
theorem take_rev {α : Type} {xs : List α} {k : Nat} {x : α} (hx : xs[k]? = some x) : (xs.take (k + 1)).zipIdx.reverse = (x, k) :: (xs.take k).zipIdx.reverse := by
 obtain ⟨hk, he⟩ := List.getElem?_eq_some_iff.1 hx
 rw [← he, List.take_succ_eq_append_getElem hk, List.zipIdx_append]
 simp [Nat.min_eq_left (Nat.le_of_lt hk)]
theorem iter_down {σ α X : Type} {xs : List α} {body : σ × Int → Option (Lp (σ × Int) X)} {F : σ → α × Nat → σ} (I : Nat → σ → Prop) {s0 : σ} (h0 : I xs.length s0)
 (h : ∀ (i : Nat) x s, xs[i]? = some x → I (i + 1) s → body (s, (i : Int)) = some (.nx (F s (x, i), (i : Int) - 1)) ∧ I i (F s (x, i))) (he : ∀ s, body (s, -1) = some (.bk (s, -1))) :
 iter body (s0, len xs - 1) = some (.go (xs.zipIdx.reverse.foldl F s0, -1)) ∧ I 0 (xs.zipIdx.reverse.foldl F s0) := by
 have key : ∀ (k : Nat) (s : σ), k ≤ xs.length → I k s → iter body (s, (k : Int) - 1) = some (.go ((xs.take k).zipIdx.reverse.foldl F s, -1)) ∧ I 0 ((xs.take k).zipIdx.reverse.foldl F s) := by
  intro k
  induction k with
  | zero => intro s _ hI; exact ⟨iter_bk (he s), hI⟩
  | succ k ih =>
   intro s hk hI
   obtain ⟨x, hx⟩ : ∃ x, xs[k]? = some x := ⟨_, List.getElem?_eq_getElem (by omega)⟩
   obtain ⟨h1, h2⟩ := h k x s hx hI
   rw [take_rev hx, List.foldl_cons, show ((k + 1 : Nat) : Int) - 1 = (k : Int) by omega, iter_nx h1]
   exact ih _ (by omega) h2
 have := key xs.length s0 (Nat.le_refl _) h0
 rwa [List.take_length] at this
theorem bdR_down {σ α X β : Type} {xs : List α} {body : σ × Int → Option (Lp (σ × Int) X)} {k : σ × Int → Option β} {l : X → Option β} {r : Option β} (F : σ → α × Nat → σ) (I : Nat → σ → Prop) {s0 : σ} (h0 : I xs.length s0)
 (h : ∀ (i : Nat) x s, xs[i]? = some x → I (i + 1) s → body (s, (i : Int)) = some (.nx (F s (x, i), (i : Int) - 1)) ∧ I i (F s (x, i))) (he : ∀ s, body (s, -1) = some (.bk (s, -1)))
 (hk : ∀ s, I 0 s → k (s, -1) = r) : bdR (iter body (s0, len xs - 1)) k l = r := by
 obtain ⟨h1, h2⟩ := iter_down I h0 h he
 rw [h1, bdR_go]; exact hk _ h2
def bAt (M : List Bool) (i : Nat) : Bool := (M[i]?).getD false
def setT (M : List Bool) (ks : List Int) : List Bool := ks.foldl (fun M k => M.set k.toNat true) M
theorem setT_len : ∀ {ks : List Int} {M : List Bool}, (setT M ks).length = M.length := by
 intro ks
 induction ks with
 | nil => intro M; rfl
 | cons k ks ih => intro M; unfold setT at ih ⊢; rw [List.foldl_cons, ih]; simp
theorem setT_out : ∀ {ks : List Int} {M : List Bool} {i j : Nat}, (∀ k ∈ ks, 0 ≤ k ∧ k < j) → j ≤ i → (setT M ks)[i]? = M[i]? := by
 intro ks
 induction ks with
 | nil => intro M i j _ _; rfl
 | cons k ks ih =>
  intro M i j h hi
  have h1 := h k (by simp)
  have := ih (M := M.set k.toNat true) (i := i) (fun z hz => h z (by simp [hz])) hi
  unfold setT at this ⊢
  rw [List.foldl_cons, this, List.getElem?_set_ne (by omega)]
theorem setT_in : ∀ {ks : List Int} {M : List Bool} {k : Int}, (∀ k ∈ ks, 0 ≤ k ∧ k < M.length) → (k ∈ ks ∨ bAt M k.toNat = true) → bAt (setT M ks) k.toNat = true := by
  intro ks
  induction ks with
  | nil => intro M k _ hk; rcases hk with h | h; · cases h
           · exact h
  | cons z ks ih =>
    intro M k h hk
    have h1 := h z (by simp)
    have h2 := ih (M := M.set z.toNat true) (k := k) (fun y hy => by have := h y (by simp [hy]); simpa using this) (by
      rcases hk with hk | hk
      · rcases List.mem_cons.1 hk with rfl | hk
        · right; unfold bAt; rw [List.getElem?_set_self (by omega)]; rfl
        · exact .inl hk
      · right
        unfold bAt at hk ⊢
        rw [List.getElem?_set]
        split
        · rw [if_pos (by omega)]; rfl
        · exact hk)
    unfold setT at h2 ⊢
    rw [List.foldl_cons]; exact h2
theorem setT_set {ks : List Int} : ∀ {M : List Bool} {j : Nat}, (∀ k ∈ ks, 0 ≤ k ∧ k < j) → (setT M ks).set j true = setT (M.set j true) ks := by
 induction ks with
 | nil => intro M j _; rfl
 | cons k ks ih =>
  intro M j h
  have h1 := h k (by simp)
  have := ih (M := M.set k.toNat true) (j := j) (fun z hz => h z (by simp [hz]))
  unfold setT at this ⊢
  rw [List.foldl_cons, List.foldl_cons, this, List.set_comm _ _ (by omega)]
theorem uses_loop {us : List Int} {M : List Bool} {i : Nat} (hi : i < M.length) (hu : ∀ k ∈ us, 0 ≤ k ∧ k < i) (hl : us.length ≤ 2) {f : List Bool × Int → Option (Lp (List Bool × Int) Empty)}
 (hf : ∀ s, f s = bd (bif decide (s.2 < len us) then bd (ix s.1 (i : Int)) (fun x => some x) else some false) (fun t => bif t then bd (ix us s.2) (fun x => bd (ix s.1 x) (fun _ => bd (put s.1 x true) (fun xs => some (.nx (xs, wr (s.2 + 1)))))) else some (.bk (s.1, s.2)))) :
 ∃ k, iter f (M, 0) = some (.go (bif bAt M i then setT M us else M, k)) := by
 have hat : ∀ {M : List Bool}, i < M.length → ix M (i : Int) = some (bAt M i) := fun {M} h => by rw [ix_get]; unfold bAt; rw [List.getElem?_eq_getElem h]; rfl
 cases hb : bAt M i with
 | false =>
  refine ⟨0, iter_bk ?_⟩
  rw [hf]
  simp only [hat hi, hb]
  cases decide ((0 : Int) < len us) <;> rfl
 | true =>
  refine ⟨us.length, ?_⟩
  have := iter_foldI (X := Empty) (xs := us) (body := f) (F := fun M k => M.set k.toNat true) (s0 := M) (fun _ N => N.length = M.length ∧ bAt N i = true) ⟨rfl, hb⟩ (fun j k N hk hN => by
   have hj := (List.getElem?_eq_some_iff.1 hk).1
   have hkb := hu k (List.mem_of_getElem? hk)
   rw [hf]
   have hd : decide ((j : Int) < len us) = true := by rw [len_eq]; simp; omega
   obtain ⟨y, hy, _⟩ := ix_of (xs := N) hkb.1 (by omega)
   have hp : put N k true = some (N.set k.toNat true) := by
    have := put_ok (xs := N) (i := k.toNat) (x := true) (by omega)
    rwa [show ((k.toNat : Nat) : Int) = k by omega] at this
   simp only [hd, cond_true, hat (show i < N.length by omega), hN.2, bd_some, ix_get, hk, hy, hp]
   rw [wr_succ hj (by omega)]
   refine ⟨rfl, by simpa using hN.1, ?_⟩
   have h2 := hN.2
   unfold bAt at h2 ⊢
   rw [List.getElem?_set_ne (by omega)]; exact h2) (fun N => by
   rw [hf]
   have hd : decide ((us.length : Int) < len us) = false := by rw [len_eq]; simp
   simp only [hd, cond_false, bd_some])
  simp only [cond_true]
  exact this.1
theorem wr_down {i n : Nat} (h : i < n) (hn : n ≤ 9223372036854775807) : wr ((i : Int) - 1) = (i : Int) - 1 := wr_of _ (by omega) (by omega)
theorem ix_len {A : Type} {M : List A} {i : Nat} (h : i < M.length) : ∃ y, ix M (i : Int) = some y := ⟨_, by rw [ix_get, List.getElem?_eq_getElem h]⟩
end Go.PF
namespace Go.PF
open Go.Pu
structure Rv (xs : List Int) (i : Nat) (ys : List Int) : Prop where
 len : ys.length = xs.length
 at_ : ∀ m, m < xs.length → ys[m]? = if m < i ∨ xs.length ≤ m + i then xs[xs.length - 1 - m]? else xs[m]?
theorem Rv.step {xs ys : List Int} {i : Nat} (h : Rv xs i ys) (hi : i + i + 1 < xs.length) {a b : Int} (ha : ys[i]? = some a) (hb : ys[xs.length - 1 - i]? = some b) :
 Rv xs (i + 1) ((ys.set i b).set (xs.length - 1 - i) a) := by
 have hl := h.len
 refine ⟨by simp [hl], fun m hm => ?_⟩
 have h1 := h.at_ i (by omega); rw [ha, if_neg (by omega)] at h1
 have h2 := h.at_ (xs.length - 1 - i) (by omega); rw [hb, if_neg (by omega)] at h2
 rw [List.getElem?_set]
 by_cases e : xs.length - 1 - i = m
 · rw [if_pos e, if_pos (by simp [hl]; omega), if_pos (by omega), show xs.length - 1 - m = i by omega]; exact h1
 · rw [if_neg e, List.getElem?_set]
   by_cases e2 : i = m
   · subst e2; rw [if_pos rfl, if_pos (by omega), if_pos (by omega)]; exact h2
   · rw [if_neg e2, h.at_ m hm]
     by_cases c : m < i ∨ xs.length ≤ m + i
     · rw [if_pos c, if_pos (by omega)]
     · rw [if_neg c, if_neg (by omega)]
theorem Rv.fin {xs ys : List Int} {i : Nat} (h : Rv xs i ys) (hi : ¬ i + i + 1 < xs.length) : ys = xs.reverse := by
 have hl := h.len
 apply List.ext_getElem?
 intro m
 by_cases hm : m < xs.length
 · rw [h.at_ m hm, List.getElem?_reverse hm]
   split
   · rfl
   · congr 1; omega
 · rw [List.getElem?_eq_none (by omega), List.getElem?_eq_none (by simp; omega)]
theorem bdR_rev {β : Type} {xs : List Int} {body : List Int × Int × Int → Option (Lp (List Int × Int × Int) Empty)} {k : List Int × Int × Int → Option β} {l : Empty → Option β} {r : Option β}
 (h1 : ∀ (i : Nat) ys a b, i + i + 1 < xs.length → ys.length = xs.length → ys[i]? = some a → ys[xs.length - 1 - i]? = some b → body (ys, (i : Int), len xs - 1 - i) = some (.nx ((ys.set i b).set (xs.length - 1 - i) a, ((i + 1 : Nat) : Int), len xs - 1 - ((i + 1 : Nat) : Int))))
 (h2 : ∀ (i : Nat) ys, ¬ i + i + 1 < xs.length → ∃ p, body (ys, (i : Int), len xs - 1 - i) = some (.bk (ys, p))) (hk : ∀ p, k (xs.reverse, p) = r) : bdR (iter body (xs, 0, len xs - 1)) k l = r := by
 have key : ∀ (k i : Nat) ys, xs.length - i - i ≤ k → Rv xs i ys → ∃ p, iter body (ys, (i : Int), len xs - 1 - i) = some (.go (xs.reverse, p)) := by
  intro k
  induction k with
  | zero =>
   intro i ys hk hR
   obtain ⟨p, hp⟩ := h2 i ys (by omega)
   refine ⟨p, ?_⟩
   rw [iter_bk hp, hR.fin (by omega)]
  | succ k ih =>
   intro i ys hk hR
   by_cases hi : i + i + 1 < xs.length
   · obtain ⟨a, ha⟩ : ∃ a, ys[i]? = some a := ⟨_, List.getElem?_eq_getElem (by rw [hR.len]; omega)⟩
     obtain ⟨b, hb⟩ : ∃ b, ys[xs.length - 1 - i]? = some b := ⟨_, List.getElem?_eq_getElem (by rw [hR.len]; omega)⟩
     rw [iter_nx (h1 i ys a b hi hR.len ha hb)]
     exact ih _ _ (by omega) (hR.step hi ha hb)
   · obtain ⟨p, hp⟩ := h2 i ys hi
     exact ⟨p, by rw [iter_bk hp, hR.fin hi]⟩
 obtain ⟨p, hp⟩ := key xs.length 0 xs (by omega) ⟨rfl, fun m hm => by rw [if_neg (by omega)]⟩
 rw [show len xs - 1 - ((0 : Nat) : Int) = len xs - 1 by omega, show ((0 : Nat) : Int) = 0 from rfl] at hp
 rw [hp, bdR_go]; exact hk p
theorem slices_Reverse_eq {xs : List Int} (hl : xs.length ≤ lim) : slices_Reverse_int_int xs = some xs.reverse := by
 unfold slices_Reverse_int_int
 rw [wr_len (by unfold lim at hl; omega)]
 refine bdR_rev ?ha ?hb (fun p => rfl)
 case ha =>
  intro i ys a b hi hy h1 h2
  have hc : decide ((i : Int) < len xs - 1 - i) = true := by rw [len_eq]; simp; omega
  have hj : len xs - 1 - (i : Int) = ((xs.length - 1 - i : Nat) : Int) := by rw [len_eq]; omega
  have h3 : (ys.set i b)[xs.length - 1 - i]? = some b := by rw [List.getElem?_set_ne (by omega)]; exact h2
  unfold lim at hl
  simp only [hc, cond_true]
  rw [hj]
  simp only [ix_get, h1, h2, bd_some, put_ok (show i < ys.length by omega), h3, put_ok (show xs.length - 1 - i < (ys.set i b).length by simp; omega)]
  rw [wr_of _ (by omega) (by omega), wr_of _ (by omega) (by omega)]
  have e1 : ((xs.length - 1 - i : Nat) : Int) - 1 = len xs - 1 - ((i + 1 : Nat) : Int) := by rw [len_eq]; omega
  rw [e1]; rfl
 case hb =>
  intro i ys hi
  have hc : decide ((i : Int) < len xs - 1 - i) = false := by rw [len_eq]; simp; omega
  simp only [hc, cond_false]
  exact ⟨_, rfl⟩
end Go.PF
namespace Go.PF
open Go.Pu
theorem index_at {v : Int} : ∀ {a b : List Int}, v ∉ a → slices_Index_int_int (a ++ v :: b) v = some ((a.length : Nat) : Int) := by
 intro a b hv
 unfold slices_Index_int_int
 have key : ∀ (a : List Int) (k : Nat), v ∉ a → forLFrom (S := Unit) (X := Int) (fun i22 y21 s22 => (bif (v == y21) then some (Lp.rt ((i22 : Nat) : Int)) else some (Lp.nx ()))) (a ++ v :: b) k () = some (.rt (((k + a.length : Nat) : Nat) : Int)) := by
  intro a
  induction a with
  | nil => intro k _; simp [forLFrom]
  | cons x a ih =>
   intro k h
   rw [List.mem_cons, not_or] at h
   rw [List.cons_append]
   unfold forLFrom
   rw [show (v == x) = false by rw [beq_eq_false_iff_ne]; exact h.1]
   simp only [cond_false]
   rw [ih (k + 1) h.2]
   simp; omega
 unfold forL
 rw [key a 0 hv]
 simp
end Go.PF
namespace Go.PF
open Go.Pu
def premQ (x : SeqStep) : List Int := spec_l23Uses x
structure IsQ (S : List SeqStep) : Prop where
 le : S.length ≤ 200
 seq : ∀ {x : SeqStep}, x ∈ S → seqB x.seq = true
 pre : ∀ {i : Nat} {x : SeqStep}, S[i]? = some x → ∀ k ∈ premQ x, 0 ≤ k ∧ k < i
theorem premQ_eq (x : SeqStep) : premQ x = if nUse x = 0 then [] else if nUse x = 2 then [x.a, x.b] else [x.a] := by
 unfold premQ spec_l23Uses nUse
 by_cases h1 : x.rule = 1
 · rw [h1]; rfl
 · rw [beq_eq_false_iff_ne.2 h1, cond_false]
   simp only [if_neg h1]
   by_cases h5 : x.rule = 5
   · rw [h5]; rfl
   · rw [beq_eq_false_iff_ne.2 h5, cond_false]
     by_cases h6 : x.rule = 6
     · rw [h6]; rfl
     · rw [beq_eq_false_iff_ne.2 h6, cond_false]
       by_cases h8 : x.rule = 8
       · rw [h8]; rfl
       · rw [beq_eq_false_iff_ne.2 h8, cond_false]
         by_cases h11 : x.rule = 11
         · rw [h11]; rfl
         · rw [beq_eq_false_iff_ne.2 h11, cond_false, if_neg (show ¬ (x.rule = 5 ∨ x.rule = 6 ∨ x.rule = 8 ∨ x.rule = 11) by omega)]; rfl
theorem premQ_len (x : SeqStep) : (premQ x).length ≤ 2 := by
 rw [premQ_eq]; split
 · simp
 · split <;> simp
def nstQ (M : List Bool) (p : SeqStep × Nat) : List Bool := bif bAt M p.2 then setT M (premQ p.1) else M
theorem nst_lenQ {M : List Bool} {p : SeqStep × Nat} : (nstQ M p).length = M.length := by unfold nstQ; cases bAt M p.2 <;> simp [setT_len]
def remQ (S : List SeqStep) (k : Nat) (M : List Bool) : List Bool := (S.take k).zipIdx.reverse.foldl nstQ M
def maskQ (S : List SeqStep) : List Bool := remQ S S.length ((List.replicate S.length false).set (S.length - 1) true)
theorem rem_succQ {S : List SeqStep} {k : Nat} {x : SeqStep} (hx : S[k]? = some x) (M : List Bool) : remQ S (k + 1) M = remQ S k (nstQ M (x, k)) := by
 unfold remQ; rw [take_rev hx, List.foldl_cons]
theorem rem_outQ {S : List SeqStep} (h : IsQ S) : ∀ {k i : Nat} {M : List Bool}, k ≤ S.length → k ≤ i + 1 → (remQ S k M)[i]? = M[i]? := by
 intro k
 induction k with
 | zero => intro i M _ _; rfl
 | succ k ih =>
  intro i M hk hi
  obtain ⟨x, hx⟩ : ∃ x, S[k]? = some x := ⟨_, List.getElem?_eq_getElem (by omega)⟩
  rw [rem_succQ hx, ih (by omega) (by omega)]
  unfold nstQ
  cases bAt M k with
  | true => exact setT_out (h.pre hx) (by omega)
  | false => rfl
theorem rem_lenQ {S : List SeqStep} : ∀ {k : Nat} {M : List Bool}, k ≤ S.length → (remQ S k M).length = M.length := by
 intro k
 induction k with
 | zero => intro M _; rfl
 | succ k ih =>
  intro M hk
  obtain ⟨x, hx⟩ : ∃ x, S[k]? = some x := ⟨_, List.getElem?_eq_getElem (by omega)⟩
  rw [rem_succQ hx, ih (by omega), nst_lenQ]
theorem mask_lenQ (S : List SeqStep) : (maskQ S).length = S.length := by unfold maskQ; rw [rem_lenQ (Nat.le_refl _)]; simp
theorem mask_premQ {S : List SeqStep} (h : IsQ S) {i : Nat} {x : SeqStep} (hx : S[i]? = some x) (hm : bAt (maskQ S) i = true) : ∀ k ∈ premQ x, bAt (maskQ S) k.toNat = true := by
  intro k hk
  have hi := (List.getElem?_eq_some_iff.1 hx).1
  have key : ∀ (m : Nat) (M : List Bool), M.length = S.length → m ≤ S.length → (i < m ∨ bAt M k.toNat = true) → bAt (remQ S m M) i = true → bAt (remQ S m M) k.toNat = true := by
    intro m
    induction m with
    | zero => intro M hM _ h1 _; rcases h1 with h1 | h1; · omega
              · exact h1
    | succ m ih =>
      intro M hM hm' h1 h2
      obtain ⟨y, hy⟩ : ∃ y, S[m]? = some y := ⟨_, List.getElem?_eq_getElem (by omega)⟩
      rw [rem_succQ hy] at h2 ⊢
      refine ih _ (by rw [nst_lenQ, hM]) (by omega) ?_ h2
      by_cases e : i = m
      · subst e
        rw [hx] at hy; cases hy
        right
        have h3 : bAt M i = true := by
          have := rem_outQ h (k := i) (i := i) (M := nstQ M (x, i)) (by omega) (by omega)
          unfold bAt at h2 ⊢
          rw [this] at h2
          unfold nstQ at h2
          cases hb : bAt M i with
          | true => exact hb
          | false => rw [hb] at h2; exact h2
        unfold nstQ
        simp only [h3, cond_true]
        exact setT_in (fun z hz => by have := h.pre hx z hz; omega) (.inl hk)
      · rcases h1 with h1 | h1
        · exact .inl (by omega)
        · right
          unfold nstQ
          cases bAt M m with
          | true => exact setT_in (fun z hz => by have := h.pre hy z hz; omega) (.inr h1)
          | false => exact h1
  have hk1 := h.pre hx k hk
  exact key _ _ (by simp) (Nat.le_refl _) (.inl hi) hm
def needQ (S : List SeqStep) : List Nat := (List.range S.length).filter (bAt (maskQ S))
def needIQ (S : List SeqStep) : List Int := (needQ S).map fun i => ((i : Nat) : Int)
theorem need_leQ (S : List SeqStep) : (needQ S).length ≤ S.length := by
 have := List.length_filter_le (bAt (maskQ S)) (List.range S.length); unfold needQ; simpa using this
def tailNQ (S : List SeqStep) (k : Nat) : List Int := (((List.range' k (S.length - k)).filter (bAt (maskQ S))).reverse).map fun i => ((i : Nat) : Int)
theorem tailN_stepQ {S : List SeqStep} {k : Nat} (hk : k < S.length) : tailNQ S k = bif bAt (maskQ S) k then tailNQ S (k + 1) ++ [((k : Nat) : Int)] else tailNQ S (k + 1) := by
 unfold tailNQ
 rw [show S.length - k = (S.length - (k + 1)) + 1 by omega, List.range'_succ, List.filter_cons]
 cases bAt (maskQ S) k <;> simp
def needToQ (S : List SeqStep) (k : Nat) : List Nat := (List.range k).filter (bAt (maskQ S))
theorem needTo_allQ (S : List SeqStep) : needToQ S S.length = needQ S := rfl
theorem needTo_succQ (S : List SeqStep) (k : Nat) : needToQ S (k + 1) = bif bAt (maskQ S) k then needToQ S k ++ [k] else needToQ S k := by
 unfold needToQ
 rw [List.range_succ, List.filter_append]
 cases h : bAt (maskQ S) k <;> simp [h]
theorem needTo_leQ (S : List SeqStep) (k : Nat) : (needToQ S k).length ≤ k := by
 have := List.length_filter_le (bAt (maskQ S)) (List.range k); unfold needToQ; simpa using this
theorem mask_ixQ {S : List SeqStep} {i : Nat} {x : SeqStep} (hx : S[i]? = some x) : ix (maskQ S) (i : Int) = some (bAt (maskQ S) i) := by
 have hi := (List.getElem?_eq_some_iff.1 hx).1
 rw [ix_get]; unfold bAt; rw [List.getElem?_eq_getElem (by rw [mask_lenQ]; exact hi)]; rfl
theorem needI_atQ {S : List SeqStep} {j : Nat} {k : Int} (hj : (needIQ S)[j]? = some k) : ∃ i x, (needQ S)[j]? = some i ∧ k = ((i : Nat) : Int) ∧ S[i]? = some x ∧ bAt (maskQ S) i = true := by
 unfold needIQ at hj
 rw [List.getElem?_map] at hj
 cases hn : (needQ S)[j]? with
 | none => rw [hn] at hj; cases hj
 | some i =>
  rw [hn] at hj
  have hm := List.mem_of_getElem? hn
  unfold needQ at hm
  rw [List.mem_filter, List.mem_range] at hm
  exact ⟨i, S[i], rfl, by simpa using hj.symm, List.getElem?_eq_getElem hm.1, hm.2⟩
theorem needI_lengthQ (S : List SeqStep) : (needIQ S).length = (needQ S).length := by unfold needIQ; simp
def posNQ (S : List SeqStep) (k : Int) : Int := (((needToQ S k.toNat).length : Nat) : Int)
def trimXQ (S : List SeqStep) (x : SeqStep) : SeqStep := ⟨x.seq, x.rule, x.main, if 0 < nUse x then posNQ S x.a else x.a, if 1 < nUse x then posNQ S x.b else x.b⟩
def trimAtQ (S : List SeqStep) (i : Nat) : Option SeqStep := (S[i]?).map (trimXQ S)
def trimLQ (S : List SeqStep) (l : List Nat) : List SeqStep := l.filterMap (trimAtQ S)
theorem trimL_lenQ {S : List SeqStep} : ∀ {l : List Nat}, (∀ i ∈ l, i < S.length) → (trimLQ S l).length = l.length := by
 intro l
 induction l with
 | nil => intro _; rfl
 | cons i l ih =>
  intro h
  have hi := h i (by simp)
  have := ih fun j hj => h j (by simp [hj])
  unfold trimLQ at this ⊢
  have e : trimAtQ S i = some (trimXQ S S[i]) := by unfold trimAtQ; rw [List.getElem?_eq_getElem hi]; rfl
  rw [List.filterMap_cons_some e, List.length_cons, List.length_cons, this]
theorem needTo_ltQ {S : List SeqStep} {k : Nat} : ∀ i ∈ needToQ S k, i < k := fun i hi => by
 unfold needToQ at hi; rw [List.mem_filter, List.mem_range] at hi; exact hi.1
theorem need_splitQ {S : List SeqStep} {k : Nat} (hk : k < S.length) (hm : bAt (maskQ S) k = true) : ∃ r, needQ S = needToQ S k ++ k :: r := by
 refine ⟨(List.range' (k + 1) (S.length - (k + 1))).filter (bAt (maskQ S)), ?_⟩
 unfold needQ needToQ
 have e : List.range S.length = List.range k ++ k :: List.range' (k + 1) (S.length - (k + 1)) := by
  have h1 := List.range'_append_1 (s := 0) (m := k) (n := S.length - k)
  rw [Nat.zero_add, show k + (S.length - k) = S.length by omega] at h1
  rw [List.range_eq_range', List.range_eq_range', ← List.range'_succ, show S.length - (k + 1) + 1 = S.length - k by omega]
  exact h1.symm
 rw [e, List.filter_append, List.filter_cons, if_pos hm]
theorem index_needQ {S : List SeqStep} {k : Int} (h0 : 0 ≤ k) (hk : k < S.length) (hm : bAt (maskQ S) k.toNat = true) : slices_Index_int_int (needIQ S) k = some (posNQ S k) := by
 obtain ⟨r, hr⟩ := need_splitQ (S := S) (k := k.toNat) (by omega) hm
 unfold needIQ
 rw [hr, List.map_append, List.map_cons, show ((k.toNat : Nat) : Int) = k by omega, index_at, List.length_map]
 · rfl
 · intro hc
   obtain ⟨i, hi, he⟩ := List.mem_map.1 hc
   have := needTo_ltQ i hi; omega
end Go.PF
namespace Go.PF
open Go.Pu
theorem chk_len2 {A : Type} {xs : List A} (h : xs.length ≤ 2) : chk (len xs) = some xs.length := by unfold chk; rw [if_pos (by rw [len_eq]; omega), len_eq]; simp
theorem wr_lenQ {A : Type} {xs : List A} (h : xs.length ≤ 1000000) : wr ((len xs) - 1) = len xs - 1 := wr_of _ (by rw [len_eq]; omega) (by rw [len_eq]; omega)
theorem forR_foldQ {S X : Type} {α : Type} {xs : List α} {body : Nat → S → Option (Lp S X)} {F : S → α → S} (I : Nat → S → Prop) {s0 : S} (h0 : I 0 s0)
 (h : ∀ i x s, xs[i]? = some x → I i s → body i s = some (.nx (F s x)) ∧ I (i + 1) (F s x)) : forR 0 xs.length body s0 = some (.go (xs.foldl F s0)) := by
 have key : ∀ (m : List α) (k : Nat) (s : S), (∀ i y, m[i]? = some y → xs[k + i]? = some y) → I k s → forFrom body m.length k s = some (.go (m.foldl F s)) := by
  intro m
  induction m with
  | nil => intro k s _ _; rfl
  | cons y m ih =>
   intro k s hm hI
   obtain ⟨h1, h2⟩ := h k y s (by have := hm 0 y rfl; simpa using this) hI
   simp only [List.length_cons, forFrom, h1, List.foldl_cons]
   exact ih (k + 1) (F s y) (fun i z hz => by have := hm (i + 1) z (by simpa using hz); rwa [show k + (i + 1) = k + 1 + i by omega] at this) h2
 unfold forR
 exact key xs 0 s0 (by simp) h0
theorem bdR_downQ {σ α T X β : Type} (mk : σ → Int → T) {xs : List α} {body : T → Option (Lp T X)} {k : T → Option β} {l : X → Option β} {r : Option β} (I : Nat → σ → Prop) {s0 : σ} {t0 : T} (ht : t0 = mk s0 (len xs - 1)) (h0 : I xs.length s0)
 (h : ∀ (i : Nat) x s, xs[i]? = some x → I (i + 1) s → ∃ s', body (mk s (i : Int)) = some (.nx (mk s' ((i : Int) - 1))) ∧ I i s') (he : ∀ s, I 0 s → body (mk s (-1)) = some (.bk (mk s (-1)))) (hk : ∀ s, I 0 s → k (mk s (-1)) = r) : bdR (iter body t0) k l = r := by
 subst ht
 have key : ∀ (k : Nat) (s : σ), k ≤ xs.length → I k s → ∃ s', iter body (mk s ((k : Int) - 1)) = some (.go (mk s' (-1))) ∧ I 0 s' := by
  intro k
  induction k with
  | zero => intro s _ hI; exact ⟨s, iter_bk (he s hI), hI⟩
  | succ k ih =>
   intro s hk hI
   obtain ⟨x, hx⟩ : ∃ x, xs[k]? = some x := ⟨_, List.getElem?_eq_getElem (by omega)⟩
   obtain ⟨s', h1, h2⟩ := h k x s hx hI
   rw [show ((k + 1 : Nat) : Int) - 1 = (k : Int) by omega, iter_nx h1]
   exact ih _ (by omega) h2
 obtain ⟨s', h1, h2⟩ := key xs.length s0 (Nat.le_refl _) h0
 have h1' : iter body (mk s0 (len xs - 1)) = some (.go (mk s' (-1))) := h1
 rw [h1', bdR_go]; exact hk _ h2
theorem forR_invQ {α σ X : Type} {xs : List α} {body : Nat → σ → Option (Lp σ X)} (I : Nat → σ → Prop) {s0 : σ} (h0 : I 0 s0) (h : ∀ i x s, xs[i]? = some x → I i s → ∃ s', body i s = some (.nx s') ∧ I (i + 1) s') : ∃ s', forR 0 xs.length body s0 = some (.go s') ∧ I xs.length s' := by
 have key : ∀ (n i : Nat) (s : σ), i + n = xs.length → I i s → ∃ s', forFrom body n i s = some (.go s') ∧ I xs.length s' := by
  intro n
  induction n with
  | zero => intro i s hi hI; rw [Nat.add_zero] at hi; subst hi; exact ⟨s, rfl, hI⟩
  | succ n ih =>
   intro i s hi hI
   obtain ⟨s', e, hI'⟩ := h i xs[i] s (List.getElem?_eq_getElem (by omega)) hI
   unfold forFrom
   rw [e]; exact ih (i + 1) s' (by omega) hI'
 exact key xs.length 0 s0 (by omega) h0
theorem need_loopQ {S : List SeqStep} (h : IsQ S) {β : Type} {k : List Bool × List Int × Int → Option β} {l : Empty → Option β} {r : Option β} (hk : ∀ M, k (M, (needIQ S).reverse, -1) = r) : bdR (iter (S := ((List Bool) × (List Int) × Int)) (X := Empty) (fun s416 => (bif (decide (0 ≤ s416.2.2)) then bd (ix s416.1 s416.2.2) (fun x770 => (bif (bif (!x770) then (decide (s416.2.2 < (wr ((len S) - 1)))) else false) then some (Lp.nx (s416.1, s416.2.1, (wr (s416.2.2 - 1)))) else bd (app s416.2.1 [s416.2.2]) (fun xs791 => bd (PF.impl_trimSeq_1 s416.2.2 S) (fun r802 => bd (chk (len r802)) (fun m812 => bdR (forR (S := (List Bool)) (X := Empty) 0 m812 (fun i813 s813 => bd (ix r802 ((i813 : Nat) : Int)) (fun x911 => bd (ix s813 x911) (fun x919 => bd (put s813 x911 true) (fun xs924 => some (Lp.nx xs924))))) s416.1) (fun s813 => some (Lp.nx (s813, xs791, (wr (s416.2.2 - 1))))) (fun x813 => nomatch x813)))))) else some (Lp.bk (s416.1, s416.2.1, s416.2.2)))) (List.replicate S.length false, [], (wr ((len S) - 1)))) k l = r := by
 have hS := h.le
 rw [show wr ((len S) - 1) = len S - 1 from wr_lenQ (by omega)]
 refine bdR_downQ (σ := List Bool × List Int) (fun s i => (s.1, s.2, i)) (xs := S) (s0 := (List.replicate S.length false, [])) (fun k s => s.1.length = S.length ∧ remQ S k (s.1.set (S.length - 1) true) = maskQ S ∧ s.2 = tailNQ S k) rfl ⟨by simp, by simp [maskQ], by simp [tailNQ]⟩ ?hh (fun s _ => rfl) ?hk
 case hk =>
  rintro ⟨M, out⟩ ⟨_, _, rfl⟩
  have e : tailNQ S 0 = (needIQ S).reverse := by unfold tailNQ needIQ needQ; rw [List.map_reverse, List.range_eq_range']; simp
  show k (M, tailNQ S 0, -1) = r
  rw [e]; exact hk M
 case hh =>
  rintro i x ⟨M, out⟩ hx ⟨hM, hr, rfl⟩
  have hi := (List.getElem?_eq_some_iff.1 hx).1
  dsimp only at hM hr ⊢
  have hp := premQ_len x
  have hb := h.pre hx
  have hd : decide ((0 : Int) ≤ (i : Int)) = true := by simp
  have hwd : wr ((i : Int) - 1) = (i : Int) - 1 := wr_down hi (by omega)
  have hwl : wr ((len S) - 1) = len S - 1 := wr_lenQ (by omega)
  -- whether it is needed
  have hn : bAt (maskQ S) i = bAt (M.set (S.length - 1) true) i := by
   rw [← hr]; unfold bAt; rw [rem_outQ h (by omega) (by omega)]
  have hMi : ix M (i : Int) = some (bAt M i) := by rw [ix_get]; unfold bAt; rw [List.getElem?_eq_getElem (by omega)]; rfl
  have hc : (bif !bAt M i then decide ((i : Int) < len S - 1) else false) = !bAt (maskQ S) i := by
   rw [hn]
   unfold bAt
   by_cases e : i = S.length - 1
   · have e1 : decide ((i : Int) < len S - 1) = false := by rw [len_eq]; simp; omega
     rw [e1, ← e, List.getElem?_set_self (by omega)]; simp
   · have e1 : decide ((i : Int) < len S - 1) = true := by rw [len_eq]; simp; omega
     rw [e1, List.getElem?_set_ne (by omega)]; simp
  have hr2 := hr
  rw [rem_succQ hx] at hr2
  have ht := tailN_stepQ hi
  have hix : ix S (i : Int) = some x := by rw [ix_get]; exact hx
  simp only [hd, cond_true, hMi, bd_some, hwd, hc]
  cases hm : bAt (maskQ S) i with
  | false =>
   rw [hm] at ht hn
   simp only [Bool.not_false, cond_true, cond_false] at ht ⊢
   refine ⟨(M, tailNQ S (i + 1)), rfl, hM, ?_, ht.symm⟩
   rw [← hr2]
   unfold nstQ
   dsimp only
   rw [← hn]; rfl
  | true =>
   rw [hm] at ht hn
   simp only [Bool.not_true, cond_true, cond_false] at ht ⊢
   have hl : (tailNQ S (i + 1)).length ≤ S.length := by
    unfold tailNQ; simp
    have := List.length_filter_le (bAt (maskQ S)) (List.range' (i + 1) (S.length - (i + 1)))
    simp at this; omega
   rw [app_ok (by simp; unfold lim; omega), bd_some]
   unfold impl_trimSeq_1
   rw [hix, bd_some, bd_some, show impl_SeqStep_uses x = premQ x from rfl, chk_len2 hp, bd_some]
   rw [forR_foldQ (X := Empty) (xs := premQ x) (F := fun M k => M.set k.toNat true) (s0 := M) (fun _ N => N.length = S.length) hM (fun j k N hk hN => by
    have hkb := hb k (List.mem_of_getElem? hk)
    obtain ⟨y, hy, _⟩ := ix_of (xs := N) hkb.1 (by omega)
    have hput : put N k true = some (N.set k.toNat true) := by
     have := put_ok (xs := N) (i := k.toNat) (x := true) (by omega)
     rwa [show ((k.toNat : Nat) : Int) = k by omega] at this
    simp only [ix_get, hk, bd_some, hy, hput]
    exact ⟨trivial, by simpa using hN⟩), bdR_go]
   refine ⟨(setT M (premQ x), tailNQ S (i + 1) ++ [(i : Int)]), rfl, ?_, ?_, ht.symm⟩
   · exact (setT_len (ks := premQ x) (M := M)).trans hM
   · rw [← hr2]
     unfold nstQ
     dsimp only
     rw [← hn]
     simp only [cond_true]
     exact congrArg (remQ S i) (setT_set (fun k hk => by have := hb k hk; omega))
end Go.PF
namespace Go.PF
open Go.Pu
theorem CorP.pre {S : List SeqStep} {k : Nat} {s : SeqStep} (h : CorP S k s) : ∀ i ∈ premQ s, 0 ≤ i ∧ i < k := by
 rw [premQ_eq]
 obtain ⟨_, ⟨e, _⟩ | ⟨e, _, _, h⟩ | ⟨e, _, h1, h2⟩ | ⟨t, l, _, _, e, e0, _, p, r, hp, h1, h2⟩⟩ := h
 · have u : nUse s = 0 := by unfold nUse; rw [if_pos e]
   rw [if_pos u]; intro i hi; simp at hi
 · have u : nUse s = 1 := by unfold nUse; rw [if_neg (by omega), if_neg (by omega)]
   rw [if_neg (by omega), if_neg (by omega)]
   intro i hi
   rw [List.mem_singleton.1 hi]; exact h.lt
 · have u : nUse s = 2 := by unfold nUse; rw [if_neg (by omega), if_pos (by omega)]
   rw [if_neg (by omega), if_pos u]
   intro i hi
   simp only [List.mem_cons, List.not_mem_nil, or_false] at hi
   rcases hi with rfl | rfl
   · exact h1.lt
   · exact h2.lt
 · have rb := ruleV_bd t l
   have hl := premV_use (s := s.seq) (t := t) (r := s.rule) (by omega) (by omega)
   rw [hp] at hl
   have u0 : ¬ nUse s = 0 := by unfold nUse; rw [if_neg (by omega)]; split <;> omega
   rw [if_neg u0]
   rcases h2 with ⟨rfl, _⟩ | ⟨q, rfl, h2⟩
   · have c : ¬ (s.rule = 5 ∨ s.rule = 6 ∨ s.rule = 8) := fun c => by rw [if_pos c] at hl; simp at hl
     have u : ¬ nUse s = 2 := by unfold nUse; rw [if_neg (by omega), if_neg (by omega)]; omega
     rw [if_neg u]
     intro i hi
     rw [List.mem_singleton.1 hi]; exact h1.lt
   · have c : s.rule = 5 ∨ s.rule = 6 ∨ s.rule = 8 := by
      apply Classical.byContradiction
      intro c; rw [if_neg c] at hl; simp at hl
     have u : nUse s = 2 := by unfold nUse; rw [if_neg (by omega), if_pos (by omega)]
     rw [if_pos u]
     intro i hi
     simp only [List.mem_cons, List.not_mem_nil, or_false] at hi
     rcases hi with rfl | rfl
     · exact h1.lt
     · exact h2.lt
theorem PrfP.isQ {S : List SeqStep} (h : PrfP S) : IsQ S := ⟨h.2.1, fun hx => by
 obtain ⟨k, hk⟩ := List.getElem?_of_mem hx
 exact h.seq hk, fun hx => (h.2.2 _ _ hx).pre⟩
theorem needQ_loop {S : List SeqStep} (h : IsQ S) {β : Type} {k : List Bool × Int → Option β} {l : Empty → Option β} : bdR (iter (S := ((List Bool) × Int)) (X := Empty) (fun s30066 => (bif (decide (0 ≤ s30066.2)) then bd (ix S s30066.2) (fun x30476 => bdR (iter (S := ((List Bool) × Int)) (X := Empty) (fun s30490 => bd (bif (decide (s30490.2 < (len (PF.spec_l23Uses x30476)))) then bd (ix s30490.1 s30066.2) (fun x30664 => some x30664) else some false) (fun t30651 => (bif t30651 then bd (ix (PF.spec_l23Uses x30476) s30490.2) (fun x30681 => bd (ix s30490.1 x30681) (fun x30689 => bd (put s30490.1 x30681 true) (fun xs30694 => some (Lp.nx (xs30694, (wr (s30490.2 + 1))))))) else some (Lp.bk (s30490.1, s30490.2))))) (s30066.1, 0)) (fun s30490 => some (Lp.nx (s30490.1, (wr (s30066.2 - 1))))) (fun x30490 => nomatch x30490)) else some (Lp.bk (s30066.1, s30066.2)))) ((List.replicate S.length false).set (S.length - 1) true, (wr ((len S) - 1)))) k l = k (maskQ S, -1) := by
 have hS := h.le
 rw [wr_lenQ (by omega)]
 refine bdR_down (X := Empty) (xs := S) (fun M p => nstQ M p) (s0 := (List.replicate S.length false).set (S.length - 1) true)
  (fun k M => M.length = S.length ∧ remQ S k M = maskQ S) ⟨by simp, rfl⟩ ?hh ?he ?hk
 case hk =>
  intro M hM
  have : M = maskQ S := hM.2
  rw [this]
 case he => intro M; rfl
 case hh =>
  intro i x M hx ⟨hM, hr⟩
  have hi := (List.getElem?_eq_some_iff.1 hx).1
  have hd : decide ((0 : Int) ≤ (i : Int)) = true := by simp
  have hix : ix S (i : Int) = some x := by rw [ix_get]; exact hx
  have hwd : wr ((i : Int) - 1) = (i : Int) - 1 := wr_down hi (by omega)
  obtain ⟨k, hk⟩ := uses_loop (us := premQ x) (M := M) (i := i) (by omega) (h.pre hx) (premQ_len x) (f := fun s => bd (bif decide (s.2 < len (spec_l23Uses x)) then bd (ix s.1 (i : Int)) (fun x => some x) else some false) (fun t => bif t then bd (ix (spec_l23Uses x) s.2) (fun z => bd (ix s.1 z) (fun _ => bd (put s.1 z true) (fun xs => some (.nx (xs, wr (s.2 + 1)))))) else some (.bk (s.1, s.2)))) (fun s => rfl)
  have hnst : (nstQ M (x, i)).length = S.length := by rw [nst_lenQ]; exact hM
  refine ⟨?_, hnst, ?_⟩
  · simp only [hd, cond_true, hix, bd_some]
    have e : iter (S := List Bool × Int) (X := Empty) (fun s => bd (bif decide (s.2 < len (spec_l23Uses x)) then bd (ix s.1 (i : Int)) (fun x => some x) else some false) (fun t => bif t then bd (ix (spec_l23Uses x) s.2) (fun z => bd (ix s.1 z) (fun _ => bd (put s.1 z true) (fun xs => some (.nx (xs, wr (s.2 + 1)))))) else some (.bk (s.1, s.2)))) (M, 0) = some (.go (nstQ M (x, i), k)) := hk
    rw [e, bdR_go, hwd]
  · rw [← rem_succQ hx]; exact hr
theorem premQ_a {x : SeqStep} (h : 0 < nUse x) : x.a ∈ premQ x := by
 rw [premQ_eq, if_neg (by omega)]; split <;> simp
theorem premQ_b {x : SeqStep} (h : 1 < nUse x) : x.b ∈ premQ x := by
 have := nUse_le x
 rw [premQ_eq, if_neg (by omega), if_pos (by omega)]; simp
theorem ownQ {y : SeqStep} (h : seqB y.seq = true) : spec_l23Own y.seq = some y.seq ∧ impl_Sequent_clone y.seq = some y.seq := by
 unfold seqB at h
 rw [Bool.and_eq_true, sideB_iff, sideB_iff] at h
 have h1 := h.1.len; have h2 := h.2.len
 refine ⟨own_eq (by unfold lim; omega) (by unfold lim; omega), ?_⟩
 unfold impl_Sequent_clone
 rw [slices_Clone_string_eq (by unfold lim; omega), bd_some, slices_Clone_string_eq (by unfold lim; omega)]; rfl
theorem trim_snocQ {S : List SeqStep} {l : List Nat} {i : Nat} {x : SeqStep} (hx : S[i]? = some x) : trimLQ S (l ++ [i]) = trimLQ S l ++ [trimXQ S x] := by
 unfold trimLQ
 rw [List.filterMap_append]
 have e : trimAtQ S i = some (trimXQ S x) := by unfold trimAtQ; rw [hx]; rfl
 rw [List.filterMap_cons_some e]; rfl
theorem spec_trim_eq {S : List SeqStep} (h : IsQ S) (h1 : 1 ≤ S.length) (hp : spec_l23Proof S = some true) : spec_TrimSeq S = some (trimLQ S (needQ S), true) := by
 have hSl := h.le
 unfold spec_TrimSeq
 rw [hp, bd_some, Bool.not_true, cond_false, show len S = ((S.length : Nat) : Int) from rfl, mk2_ok (by unfold lim; omega), bd_some, mk2_ok (by unfold lim; omega), bd_some]
 have e : wr (((S.length : Nat) : Int) - 1) = ((S.length - 1 : Nat) : Int) := by rw [wr_of _ (by omega) (by omega)]; omega
 have i1 : ix (List.replicate S.length false) ((S.length - 1 : Nat) : Int) = some false := by rw [ix_get, List.getElem?_replicate, if_pos (by omega)]
 rw [e, i1, bd_some, put_ok (by simp; omega), bd_some]
 have hl := needQ_loop h (β := (List SeqStep × Bool)) (l := fun x => nomatch x) (k := fun s30066 => bdR (forL (S := ((List SeqStep) × (List Int))) (X := Empty) S (fun i30721 y30720 s30721 => bd (ix s30066.1 ((i30721 : Nat) : Int)) (fun x31060 => (bif (!x31060) then some (Lp.nx (s30721.1, s30721.2)) else bd (PF.spec_l23Own y30720.seq) (fun r31080 => bdR (S := Int) (X := Empty) ((bif (decide (0 < (len (PF.spec_l23Uses (SeqStep.mk r31080 y30720.rule y30720.main y30720.a y30720.b))))) then bd (ix s30721.2 y30720.a) (fun x31132 => some (Rs.go x31132)) else some (Rs.go y30720.a))) (fun s31122 => bdR (S := Int) (X := Empty) ((bif (decide (1 < (len (PF.spec_l23Uses (SeqStep.mk r31080 y30720.rule y30720.main y30720.a y30720.b))))) then bd (ix s30721.2 y30720.b) (fun x31171 => some (Rs.go x31171)) else some (Rs.go y30720.b))) (fun s31161 => bd (ix s30721.2 ((i30721 : Nat) : Int)) (fun x31193 => bd (put s30721.2 ((i30721 : Nat) : Int) (len s30721.1)) (fun xs31198 => bd (app s30721.1 [(SeqStep.mk r31080 y30720.rule y30720.main s31122 s31161)]) (fun xs31210 => some (Lp.nx (xs31210, xs31198)))))) (fun x31163 => nomatch x31163)) (fun x31124 => nomatch x31124))))) ([], List.replicate S.length 0)) (fun s30721 => some (s30721.1, true)) (fun x30721 => nomatch x30721))
 have e' : wr (len S - 1) = ((S.length - 1 : Nat) : Int) := e
 rw [e'] at hl
 refine Eq.trans ?_ (hl.trans ?_)
 · rfl
 obtain ⟨⟨out, to⟩, h1, h2, h3⟩ := forL_inv (X := Empty) (l := S) (s := ([], List.replicate S.length 0)) (body := (fun i30721 y30720 s30721 => bd (ix (maskQ S) ((i30721 : Nat) : Int)) (fun x31060 => (bif (!x31060) then some (Lp.nx (s30721.1, s30721.2)) else bd (PF.spec_l23Own y30720.seq) (fun r31080 => bdR (S := Int) (X := Empty) ((bif (decide (0 < (len (PF.spec_l23Uses (SeqStep.mk r31080 y30720.rule y30720.main y30720.a y30720.b))))) then bd (ix s30721.2 y30720.a) (fun x31132 => some (Rs.go x31132)) else some (Rs.go y30720.a))) (fun s31122 => bdR (S := Int) (X := Empty) ((bif (decide (1 < (len (PF.spec_l23Uses (SeqStep.mk r31080 y30720.rule y30720.main y30720.a y30720.b))))) then bd (ix s30721.2 y30720.b) (fun x31171 => some (Rs.go x31171)) else some (Rs.go y30720.b))) (fun s31161 => bd (ix s30721.2 ((i30721 : Nat) : Int)) (fun x31193 => bd (put s30721.2 ((i30721 : Nat) : Int) (len s30721.1)) (fun xs31198 => bd (app s30721.1 [(SeqStep.mk r31080 y30720.rule y30720.main s31122 s31161)]) (fun xs31210 => some (Lp.nx (xs31210, xs31198)))))) (fun x31163 => nomatch x31163)) (fun x31124 => nomatch x31124))))))
  (fun i s => s.1 = trimLQ S (needToQ S i) ∧ s.2.length = S.length ∧ ∀ k, k < i → bAt (maskQ S) k = true → s.2[k]? = some (((needToQ S k).length : Nat) : Int)) ⟨rfl, by simp, fun k hk => by omega⟩ (fun i x s hx ⟨hs, hl, ht⟩ => by
   obtain ⟨out, to⟩ := s
   dsimp only at hs hl ht ⊢
   subst hs
   have hi := (List.getElem?_eq_some_iff.1 hx).1
   rw [mask_ixQ hx, bd_some, needTo_succQ]
   cases hm : bAt (maskQ S) i with
   | false =>
    refine ⟨_, rfl, rfl, hl, fun k hk hmk => ht k ?_ hmk⟩
    rcases Nat.lt_or_ge k i with h | h
    · exact h
    · have : k = i := by omega
      subst this; rw [hm] at hmk; cases hmk
   | true =>
    obtain ⟨y, hy⟩ := ix_len (M := to) (i := i) (by omega)
    have hlen : len (trimLQ S (needToQ S i)) = (((needToQ S i).length : Nat) : Int) := by rw [len_eq, trimL_lenQ (fun j hj => by have := needTo_ltQ j hj; omega)]
    have hto : ∀ k ∈ premQ x, ix to k = some (posNQ S k) := fun k hk => by
     have hb := h.pre hx k hk
     have hmk := mask_premQ h hx hm k hk
     have := ht k.toNat (by omega) hmk
     unfold ix
     rw [if_pos hb.1, this]; rfl
    have hto2 : ∀ k, k < i + 1 → bAt (maskQ S) k = true → (to.set i (((needToQ S i).length : Nat) : Int))[k]? = some (((needToQ S k).length : Nat) : Int) := fun k hk hmk => by
     by_cases e : k = i
     · subst e; rw [List.getElem?_set_self (by omega)]
     · rw [List.getElem?_set_ne (by omega)]; exact ht k (by omega) hmk
    have hown := (ownQ (h.seq (List.mem_of_getElem? hx))).1
    have hu : spec_l23Uses (SeqStep.mk x.seq x.rule x.main x.a x.b) = spec_l23Uses x := rfl
    have hle := needTo_leQ S i
    rw [Bool.not_true, cond_false, hown, bd_some, hu, uses_spec]
    have ga : (bif decide (0 < (nUse x : Int)) then bd (ix to x.a) (fun x31132 => some (Rs.go x31132)) else some (Rs.go x.a) : Option (Rs Int Empty)) = some (Rs.go (trimXQ S x).a) := by
     unfold trimXQ
     by_cases c : 0 < nUse x
     · rw [bifT (decide_eq_true (by omega)), hto _ (premQ_a c), bd_some]; dsimp only; rw [if_pos c]
     · rw [bifF (decide_eq_false (by omega))]; dsimp only; rw [if_neg c]
    have gb : (bif decide (1 < (nUse x : Int)) then bd (ix to x.b) (fun x31132 => some (Rs.go x31132)) else some (Rs.go x.b) : Option (Rs Int Empty)) = some (Rs.go (trimXQ S x).b) := by
     unfold trimXQ
     by_cases c : 1 < nUse x
     · rw [bifT (decide_eq_true (by omega)), hto _ (premQ_b c), bd_some]; dsimp only; rw [if_pos c]
     · rw [bifF (decide_eq_false (by omega))]; dsimp only; rw [if_neg c]
    rw [ga, bdR_go, gb, bdR_go, hy, bd_some, hlen, put_ok (show i < to.length by omega), bd_some, app_ok (by rw [trimL_lenQ (fun j hj => by have := needTo_ltQ j hj; omega)]; simp; unfold lim; omega), bd_some]
    exact ⟨_, rfl, (trim_snocQ hx).symm, by simpa using hl, hto2⟩)
 refine (congrArg (fun z => bdR z _ _) h1).trans ?_
 rw [bdR_go]
 exact congrArg (fun z => some (z, true)) h2
theorem impl_trim_eq {S : List SeqStep} (h : IsQ S) : impl_trimSeq S = some (trimLQ S (needQ S)) := by
 have hSl := h.le
 have hn := need_leQ S
 have hl : (needIQ S).length ≤ 200 := by rw [needI_lengthQ]; omega
 unfold impl_trimSeq
 have first : (bd (mk2 (false : Bool) (len S) (len S)) (fun xs406 => bdR (iter (S := ((List Bool) × (List Int) × Int)) (X := Empty) (fun s416 => (bif (decide (0 ≤ s416.2.2)) then bd (ix s416.1 s416.2.2) (fun x770 => (bif (bif (!x770) then (decide (s416.2.2 < (wr ((len S) - 1)))) else false) then some (Lp.nx (s416.1, s416.2.1, (wr (s416.2.2 - 1)))) else bd (app s416.2.1 [s416.2.2]) (fun xs791 => bd (PF.impl_trimSeq_1 s416.2.2 S) (fun r802 => bd (chk (len r802)) (fun m812 => bdR (forR (S := (List Bool)) (X := Empty) 0 m812 (fun i813 s813 => bd (ix r802 ((i813 : Nat) : Int)) (fun x911 => bd (ix s813 x911) (fun x919 => bd (put s813 x911 true) (fun xs924 => some (Lp.nx xs924))))) s416.1) (fun s813 => some (Lp.nx (s813, xs791, (wr (s416.2.2 - 1))))) (fun x813 => nomatch x813)))))) else some (Lp.bk (s416.1, s416.2.1, s416.2.2)))) (xs406, [], (wr ((len S) - 1)))) (fun s416 => bd (PF.slices_Reverse_int_int s416.2.1) (fun r960 => some r960)) (fun x416 => nomatch x416)) : Option (List Int)) = some (needIQ S) := by
  rw [show len S = ((S.length : Nat) : Int) from rfl, mk2_ok (by unfold lim; omega), bd_some]
  refine need_loopQ h fun M => ?_
  show bd (slices_Reverse_int_int (needIQ S).reverse) _ = _
  rw [slices_Reverse_eq (by rw [List.length_reverse]; unfold lim; omega), bd_some, List.reverse_reverse]
 refine (congrArg (fun z => bd z _) first).trans ?_
 have ck : chk (len (needIQ S)) = some (needIQ S).length := by unfold chk; rw [if_pos (by rw [len_eq]; omega), len_eq]; simp
 rw [bd_some, ck, bd_some]
 obtain ⟨s, h1, h2⟩ := forR_invQ (X := Empty) (xs := needIQ S) (s0 := ([] : List SeqStep)) (body := (fun i975 s975 => bd (ix (needIQ S) ((i975 : Nat) : Int)) (fun x1155 => bd (ix S x1155) (fun x1163 => bd (PF.impl_Sequent_clone x1163.seq) (fun r1176 => (bif (decide (0 < (len (PF.impl_SeqStep_uses (SeqStep.mk r1176 x1163.rule x1163.main x1163.a x1163.b))))) then bd (PF.slices_Index_int_int (needIQ S) x1163.a) (fun r1212 => (bif ((len (PF.impl_SeqStep_uses (SeqStep.mk r1176 x1163.rule x1163.main x1163.a x1163.b))) == 2) then bd (PF.slices_Index_int_int (needIQ S) x1163.b) (fun r1226 => bd (app s975 [(SeqStep.mk r1176 x1163.rule x1163.main r1212 r1226)]) (fun xs1245 => some (Lp.nx xs1245))) else bd (app s975 [(SeqStep.mk r1176 x1163.rule x1163.main r1212 x1163.b)]) (fun xs1264 => some (Lp.nx xs1264)))) else bd (app s975 [(SeqStep.mk r1176 x1163.rule x1163.main x1163.a x1163.b)]) (fun xs1283 => some (Lp.nx xs1283))))))))
  (fun j s => s = trimLQ S ((needQ S).take j)) rfl (fun j k s hj hs => by
   subst hs
   obtain ⟨i, x, g1, rfl, hx, hm⟩ := needI_atQ hj
   have hlt : ∀ i ∈ (needQ S).take j, i < S.length := fun i hi => needTo_ltQ (S := S) i (by rw [needTo_allQ]; exact List.mem_of_mem_take hi)
   have hjl := (List.getElem?_eq_some_iff.1 g1).1
   have hi := (List.getElem?_eq_some_iff.1 hx).1
   have hix : ∀ k, k ∈ premQ x → slices_Index_int_int (needIQ S) k = some (posNQ S k) := fun k hk => by
    have hb := h.pre hx k hk
    exact index_needQ hb.1 (by omega) (mask_premQ h hx hm k hk)
   have fin : ∀ y, app (trimLQ S ((needQ S).take j)) [y] = some (trimLQ S ((needQ S).take j) ++ [y]) := fun y => app_ok (by rw [trimL_lenQ hlt]; simp; unfold lim; omega)
   have hcl := (ownQ (h.seq (List.mem_of_getElem? hx))).2
   refine ⟨trimLQ S ((needQ S).take j) ++ [trimXQ S x], ?_, by rw [List.take_add_one, g1]; exact (trim_snocQ (l := (needQ S).take j) hx).symm⟩
   have hu : impl_SeqStep_uses (SeqStep.mk x.seq x.rule x.main x.a x.b) = impl_SeqStep_uses x := rfl
   have hle := nUse_le x
   rw [ix_get, hj, bd_some, ix_get, hx, bd_some, hcl, bd_some, hu, uses_impl]
   unfold trimXQ
   by_cases c0 : 0 < nUse x
   · rw [bifT (decide_eq_true (by omega)), hix _ (premQ_a c0), bd_some]
     by_cases c1 : 1 < nUse x
     · rw [show (((nUse x : Nat) : Int) == 2) = true by rw [beq_iff_eq]; omega, cond_true, hix _ (premQ_b c1), bd_some, fin, bd_some, if_pos c0, if_pos c1]
     · rw [show (((nUse x : Nat) : Int) == 2) = false by rw [beq_eq_false_iff_ne]; omega, cond_false, fin, bd_some, if_pos c0, if_neg c1]
   · rw [bifF (decide_eq_false (by omega)), fin, bd_some, if_neg c0, if_neg (by omega)])
 refine (congrArg (fun z => bdR z _ _) h1).trans ?_
 rw [bdR_go, h2, needI_lengthQ, List.take_length]
theorem trimXQ_seq (S : List SeqStep) (x : SeqStep) : (trimXQ S x).seq = x.seq := rfl
theorem trim_both {S : List SeqStep} (hS : SOk S) : ∃ r, spec_TrimSeq S = some r ∧ impl_TrimSeq S = some r ∧ Few r.1 := by
 unfold impl_TrimSeq
 obtain ⟨b, b1, b2, b3⟩ := proof_both hS
 cases b with
 | false =>
  rw [b2]
  unfold spec_TrimSeq
  rw [b1]
  exact ⟨_, rfl, rfl, ⟨by simp, by simp⟩⟩
 | true =>
  have hp := b3.1 rfl
  have hQ := hp.isQ
  rw [spec_trim_eq hQ hp.1 b1, b2, bd_some, Bool.not_true, cond_false, impl_trim_eq hQ]
  refine ⟨_, rfl, rfl, ?_, fun y hy => ?_⟩
  · have h1 := need_leQ S
    have h2 := hQ.le
    have : (trimLQ S (needQ S)).length ≤ (needQ S).length := List.length_filterMap_le _ _
    dsimp only; omega
  · obtain ⟨i, _, hi⟩ := List.mem_filterMap.1 hy
    unfold trimAtQ at hi
    cases hx : S[i]? with
    | none => rw [hx] at hi; cases hi
    | some x =>
     rw [hx] at hi; cases hi
     have := hQ.seq (List.mem_of_getElem? hx)
     unfold seqB at this
     rw [Bool.and_eq_true, sideB_iff, sideB_iff] at this
     have h1 := this.1.len; have h2 := this.2.len
     rw [trimXQ_seq]; omega
theorem plain_TrimSeq (a : List SeqStep) (ha : okL okSeqStep a) : laws_FnExactTrimSeq a = some true := by
 unfold laws_FnExactTrimSeq
 obtain ⟨r, e, hr⟩ := sz_SeqStepS ha (s := 1048576) (by omega) (by omega)
 rw [e, bd_some]
 by_cases hn : r < 0
 · rw [bifT (decide_eq_true hn)]
 · rw [bifF (decide_eq_false hn)]
   have hr := hr.resolve_left hn
   have hS := SOk_sz (by omega) (by omega) hr
   obtain ⟨q, q1, q2, q3⟩ := trim_both hS
   obtain ⟨m, m1, m2, m3⟩ := q3.marks
   have mS := mark_in (by omega) (by omega) hr (k := 1) (by omega) (by omega)
   rw [to_SeqStepS hS, bd_some, q1, bd_some, bd_some, q2, bd_some, eq_SeqStepS, bd_some]
   simp only [beq_self_eq_true, Bool.not_true, cond_false, bd_some, eq_SeqStepS, q2, decide_eq_false (show ¬ (laws_markSeqStepS a 1).2 < 0 by omega), m1, m2, decide_eq_false (show ¬ m < 0 by omega)]
end Go.PF
