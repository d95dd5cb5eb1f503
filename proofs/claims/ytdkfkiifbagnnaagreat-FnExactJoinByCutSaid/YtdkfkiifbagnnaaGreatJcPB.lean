/- Helpers of the walks and plain laws. -/
import Derived.Test.YtdkfkiifbagnnaaGreatJcPA
set_option linter.unusedVariables false
namespace Go.PF
open Go.Pu
theorem own_eq {s : Sequent} (h1 : s.left.length ≤ lim) (h2 : s.right.length ≤ lim) : spec_l23Own s = some s := by
 unfold spec_l23Own
 rw [app_ok (by simpa using h1), bd_some, app_ok (by simpa using h2), bd_some]; rfl
end Go.PF
namespace Go.PF
open Go.Pu
def fch (b : UInt8) : Bool := b != 44 && b != 32
theorem txt_fch {t : Ft} (h : t.wf = true) : ∀ b ∈ t.txt, fch b = true := by
 induction t with
 | leaf c =>
  intro b hb
  rw [Ft.txt, List.mem_singleton] at hb
  subst hb
  have hl : isLf b = true := h
  unfold fch
  have h1 : b ≠ 44 := by rintro rfl; revert hl; decide
  have h2 : b ≠ 32 := by rintro rfl; revert hl; decide
  simp [h1, h2]
 | neg a ih =>
  intro b hb
  rw [Ft.txt, List.mem_cons] at hb
  rcases hb with rfl | hb
  · decide
  · exact ih h b hb
 | bin op a b' iha ihb =>
  simp only [Ft.wf, Bool.and_eq_true] at h
  intro b hb
  simp only [Ft.txt, List.mem_cons, List.mem_append, List.not_mem_nil, or_false] at hb
  rcases hb with rfl | hb | rfl | hb | rfl
  · decide
  · exact iha h.1.2 b hb
  · have ho := h.1.1
    unfold fch
    have h1 : b ≠ 44 := by rintro rfl; revert ho; decide
    have h2 : b ≠ 32 := by rintro rfl; revert ho; decide
    simp [h1, h2]
  · exact ihb h.2 b hb
  · decide
def FT (x : ByteArray) : Prop := (∀ b ∈ bs x, fch b = true) ∧ bs x ≠ []
theorem FT_good {x : ByteArray} (h : goodB x = true) : FT x := by
 obtain ⟨t, h1, h2, h3, _, _⟩ := good_ft h
 rw [h3]
 exact ⟨by rw [bs_tx]; exact txt_fch h2, by rw [bs_tx]; exact t.txt_ne⟩
theorem FT_txt {t : Ft} (h : t.wf = true) : FT (tx t.txt) := ⟨by rw [bs_tx]; exact txt_fch h, by rw [bs_tx]; exact t.txt_ne⟩
def stopB (u : List UInt8) : Prop := match u with
 | [] => True
 | b :: _ => fch b = false
theorem split_fch : ∀ {e e' u u' : List UInt8}, (∀ b ∈ e, fch b = true) → (∀ b ∈ e', fch b = true) → stopB u → stopB u' → e ++ u = e' ++ u' → e = e' ∧ u = u'
 | [], [], _, _, _, _, _, _, h => ⟨rfl, h⟩
 | [], b :: e', u, u', _, h2, h3, _, h => by
  simp only [List.nil_append, List.cons_append] at h
  subst h
  have := h2 b (List.mem_cons_self ..)
  simp only [stopB] at h3
  rw [this] at h3; cases h3
 | b :: e, [], u, u', h1, _, _, h4, h => by
  simp only [List.nil_append, List.cons_append] at h
  subst h
  have := h1 b (List.mem_cons_self ..)
  simp only [stopB] at h4
  rw [this] at h4; cases h4
 | b :: e, c :: e', u, u', h1, h2, h3, h4, h => by
  simp only [List.cons_append, List.cons.injEq] at h
  obtain ⟨g1, g2⟩ := split_fch (fun x hx => h1 x (List.mem_cons_of_mem _ hx)) (fun x hx => h2 x (List.mem_cons_of_mem _ hx)) h3 h4 h.2
  exact ⟨by rw [h.1, g1], g2⟩
def tailT : List ByteArray → List UInt8
 | [] => []
 | x :: l => [44, 32] ++ bs x ++ tailT l
def sideT : List ByteArray → List UInt8
 | [] => []
 | x :: l => bs x ++ tailT l
def seqT (s : Sequent) : List UInt8 := sideT s.left ++ [32, 124, 45, 32] ++ sideT s.right
theorem tail_stop (l : List ByteArray) (u : List UInt8) (hu : stopB u) : stopB (tailT l ++ u) := by
 cases l with
 | nil => exact hu
 | cons x l => show fch 44 = false; rfl
theorem tail_inj : ∀ {l m : List ByteArray} {u v : List UInt8}, (∀ x ∈ l, FT x) → (∀ x ∈ m, FT x) → (∀ w, u ≠ 44 :: w) → (∀ w, v ≠ 44 :: w) → stopB u → stopB v → tailT l ++ u = tailT m ++ v → l = m ∧ u = v
 | [], [], _, _, _, _, _, _, _, _, h => ⟨rfl, h⟩
 | [], x :: m, u, v, _, _, h3, _, _, _, h => by
  simp only [tailT, List.nil_append, List.cons_append] at h
  exact absurd h (h3 _)
 | x :: l, [], u, v, _, _, _, h4, _, _, h => by
  simp only [tailT, List.nil_append, List.cons_append] at h
  exact absurd h.symm (h4 _)
 | x :: l, y :: m, u, v, h1, h2, h3, h4, h5, h6, h => by
  simp only [tailT, List.cons_append, List.nil_append, List.cons.injEq, true_and, List.append_assoc] at h
  obtain ⟨g1, g2⟩ := split_fch (h1 x (List.mem_cons_self ..)).1 (h2 y (List.mem_cons_self ..)).1 (tail_stop l u h5) (tail_stop m v h6) h
  obtain ⟨g3, g4⟩ := tail_inj (fun z hz => h1 z (List.mem_cons_of_mem _ hz)) (fun z hz => h2 z (List.mem_cons_of_mem _ hz)) h3 h4 h5 h6 g2
  exact ⟨by rw [bs_ext g1, g3], g4⟩
theorem side_inj {l m : List ByteArray} {u v : List UInt8} (h1 : ∀ x ∈ l, FT x) (h2 : ∀ x ∈ m, FT x) (h3 : ∀ w, u ≠ 44 :: w) (h4 : ∀ w, v ≠ 44 :: w) (h5 : stopB u) (h6 : stopB v) (h : sideT l ++ u = sideT m ++ v) : l = m ∧ u = v := by
 have first : ∀ {x : ByteArray} {l : List ByteArray} {u v : List UInt8}, FT x → stopB v → bs x ++ tailT l ++ u = v → False := by
  intro x l u v hx hv e
  subst e
  cases hb : bs x with
  | nil => exact hx.2 hb
  | cons b r =>
   rw [hb] at hv
   simp only [List.cons_append, stopB] at hv
   have := hx.1 b (by rw [hb]; exact List.mem_cons_self ..)
   rw [this] at hv; cases hv
 cases l with
 | nil =>
  cases m with
  | nil => exact ⟨rfl, h⟩
  | cons y m => exact (first (h2 y (List.mem_cons_self ..)) h5 h.symm).elim
 | cons x l =>
  cases m with
  | nil => exact (first (h1 x (List.mem_cons_self ..)) h6 h).elim
  | cons y m =>
   simp only [sideT, List.append_assoc] at h
   obtain ⟨g1, g2⟩ := split_fch (h1 x (List.mem_cons_self ..)).1 (h2 y (List.mem_cons_self ..)).1 (tail_stop l u h5) (tail_stop m v h6) h
   obtain ⟨g3, g4⟩ := tail_inj (fun z hz => h1 z (List.mem_cons_of_mem _ hz)) (fun z hz => h2 z (List.mem_cons_of_mem _ hz)) h3 h4 h5 h6 g2
   exact ⟨by rw [bs_ext g1, g3], g4⟩
structure FQ (s : Sequent) : Prop where
 l : ∀ x ∈ s.left, FT x ∧ x.size ≤ 1000
 r : ∀ x ∈ s.right, FT x ∧ x.size ≤ 1000
 ll : s.left.length ≤ 1000
 lr : s.right.length ≤ 1000
theorem seqT_inj {s t : Sequent} (hs : FQ s) (ht : FQ t) : seqT s = seqT t ↔ s = t := by
 constructor
 · intro h
   unfold seqT at h
   simp only [List.append_assoc] at h
   have st : ∀ w : List UInt8, stopB ([32, 124, 45, 32] ++ w) := fun w => by show fch 32 = false; rfl
   obtain ⟨g1, g2⟩ := side_inj (fun x hx => (hs.l x hx).1) (fun x hx => (ht.l x hx).1) (by simp) (by simp) (st _) (st _) h
   have g3 : sideT s.right ++ [] = sideT t.right ++ [] := by simpa using g2
   obtain ⟨g4, _⟩ := side_inj (fun x hx => (hs.r x hx).1) (fun x hx => (ht.r x hx).1) (by simp) (by simp) (show stopB [] from trivial) (show stopB [] from trivial) g3
   cases s; cases t; simp only at g1 g4; rw [g1, g4]
 · rintro rfl; rfl
theorem join_loop {l : List ByteArray} (hl : ∀ x ∈ l, x.size ≤ 1000) (hn : l.length ≤ 1000) {u : ByteArray} (hu : u.size ≤ 10000000) {body : ByteArray × Int → Option (Lp (ByteArray × Int) Empty)}
 (hb : ∀ s, body s = (bif (decide (s.2 < (len l))) then (bif (decide (0 < s.2)) then bd (catS s.1 (ByteArray.mk #[44, 32])) (fun z72 => bd (ix l s.2) (fun x80 => bd (catS z72 x80) (fun z82 => some (Lp.nx (z82, (wr (s.2 + 1))))))) else bd (ix l s.2) (fun x90 => bd (catS s.1 x90) (fun z92 => some (Lp.nx (z92, (wr (s.2 + 1))))))) else some (Lp.bk (s.1, s.2)))) :
 ∃ r i, iter body (u, 0) = some (.go (r, i)) ∧ bs r = bs u ++ sideT l ∧ r.size ≤ u.size + 1002 * l.length := by
 have key : ∀ (m : List ByteArray) (k : Nat) (t : ByteArray), 0 < k → l.drop k = m → k ≤ l.length → t.size + 1002 * m.length ≤ 20000000 → ∃ r i, iter body (t, (k : Int)) = some (.go (r, i)) ∧ bs r = bs t ++ tailT m ∧ r.size ≤ t.size + 1002 * m.length := by
  intro m
  induction m with
  | nil =>
   intro k t hk hd hle _
   have e : k = l.length := by
    have := congrArg List.length hd
    rw [List.length_drop, List.length_nil] at this; omega
   refine ⟨t, (k : Int), iter_bk ?_, by simp [tailT], by simp⟩
   rw [hb, bifF (decide_eq_false (by rw [len_eq]; show ¬ ((k : Int) < ((l.length : Nat) : Int)); omega))]
  | cons x m ih =>
   intro k t hk hd hle hz
   have hkl : k < l.length := by
    have := congrArg List.length hd
    rw [List.length_drop, List.length_cons] at this; omega
   have hx : l[k]? = some x := by
    have : (l.drop k)[0]? = some x := by rw [hd]; rfl
    rwa [List.getElem?_drop, Nat.add_zero] at this
   have hd' : l.drop (k + 1) = m := by rw [← List.tail_drop, hd]; rfl
   have hxs := hl x (List.mem_of_getElem? hx)
   rw [List.length_cons] at hz
   have s2 : (ByteArray.mk #[44, 32]).size = 2 := rfl
   obtain ⟨r, i, r1, r2, r3⟩ := ih (k + 1) (t ++ ByteArray.mk #[44, 32] ++ x) (by omega) hd' (by omega) (by rw [ByteArray.size_append, ByteArray.size_append, s2]; omega)
   refine ⟨r, i, ?_, ?_, ?_⟩
   · rw [← r1]
     refine iter_nx ?_
     rw [hb, bifT (decide_eq_true (by rw [len_eq]; show (k : Int) < ((l.length : Nat) : Int); omega)), bifT (decide_eq_true (show 0 < (k : Int) by omega))]
     dsimp only
     rw [catS_ok (by rw [s2]; omega), bd_some, ix_get, hx, bd_some, catS_ok (by rw [ByteArray.size_append, s2]; omega), bd_some, wr_k (by omega)]
   · rw [r2, bs_app, bs_app]; simp [tailT, bs]
   · rw [ByteArray.size_append, ByteArray.size_append, s2] at r3
     rw [List.length_cons]; omega
 cases l with
 | nil =>
  refine ⟨u, 0, iter_bk ?_, by simp [sideT], by simp⟩
  rw [hb]; rfl
 | cons x m =>
  rw [List.length_cons] at hn
  have hxs := hl x (List.mem_cons_self ..)
  obtain ⟨r, i, r1, r2, r3⟩ := key m 1 (u ++ x) (by omega) rfl (by simp) (by rw [ByteArray.size_append]; omega)
  refine ⟨r, i, ?_, ?_, ?_⟩
  · rw [show ((1 : Nat) : Int) = 1 from rfl] at r1
    rw [← r1]
    refine iter_nx ?_
    rw [hb, bifT (decide_eq_true (by rw [len_eq]; show (0 : Int) < (((x :: m).length : Nat) : Int); rw [List.length_cons]; omega)), bifF (decide_eq_false (show ¬ (0 : Int) < 0 by omega))]
    dsimp only
    rw [show ix (x :: m) 0 = some x from rfl, bd_some, catS_ok (by omega), bd_some]; rfl
  · rw [r2, bs_app]; simp [sideT]
  · rw [ByteArray.size_append] at r3
    rw [List.length_cons]; omega
theorem spec_l23Text_eq {s : Sequent} (h : FQ s) : ∃ r, spec_l23Text s = some r ∧ bs r = seqT s := by
 unfold spec_l23Text
 obtain ⟨r, i, r1, r2, r3⟩ := join_loop (l := s.left) (fun x hx => (h.l x hx).2) h.ll (u := ByteArray.mk #[]) (by decide) (body := fun s29 => (bif (decide (s29.2 < (len s.left))) then (bif (decide (0 < s29.2)) then bd (catS s29.1 (ByteArray.mk #[44, 32])) (fun z72 => bd (ix s.left s29.2) (fun x80 => bd (catS z72 x80) (fun z82 => some (Lp.nx (z82, (wr (s29.2 + 1))))))) else bd (ix s.left s29.2) (fun x90 => bd (catS s29.1 x90) (fun z92 => some (Lp.nx (z92, (wr (s29.2 + 1))))))) else some (Lp.bk (s29.1, s29.2)))) (fun _ => rfl)
 rw [r1, bdR_go]
 have hz : (ByteArray.mk #[]).size = 0 := rfl
 have h4 : (ByteArray.mk #[32, 124, 45, 32]).size = 4 := rfl
 have := h.ll
 have := h.lr
 rw [catS_ok (by rw [h4]; dsimp only; omega), bd_some]
 obtain ⟨q, j, q1, q2, q3⟩ := join_loop (l := s.right) (fun x hx => (h.r x hx).2) h.lr (u := r ++ ByteArray.mk #[32, 124, 45, 32]) (by rw [ByteArray.size_append, h4]; omega) (body := fun s29 => (bif (decide (s29.2 < (len s.right))) then (bif (decide (0 < s29.2)) then bd (catS s29.1 (ByteArray.mk #[44, 32])) (fun z72 => bd (ix s.right s29.2) (fun x80 => bd (catS z72 x80) (fun z82 => some (Lp.nx (z82, (wr (s29.2 + 1))))))) else bd (ix s.right s29.2) (fun x90 => bd (catS s29.1 x90) (fun z92 => some (Lp.nx (z92, (wr (s29.2 + 1))))))) else some (Lp.bk (s29.1, s29.2)))) (fun _ => rfl)
 rw [q1, bdR_go]
 refine ⟨q, rfl, ?_⟩
 rw [q2, bs_app, r2]
 unfold seqT
 simp [bs]
theorem spec_l23Same_eq {s t : Sequent} (hs : FQ s) (ht : FQ t) : ∃ b, spec_l23Same s t = some b ∧ (b = true ↔ s = t) := by
 unfold spec_l23Same
 obtain ⟨r, r1, r2⟩ := spec_l23Text_eq hs
 obtain ⟨q, q1, q2⟩ := spec_l23Text_eq ht
 rw [r1, bd_some, q1, bd_some]
 refine ⟨_, rfl, ?_⟩
 rw [toList_bs, toList_bs, r2, q2, beq_iff_eq]
 exact seqT_inj hs ht
theorem slices_Equal_string_eq (a b : List ByteArray) : ∃ r, slices_Equal_string_string a b = some r ∧ (r = true ↔ a = b) := by
 unfold slices_Equal_string_string
 by_cases hl : a.length = b.length
 · rw [show ((len a) == (len b)) = true by rw [beq_iff_eq, len_eq, len_eq, hl], Bool.not_true, cond_false]
   rw [forL_any (p := fun i y => match b[i]? with | some x => !decide (y = x) | none => false) (v := false) (fun i y hy => by
    have hi := lt_of_get hy
    obtain ⟨x, hx⟩ : ∃ x, b[i]? = some x := ⟨_, List.getElem?_eq_getElem (by omega)⟩
    rw [ix_get, hx, bd_some, eqS])]
   cases hc : anyI (fun i y => match b[i]? with | some x => !decide (y = x) | none => false) a 0 with
   | false =>
    refine ⟨_, rfl, ⟨fun _ => ?_, fun _ => rfl⟩⟩
    have := anyI_false.1 hc
    apply List.ext_getElem?
    intro i
    by_cases hi : i < a.length
    · obtain ⟨y, hy⟩ : ∃ y, a[i]? = some y := ⟨_, List.getElem?_eq_getElem hi⟩
      obtain ⟨x, hx⟩ : ∃ x, b[i]? = some x := ⟨_, List.getElem?_eq_getElem (by omega)⟩
      have h2 := this i y hy
      rw [Nat.zero_add, hx] at h2
      simp only [Bool.not_eq_false', decide_eq_true_eq] at h2
      rw [hy, hx, h2]
    · rw [List.getElem?_eq_none (by omega), List.getElem?_eq_none (by omega)]
   | true =>
    refine ⟨_, rfl, ⟨fun h => (by cases h), fun h => ?_⟩⟩
    subst h
    have : anyI (fun i y => match a[i]? with | some x => !decide (y = x) | none => false) a 0 = false := anyI_false.2 fun i y hy => by
     rw [Nat.zero_add, hy]; simp
    rw [this] at hc; cases hc
 · rw [show ((len a) == (len b)) = false by rw [beq_eq_false_iff_ne, len_eq, len_eq]; omega]
   exact ⟨_, rfl, ⟨fun h => (by cases h), fun h => absurd (by rw [h]) hl⟩⟩
theorem impl_sameSequent_eq (s t : Sequent) : ∃ r, impl_sameSequent s t = some r ∧ (r = true ↔ s = t) := by
 unfold impl_sameSequent
 obtain ⟨r, r1, r2⟩ := slices_Equal_string_eq s.left t.left
 obtain ⟨q, q1, q2⟩ := slices_Equal_string_eq s.right t.right
 rw [r1, bd_some]
 cases r with
 | false => exact ⟨_, rfl, ⟨fun h => (by cases h), fun h => absurd (r2.2 (by rw [h])) (by simp)⟩⟩
 | true =>
  rw [cond_true, q1]
  refine ⟨_, rfl, ?_⟩
  rw [q2]
  constructor
  · intro h
    cases s; cases t
    have := r2.1 rfl
    simp only at this h
    rw [this, h]
  · rintro rfl; rfl
end Go.PF
namespace Go.PF
open Go.Pu
def PreP (S : List SeqStep) (k : Nat) (i : Int) (p : Sequent → Prop) : Prop := ∃ j : Nat, i = (j : Int) ∧ j < k ∧ ∃ y, S[j]? = some y ∧ seqB y.seq = true ∧ p y.seq
structure SOk (S : List SeqStep) : Prop where
 len : S.length ≤ 1048576
 sides : ∀ y ∈ S, y.seq.left.length ≤ lim ∧ y.seq.right.length ≤ lim
theorem FQ_good {s : Sequent} (h : seqB s = true) : FQ s := by
 unfold seqB at h
 rw [Bool.and_eq_true, sideB_iff, sideB_iff] at h
 have g : ∀ x, goodB x = true → FT x ∧ x.size ≤ 1000 := fun x hx => ⟨FT_good hx, by
  obtain ⟨_, _, _, _, h80, _⟩ := good_ft hx; omega⟩
 have := h.1.len; have := h.2.len
 exact ⟨fun x hx => g x (h.1.good x hx), fun x hx => g x (h.2.good x hx), by omega, by omega⟩
theorem FT_AB {t : Ft} (h : t.wf = true) (hl : ∀ c, t ≠ .leaf c) (hz : t.txt.length ≤ 80) : (FT t.tA ∧ t.tA.size ≤ 1000) ∧ ((∃ op a b, t = .bin op a b) → FT t.tB ∧ t.tB.size ≤ 1000) := by
 cases t with
 | leaf c => exact absurd rfl (hl c)
 | neg a =>
  simp only [Ft.txt, List.length_cons] at hz
  exact ⟨⟨FT_txt (t := a) h, by show (tx a.txt).size ≤ _; rw [tx_size]; omega⟩, fun ⟨_, _, _, e⟩ => by cases e⟩
 | bin op a b =>
  simp only [Ft.txt, List.length_cons, List.length_append, List.length_nil] at hz
  simp only [Ft.wf, Bool.and_eq_true] at h
  exact ⟨⟨FT_txt h.1.2, by show (tx a.txt).size ≤ _; rw [tx_size]; omega⟩, fun _ => ⟨FT_txt h.2, by show (tx b.txt).size ≤ _; rw [tx_size]; omega⟩⟩
theorem FQ_prem {s : Sequent} {t : Ft} {l : Bool} (hs : seqB s = true) (hw : t.wf = true) (hz : t.txt.length ≤ 80) (h0 : ruleV t l ≠ 0) : ∀ p ∈ premV s (ruleV t l) t, FQ p := by
 have hq := FQ_good hs
 have hl : ∀ c, t ≠ .leaf c := fun c e => by subst e; exact h0 rfl
 obtain ⟨hA, hB⟩ := FT_AB hw hl hz
 have hS := hs
 unfold seqB at hS
 rw [Bool.and_eq_true, sideB_iff, sideB_iff] at hS
 have n1 := hS.1.len
 have n2 := hS.2.len
 have lk : ∀ {m : List ByteArray} {x : ByteArray}, (∀ y ∈ m, FT y ∧ y.size ≤ 1000) → ∀ y ∈ lackS m x, FT y ∧ y.size ≤ 1000 := fun h y hy => h y (List.mem_filter.1 hy).1
 have w : ∀ {m q : List ByteArray}, (∀ y ∈ m, FT y ∧ y.size ≤ 1000) → (∀ y ∈ q, FT y ∧ y.size ≤ 1000) → ∀ y ∈ wS m q, FT y ∧ y.size ≤ 1000 := fun h1 h2 y hy => by
  unfold wS at hy
  rw [mem_setO STO_F, List.mem_append] at hy
  exact hy.elim (h1 y) (h2 y)
 have wl : ∀ m q : List ByteArray, (wS m q).length ≤ m.length + q.length := fun m q => by
  have := setO_len (l := m ++ q)
  unfold wS; rw [List.length_append] at this; exact this
 have k1 := lack_len s.left (tx t.txt)
 have k2 := lack_len s.right (tx t.txt)
 have oneA : ∀ y ∈ [t.tA], FT y ∧ y.size ≤ 1000 := fun y hy => by rw [List.mem_singleton.1 hy]; exact hA
 have a1 := wl s.left [t.tA]; have a2 := wl s.right [t.tA]
 have a3 := wl (lackS s.left (tx t.txt)) [t.tA]; have a4 := wl (lackS s.right (tx t.txt)) [t.tA]
 have a5 := wl (lackS s.left (tx t.txt)) [t.tB]; have a6 := wl (lackS s.right (tx t.txt)) [t.tB]
 have a7 := wl (lackS s.left (tx t.txt)) [t.tA, t.tB]; have a8 := wl (lackS s.right (tx t.txt)) [t.tA, t.tB]
 simp only [List.length_cons, List.length_nil] at a1 a2 a3 a4 a5 a6 a7 a8
 cases t with
 | leaf c => exact absurd rfl (hl c)
 | neg a =>
  cases l with
  | true =>
   intro p hp
   have hp : p ∈ [(⟨lackS s.left (tx (Ft.neg a).txt), wS s.right [(Ft.neg a).tA]⟩ : Sequent)] := hp
   rw [List.mem_singleton.1 hp]
   exact ⟨lk hq.l, w hq.r oneA, by dsimp only; omega, by dsimp only; omega⟩
  | false =>
   intro p hp
   have hp : p ∈ [(⟨wS s.left [(Ft.neg a).tA], lackS s.right (tx (Ft.neg a).txt)⟩ : Sequent)] := hp
   rw [List.mem_singleton.1 hp]
   exact ⟨w hq.l oneA, lk hq.r, by dsimp only; omega, by dsimp only; omega⟩
 | bin op a b =>
  have hB := hB ⟨op, a, b, rfl⟩
  have oneB : ∀ y ∈ [(Ft.bin op a b).tB], FT y ∧ y.size ≤ 1000 := fun y hy => by rw [List.mem_singleton.1 hy]; exact hB
  have both : ∀ y ∈ [(Ft.bin op a b).tA, (Ft.bin op a b).tB], FT y ∧ y.size ≤ 1000 := fun y hy => by
   rcases List.mem_cons.1 hy with rfl | hy
   · exact hA
   · rw [List.mem_singleton.1 hy]; exact hB
  generalize hT : Ft.bin op a b = t at *
  have c1 : FQ ⟨wS (lackS s.left (tx t.txt)) [t.tA, t.tB], s.right⟩ := ⟨w (lk hq.l) both, hq.r, by dsimp only; omega, by dsimp only; omega⟩
  have c2 : FQ ⟨s.left, wS (lackS s.right (tx t.txt)) [t.tA]⟩ := ⟨hq.l, w (lk hq.r) oneA, by dsimp only; omega, by dsimp only; omega⟩
  have c3 : FQ ⟨s.left, wS (lackS s.right (tx t.txt)) [t.tB]⟩ := ⟨hq.l, w (lk hq.r) oneB, by dsimp only; omega, by dsimp only; omega⟩
  have c4 : FQ ⟨wS (lackS s.left (tx t.txt)) [t.tA], s.right⟩ := ⟨w (lk hq.l) oneA, hq.r, by dsimp only; omega, by dsimp only; omega⟩
  have c5 : FQ ⟨wS (lackS s.left (tx t.txt)) [t.tB], s.right⟩ := ⟨w (lk hq.l) oneB, hq.r, by dsimp only; omega, by dsimp only; omega⟩
  have c6 : FQ ⟨s.left, wS (lackS s.right (tx t.txt)) [t.tA, t.tB]⟩ := ⟨hq.l, w (lk hq.r) both, by dsimp only; omega, by dsimp only; omega⟩
  have c7 : FQ ⟨lackS s.left (tx t.txt), wS s.right [t.tA]⟩ := ⟨lk hq.l, w hq.r oneA, by dsimp only; omega, by dsimp only; omega⟩
  have c8 : FQ ⟨wS s.left [t.tA], wS (lackS s.right (tx t.txt)) [t.tB]⟩ := ⟨w hq.l oneA, w (lk hq.r) oneB, by dsimp only; omega, by dsimp only; omega⟩
  intro p hp
  unfold premV at hp
  dsimp only at hp
  split at hp
  · simp only [List.mem_cons, List.not_mem_nil, or_false] at hp; subst hp; exact c7
  split at hp
  · simp only [List.mem_cons, List.not_mem_nil, or_false] at hp; subst hp
    exact ⟨w hq.l oneA, lk hq.r, by dsimp only; omega, by dsimp only; omega⟩
  split at hp
  · simp only [List.mem_cons, List.not_mem_nil, or_false] at hp; subst hp; exact c1
  split at hp
  · simp only [List.mem_cons, List.not_mem_nil, or_false] at hp; rcases hp with rfl | rfl
    · exact c2
    · exact c3
  split at hp
  · simp only [List.mem_cons, List.not_mem_nil, or_false] at hp; rcases hp with rfl | rfl
    · exact c4
    · exact c5
  split at hp
  · simp only [List.mem_cons, List.not_mem_nil, or_false] at hp; subst hp; exact c6
  split at hp
  · simp only [List.mem_cons, List.not_mem_nil, or_false] at hp; rcases hp with rfl | rfl
    · exact c7
    · exact c5
  · simp only [List.mem_cons, List.not_mem_nil, or_false] at hp; subst hp; exact c8
theorem pre_impl {S : List SeqStep} (hS : SOk S) {k : Nat} (hk : k ≤ S.length) {i : Int} {f : Sequent → Option Bool} {p : Sequent → Prop} (hf : ∀ q, seqB q = true → ∃ b, f q = some b ∧ (b = true ↔ p q)) :
 ∃ b, impl_seqCorrect_1 i f (k : Int) S = some b ∧ (b = true ↔ PreP S k i p) := by
 have hl := hS.len
 unfold impl_seqCorrect_1 impl_within
 have hw : wr ((k : Int) - 1) = (k : Int) - 1 := wr_of _ (by omega) (by omega)
 rw [hw]
 by_cases h : 0 ≤ i ∧ i ≤ (k : Int) - 1
 · rw [bifT (decide_eq_true h.1), decide_eq_true h.2, cond_true]
   obtain ⟨j, rfl⟩ := Int.eq_ofNat_of_zero_le h.1
   obtain ⟨y, hy⟩ : ∃ y, S[j]? = some y := ⟨_, List.getElem?_eq_getElem (by omega)⟩
   have sd := hS.sides y (List.mem_of_getElem? hy)
   rw [ix_get, hy, bd_some, impl_IsSequent_eq sd.1 sd.2, bd_some, bd_some]
   cases hq : seqB y.seq with
   | false =>
    refine ⟨_, rfl, ⟨fun g => (by cases g), fun ⟨j', e, _, y', e1, e2, _⟩ => ?_⟩⟩
    have : j' = j := by omega
    subst this
    rw [hy] at e1; cases e1; rw [hq] at e2; cases e2
   | true =>
    obtain ⟨b, b1, b2⟩ := hf y.seq hq
    rw [cond_true, bd_some, b1]
    refine ⟨_, rfl, b2.trans ⟨fun g => ⟨j, rfl, by omega, y, hy, hq, g⟩, fun ⟨j', e, _, y', e1, _, e3⟩ => ?_⟩⟩
    have : j' = j := by omega
    subst this
    rw [hy] at e1; cases e1; exact e3
 · have : (bif decide (0 ≤ i) then decide (i ≤ (k : Int) - 1) else false) = false := by
    by_cases h0 : 0 ≤ i
    · rw [decide_eq_true h0, cond_true]; exact decide_eq_false fun g => h ⟨h0, g⟩
    · rw [decide_eq_false h0]; rfl
   rw [this]
   refine ⟨_, rfl, ⟨fun g => (by cases g), fun ⟨j, e, e2, _⟩ => absurd ⟨by omega, by omega⟩ h⟩⟩
theorem pre_spec {S : List SeqStep} (hS : SOk S) {k : Nat} (hk : k ≤ S.length) {i : Int} : ∃ b, spec_l23Earlier S (k : Int) i = some b ∧ (b = true ↔ PreP S k i fun _ => True) := by
 have hl := hS.len
 unfold spec_l23Earlier spec_l1In
 have hw : wr ((k : Int) - 1) = (k : Int) - 1 := wr_of _ (by omega) (by omega)
 rw [hw]
 by_cases h : 0 ≤ i ∧ i ≤ (k : Int) - 1
 · rw [bifT (decide_eq_true h.1), decide_eq_true h.2, cond_true]
   obtain ⟨j, rfl⟩ := Int.eq_ofNat_of_zero_le h.1
   obtain ⟨y, hy⟩ : ∃ y, S[j]? = some y := ⟨_, List.getElem?_eq_getElem (by omega)⟩
   rw [ix_get, hy, bd_some, spec_l23Good_eq]
   refine ⟨_, rfl, ⟨fun g => ⟨j, rfl, by omega, y, hy, g, trivial⟩, fun ⟨j', e, _, y', e1, e2, _⟩ => ?_⟩⟩
   have : j' = j := by omega
   subst this
   rw [hy] at e1; cases e1; exact e2
 · have : (bif decide (0 ≤ i) then decide (i ≤ (k : Int) - 1) else false) = false := by
    by_cases h0 : 0 ≤ i
    · rw [decide_eq_true h0, cond_true]; exact decide_eq_false fun g => h ⟨h0, g⟩
    · rw [decide_eq_false h0]; rfl
   rw [this]
   refine ⟨_, rfl, ⟨fun g => (by cases g), fun ⟨j, e, e2, _⟩ => absurd ⟨by omega, by omega⟩ h⟩⟩
def PartP (a b : List ByteArray) : Prop := ∀ x ∈ a, x ∈ b
theorem spec_l23Part_eq (a b : List ByteArray) : ∃ r, spec_l23Part a b = some r ∧ (r = true ↔ PartP a b) := by
 unfold spec_l23Part
 rw [forL_any (p := fun _ y => !decide (y ∈ b)) (v := false) (fun i y _ => by rw [spec_l23Has_eq, bd_some]), anyI_any]
 cases h : a.any fun y => !decide (y ∈ b) with
 | true =>
  refine ⟨_, rfl, ⟨fun g => (by cases g), fun g => ?_⟩⟩
  obtain ⟨x, hx, e⟩ := List.any_eq_true.1 h
  rw [Bool.not_eq_true', decide_eq_false_iff_not] at e
  exact absurd (g x hx) e
 | false =>
  refine ⟨_, rfl, ⟨fun _ x hx => ?_, fun _ => rfl⟩⟩
  have := List.any_eq_false.1 h x hx
  simpa using this
theorem impl_contained_eq (a b : List ByteArray) : ∃ r, impl_contained a b = some r ∧ (r = true ↔ PartP a b) := by
 unfold impl_contained
 rw [containsFuncS (g := fun y => !decide (y ∈ b)) (fun y _ => by unfold impl_contained_1; rw [slices_Contains_string_eq]; rfl), bd_some]
 refine ⟨_, rfl, ?_⟩
 rw [Bool.not_eq_true', List.any_eq_false]
 constructor
 · intro h x hx; have := h x hx; simpa using this
 · intro h x hx; simpa using h x hx
def CorP (S : List SeqStep) (k : Nat) (s : SeqStep) : Prop := seqB s.seq = true ∧
  ((s.rule = 1 ∧ bs s.main = [] ∧ s.a = 0 ∧ s.b = 0 ∧ axB s.seq = true) ∨
   (s.rule = 10 ∧ bs s.main = [] ∧ s.b = 0 ∧ PreP S k s.a fun t => PartP t.left s.seq.left ∧ PartP t.right s.seq.right) ∨
   (s.rule = 11 ∧ goodB s.main = true ∧ PreP S k s.a (fun t => (⟨s.seq.left, wS s.seq.right [s.main]⟩ : Sequent) = t) ∧ PreP S k s.b (fun t => (⟨wS s.seq.left [s.main], s.seq.right⟩ : Sequent) = t)) ∨
   (∃ t l, F? (bs s.main) = some t ∧ s.main.size ≤ 80 ∧ s.rule = ruleV t l ∧ s.rule ≠ 0 ∧ s.main ∈ (bif l then s.seq.left else s.seq.right) ∧
     ∃ p r, premV s.seq s.rule t = p :: r ∧ PreP S k s.a (fun x => p = x) ∧ ((r = [] ∧ s.b = 0) ∨ ∃ q, r = [q] ∧ PreP S k s.b (fun x => q = x))))
theorem PreP.wk {S : List SeqStep} {k : Nat} {i : Int} {p q : Sequent → Prop} (h : PreP S k i p) (hpq : ∀ t, p t → q t) : PreP S k i q := by
 obtain ⟨j, h1, h2, y, h3, h4, h5⟩ := h
 exact ⟨j, h1, h2, y, h3, h4, hpq _ h5⟩
theorem PreP.at {S : List SeqStep} {k : Nat} {p : Sequent → Prop} {j : Nat} {y : SeqStep} (hy : S[j]? = some y) (h : PreP S k (j : Int) p) : p y.seq := by
 obtain ⟨j', h1, h2, y', h3, h4, h5⟩ := h
 have : j' = j := by omega
 subst this
 rw [hy] at h3; cases h3; exact h5
end Go.PF
namespace Go.PF
open Go.Pu
theorem isEmp' (s : ByteArray) : (s.toList == (ByteArray.mk #[]).toList) = decide (bs s = []) := by
 rw [isEmp]; cases bs s <;> simp
theorem same_impl {p : Sequent} (x : Sequent) : ∃ b, (fun x0 => impl_seqCorrect_2_1 x0 p) x = some b ∧ (b = true ↔ p = x) := by
 obtain ⟨r, r1, r2⟩ := impl_sameSequent_eq p x
 refine ⟨r, ?_, r2⟩
 show bd (impl_sameSequent p x) (fun r29 => some r29) = _
 rw [r1]; rfl
theorem impl_cor {S : List SeqStep} (hS : SOk S) {k : Nat} {s : SeqStep} (hs : S[k]? = some s) : ∃ b, impl_seqCorrect S (k : Int) = some b ∧ (b = true ↔ CorP S k s) := by
 have hk := lt_of_get hs
 have sd := hS.sides s (List.mem_of_getElem? hs)
 unfold impl_seqCorrect
 rw [ix_get, hs, bd_some, impl_IsSequent_eq sd.1 sd.2, bd_some]
 cases hq : seqB s.seq with
 | false =>
  refine ⟨_, rfl, ⟨fun g => (by cases g), fun g => ?_⟩⟩
  rw [g.1] at hq; cases hq
 | true =>
  have hQ := hq
  unfold seqB at hQ
  rw [Bool.and_eq_true, sideB_iff, sideB_iff] at hQ
  have n1 := hQ.1.len
  have n2 := hQ.2.len
  rw [Bool.not_true, cond_false]
  by_cases r1 : s.rule = 1
  · rw [r1, beq_self_eq_true, cond_true, isEmp']
    have key : ∀ b, (b = true ↔ bs s.main = [] ∧ s.a = 0 ∧ s.b = 0 ∧ axB s.seq = true) → (b = true ↔ CorP S k s) := fun b hb => by
     rw [hb]
     constructor
     · exact fun ⟨h1, h2, h3, h4⟩ => ⟨hq, .inl ⟨r1, h1, h2, h3, h4⟩⟩
     · rintro ⟨_, ⟨_, h⟩ | ⟨e, _⟩ | ⟨e, _⟩ | ⟨t, l, _, _, e, _⟩⟩
       · exact h
       · omega
       · omega
       · have := (ruleV_bd t l).2.2; omega
    by_cases c : bs s.main = [] ∧ s.a = 0 ∧ s.b = 0
    · obtain ⟨c1, c2, c3⟩ := c
      rw [decide_eq_true c1, c2, c3]
      refine ⟨axB s.seq, ?_, key _ ⟨fun h => ⟨c1, c2, c3, h⟩, fun h => h.2.2.2⟩⟩
      show bd (bd (impl_isSeqAxiom s.seq) fun r97 => some r97) (fun t90 => some t90) = _
      rw [impl_isSeqAxiom_eq]; rfl
    · refine ⟨false, ?_, key _ ⟨fun h => (by cases h), fun h => absurd ⟨h.1, h.2.1, h.2.2.1⟩ c⟩⟩
      have : (bif (bif (decide (bs s.main = [])) then (s.a == 0) else false) then (s.b == 0) else false) = false := by
       by_cases c1 : bs s.main = []
       · rw [decide_eq_true c1, cond_true]
         by_cases c2 : s.a = 0
         · rw [c2, beq_self_eq_true, cond_true, beq_eq_false_iff_ne]; exact fun c3 => c ⟨c1, c2, c3⟩
         · rw [beq_eq_false_iff_ne.2 c2]; rfl
       · rw [decide_eq_false c1]; rfl
      rw [this]; rfl
  · rw [beq_eq_false_iff_ne.2 r1, cond_false]
    by_cases r10 : s.rule = 10
    · rw [r10, beq_self_eq_true, cond_true, isEmp']
      have key : ∀ b, (b = true ↔ bs s.main = [] ∧ s.b = 0 ∧ PreP S k s.a fun t => PartP t.left s.seq.left ∧ PartP t.right s.seq.right) → (b = true ↔ CorP S k s) := fun b hb => by
       rw [hb]
       constructor
       · exact fun ⟨h1, h2, h3⟩ => ⟨hq, .inr (.inl ⟨r10, h1, h2, h3⟩)⟩
       · rintro ⟨_, ⟨e, _⟩ | ⟨_, h⟩ | ⟨e, _⟩ | ⟨t, l, _, _, e, _⟩⟩
         · omega
         · exact h
         · omega
         · have := (ruleV_bd t l).2.1; omega
      by_cases c : bs s.main = [] ∧ s.b = 0
      · obtain ⟨c1, c2⟩ := c
        rw [decide_eq_true c1, c2]
        obtain ⟨b, b1, b2⟩ := pre_impl hS (k := k) (by omega) (i := s.a) (f := fun x0 => impl_seqCorrect_3 x0 s) (p := fun t => PartP t.left s.seq.left ∧ PartP t.right s.seq.right) (fun q _ => by
         show ∃ b, impl_seqCorrect_3 q s = some b ∧ _
         unfold impl_seqCorrect_3
         obtain ⟨u, u1, u2⟩ := impl_contained_eq q.left s.seq.left
         obtain ⟨v, v1, v2⟩ := impl_contained_eq q.right s.seq.right
         rw [u1, bd_some]
         cases u with
         | false => exact ⟨_, rfl, ⟨fun g => (by cases g), fun g => absurd (u2.2 g.1) (by simp)⟩⟩
         | true => rw [cond_true, v1]; exact ⟨_, rfl, v2.trans ⟨fun g => ⟨u2.1 rfl, g⟩, fun g => g.2⟩⟩)
        refine ⟨b, ?_, key _ ⟨fun h => ⟨c1, c2, b2.1 h⟩, fun h => b2.2 h.2.2⟩⟩
        show bd (bd (impl_seqCorrect_1 s.a (fun x0 => impl_seqCorrect_3 x0 s) (k : Int) S) fun r126 => some r126) (fun t119 => some t119) = _
        rw [b1]; rfl
      · refine ⟨false, ?_, key _ ⟨fun h => (by cases h), fun h => absurd ⟨h.1, h.2.1⟩ c⟩⟩
        have : (bif (decide (bs s.main = [])) then (s.b == 0) else false) = false := by
         by_cases c1 : bs s.main = []
         · rw [decide_eq_true c1, cond_true, beq_eq_false_iff_ne]; exact fun c3 => c ⟨c1, c3⟩
         · rw [decide_eq_false c1]; rfl
        rw [this]; rfl
    · rw [beq_eq_false_iff_ne.2 r10, cond_false]
      cases hg : goodB s.main with
      | false =>
       rw [impl_parse_bad hg, bd_some]
       refine ⟨false, rfl, ⟨fun g => (by cases g), ?_⟩⟩
       rintro ⟨_, ⟨e, _⟩ | ⟨e, _⟩ | ⟨_, e, _⟩ | ⟨t, l, e, e2, _⟩⟩
       · omega
       · omega
       · rw [hg] at e; cases e
       · rw [good_iff.2 ⟨t, e, e2⟩] at hg; cases hg
      | true =>
       obtain ⟨t, t1, t2, t3, t4, t5⟩ := good_ft hg
       rw [impl_parse_good t1 t4, bd_some]
       dsimp only
       rw [Bool.not_true, cond_false]
       by_cases r11 : s.rule = 11
       · rw [r11, beq_self_eq_true, cond_true, impl_wS (by simp; omega), bd_some]
         obtain ⟨u, u1, u2⟩ := pre_impl hS (k := k) (by omega) (i := s.a) (f := fun x0 => impl_seqCorrect_2_1 x0 ⟨s.seq.left, wS s.seq.right [s.main]⟩) (p := fun t => (⟨s.seq.left, wS s.seq.right [s.main]⟩ : Sequent) = t) (fun q _ => same_impl q)
         obtain ⟨v, v1, v2⟩ := pre_impl hS (k := k) (by omega) (i := s.b) (f := fun x0 => impl_seqCorrect_2_1 x0 ⟨wS s.seq.left [s.main], s.seq.right⟩) (p := fun t => (⟨wS s.seq.left [s.main], s.seq.right⟩ : Sequent) = t) (fun q _ => same_impl q)
         have key : ∀ b, (b = true ↔ u = true ∧ v = true) → (b = true ↔ CorP S k s) := fun b hb => by
          rw [hb, u2, v2]
          constructor
          · exact fun ⟨h1, h2⟩ => ⟨hq, .inr (.inr (.inl ⟨r11, hg, h1, h2⟩))⟩
          · rintro ⟨_, ⟨e, _⟩ | ⟨e, _⟩ | ⟨_, _, h⟩ | ⟨t, l, _, _, e, _⟩⟩
            · omega
            · omega
            · exact h
            · have := (ruleV_bd t l).2.1; omega
         rw [u1, bd_some]
         cases u with
         | false => exact ⟨false, rfl, key _ ⟨fun g => (by cases g), fun g => by cases g.1⟩⟩
         | true =>
          rw [cond_true, impl_wS (by simp; omega), bd_some, v1]
          exact ⟨v, rfl, key _ ⟨fun g => ⟨rfl, g⟩, fun g => g.2⟩⟩
       · obtain ⟨n, g1, g2, _⟩ := Ft.get_eq t
         rw [beq_eq_false_iff_ne.2 r11, cond_false, g1, bd_some, g2, impl_ruleFor_eq t2, impl_ruleFor_eq t2]
         have fit : ∀ (l : Bool) (side : List ByteArray), (bif ruleV t l == s.rule then bd (slices_Contains_string_string side s.main) (fun r => some r) else some false) = some (decide (s.rule = ruleV t l ∧ s.main ∈ side)) := by
          intro l side
          by_cases e : ruleV t l = s.rule
          · rw [beq_iff_eq.2 e, cond_true, slices_Contains_string_eq, bd_some]
            congr 1
            exact decide_eq_decide.2 ⟨fun g => ⟨e.symm, g⟩, fun g => g.2⟩
          · rw [beq_eq_false_iff_ne.2 e, cond_false, decide_eq_false fun g => e g.1.symm]
         rw [fit, bd_some, fit, bd_some]
         have nofit : (∀ l : Bool, ¬ (s.rule = ruleV t l ∧ s.rule ≠ 0 ∧ s.main ∈ (bif l then s.seq.left else s.seq.right))) → ¬ CorP S k s := by
          rintro hno ⟨_, ⟨e, _⟩ | ⟨e, _⟩ | ⟨e, _⟩ | ⟨t', l, e1, e2, e3, e4, e5, _⟩⟩
          · omega
          · omega
          · omega
          · rw [t1] at e1; cases e1
            exact hno l ⟨e3, e4, e5⟩
         by_cases hf : ∃ l : Bool, s.rule = ruleV t l ∧ s.rule ≠ 0 ∧ s.main ∈ (bif l then s.seq.left else s.seq.right)
         · obtain ⟨l, f1, f2, f3⟩ := hf
           have tst : (bif (s.rule == 0) then true else (bif (!decide (s.rule = ruleV t true ∧ s.main ∈ s.seq.left)) then (!decide (s.rule = ruleV t false ∧ s.main ∈ s.seq.right)) else false)) = false := by
            rw [beq_eq_false_iff_ne.2 f2, cond_false]
            cases l with
            | true => rw [decide_eq_true (show s.rule = ruleV t true ∧ s.main ∈ s.seq.left from ⟨f1, f3⟩)]; rfl
            | false =>
             rw [decide_eq_true (show s.rule = ruleV t false ∧ s.main ∈ s.seq.right from ⟨f1, f3⟩)]
             cases decide (s.rule = ruleV t true ∧ s.main ∈ s.seq.left) <;> rfl
           rw [tst, cond_false, impl_premisesOf_eq (by omega) (by omega) ⟨l, f1⟩ f2 t2, bd_some]
           have only : ∀ P : List Sequent → Prop, (CorP S k s ↔ ∃ p r, premV s.seq s.rule t = p :: r ∧ PreP S k s.a (fun x => p = x) ∧ ((r = [] ∧ s.b = 0) ∨ ∃ q, r = [q] ∧ PreP S k s.b (fun x => q = x))) := fun _ => by
            constructor
            · rintro ⟨_, ⟨e, _⟩ | ⟨e, _⟩ | ⟨e, _⟩ | ⟨t', l', e1, e2, e3, e4, e5, h⟩⟩
              · omega
              · omega
              · omega
              · rw [t1] at e1; cases e1; exact h
            · exact fun h => ⟨hq, .inr (.inr (.inr ⟨t, l, t1, t4, f1, f2, f3, h⟩))⟩
           have only := only (fun _ => True)
           have pl := premV_len s.seq s.rule t
           cases hP : premV s.seq s.rule t with
           | nil =>
            exfalso
            unfold premV at hP
            dsimp only at hP
            repeat (split at hP; · cases hP)
            cases hP
           | cons p r =>
            rw [hP] at only pl
            obtain ⟨u, u1, u2⟩ := pre_impl hS (k := k) (by omega) (i := s.a) (f := fun x0 => impl_seqCorrect_2_1 x0 p) (p := fun x => p = x) (fun q _ => same_impl q)
            rw [show ix (p :: r) 0 = some p from rfl, bd_some, u1, bd_some]
            cases u with
            | false =>
             refine ⟨false, rfl, ⟨fun g => (by cases g), fun g => ?_⟩⟩
             obtain ⟨p', r', e, e2, _⟩ := only.1 g
             cases e
             exact u2.2 e2
            | true =>
             rw [Bool.not_true, cond_false]
             cases r with
             | nil =>
              rw [show ((len [p]) == 1) = true from rfl, cond_true]
              refine ⟨_, rfl, ?_⟩
              rw [only, beq_iff_eq]
              constructor
              · exact fun g => ⟨p, [], rfl, u2.1 rfl, .inl ⟨rfl, g⟩⟩
              · rintro ⟨p', r', e, _, ⟨_, g⟩ | ⟨q, e2, _⟩⟩
                · exact g
                · cases e; cases e2
             | cons q r' =>
              have : r' = [] := by
               simp only [List.length_cons] at pl
               exact List.eq_nil_of_length_eq_zero (by omega)
              subst this
              obtain ⟨v, v1, v2⟩ := pre_impl hS (k := k) (by omega) (i := s.b) (f := fun x0 => impl_seqCorrect_2_1 x0 q) (p := fun x => q = x) (fun q _ => same_impl q)
              rw [show ((len [p, q]) == 1) = false from rfl, cond_false, show ix [p, q] 1 = some q from rfl, bd_some, v1]
              refine ⟨v, rfl, ?_⟩
              rw [only, v2]
              constructor
              · exact fun g => ⟨p, [q], rfl, u2.1 rfl, .inr ⟨q, rfl, g⟩⟩
              · rintro ⟨p', r', e, _, ⟨e2, _⟩ | ⟨q', e2, g⟩⟩
                · cases e; cases e2
                · cases e; cases e2; exact g
         · have hno := nofit fun l g => hf ⟨l, g⟩
           have tst : (bif (s.rule == 0) then true else (bif (!decide (s.rule = ruleV t true ∧ s.main ∈ s.seq.left)) then (!decide (s.rule = ruleV t false ∧ s.main ∈ s.seq.right)) else false)) = true := by
            by_cases f2 : s.rule = 0
            · rw [f2]; rfl
            · rw [beq_eq_false_iff_ne.2 f2, cond_false, decide_eq_false (fun g => hf ⟨true, g.1, f2, g.2⟩), decide_eq_false (fun g => hf ⟨false, g.1, f2, g.2⟩)]; rfl
           rw [tst]
           exact ⟨false, rfl, ⟨fun g => (by cases g), fun g => absurd g hno⟩⟩
end Go.PF
namespace Go.PF
open Go.Pu
theorem ruleV_par {t : Ft} {l : Bool} (h : ruleV t l ≠ 0) : ((ruleV t l).tmod 2 == 0) = l := by
 cases t with
 | leaf c => exact absurd rfl h
 | neg a => cases l <;> rfl
 | bin op a b =>
  simp only [ruleV]
  split
  · cases l <;> rfl
  · split
    · cases l <;> rfl
    · cases l <;> rfl
theorem spec_cut {s : Sequent} {m : ByteArray} {t : Ft} (h : F? (bs m) = some t) (hs : m.size ≤ 1000) (h1 : SS ltF s.left) (h2 : SS ltF s.right) (l1 : s.left.length ≤ 1000) (l2 : s.right.length ≤ 1000) :
 spec_l23Premises s 11 m = some [⟨s.left, wS s.right [m]⟩, ⟨wS s.left [m], s.right⟩] := by
 unfold spec_l23Premises
 rw [spec_l22Parts_eq h hs, bd_some, spec_l23Without_eq (by omega), bd_some, spec_l23Without_eq (by omega), bd_some]
 rw [show ((11 : Int) == 2) = false from rfl, show ((11 : Int) == 3) = false from rfl, show ((11 : Int) == 4) = false from rfl, show ((11 : Int) == 5) = false from rfl, show ((11 : Int) == 6) = false from rfl, show ((11 : Int) == 7) = false from rfl, show ((11 : Int) == 8) = false from rfl, show ((11 : Int) == 9) = false from rfl,
  cond_false, cond_false, cond_false, cond_false, cond_false, cond_false, cond_false, cond_false, spec_with h2 (by omega), bd_some, spec_with h1 (by omega), bd_some]
theorem spec_due {S : List SeqStep} (hS : SOk S) {k : Nat} (hk : k ≤ S.length) {s : SeqStep} {ps : List Sequent} {p : Sequent} {r : List Sequent} (hps : ps = p :: r) (hr : r.length ≤ 1) (hF : ∀ x ∈ ps, FQ x) (hA : PreP S k s.a fun _ => True) :
 ∃ b, (bd (ix ps 0) (fun x312 => bd (ix S s.a) (fun x324 => bd (PF.spec_l23Same x312 x324.seq) (fun r330 => (bif (!r330) then some false else (bif ((len ps) == 1) then some (s.b == 0) else bd (PF.spec_l23Earlier S (k : Int) s.b) (fun r338 => bd (bif r338 then bd (ix ps 1) (fun x379 => bd (ix S s.b) (fun x391 => bd (PF.spec_l23Same x379 x391.seq) (fun r397 => some r397))) else some false) (fun t366 => some t366)))))))) = some b ∧
  (b = true ↔ PreP S k s.a (fun x => p = x) ∧ ((r = [] ∧ s.b = 0) ∨ ∃ q, r = [q] ∧ PreP S k s.b (fun x => q = x))) := by
 subst hps
 obtain ⟨j, e, hj, y, hy, hq, _⟩ := hA
 have fp := hF p (List.mem_cons_self ..)
 obtain ⟨u, u1, u2⟩ := spec_l23Same_eq fp (FQ_good hq)
 have pa : PreP S k s.a (fun x => p = x) ↔ u = true := by
  rw [u2]
  constructor
  · intro h; rw [e] at h; exact h.at hy
  · exact fun h => ⟨j, e, hj, y, hy, hq, h⟩
 rw [pa, show ix (p :: r) 0 = some p from rfl, bd_some, e, ix_get, hy, bd_some, u1, bd_some]
 cases u with
 | false => exact ⟨false, rfl, ⟨fun g => (by cases g), fun g => by cases g.1⟩⟩
 | true =>
  rw [Bool.not_true, cond_false]
  cases r with
  | nil =>
   rw [show ((len [p]) == 1) = true from rfl, cond_true]
   refine ⟨_, rfl, ?_⟩
   rw [beq_iff_eq]
   constructor
   · exact fun g => ⟨rfl, .inl ⟨rfl, g⟩⟩
   · rintro ⟨_, ⟨_, g⟩ | ⟨q, e2, _⟩⟩
     · exact g
     · cases e2
  | cons q r' =>
   have : r' = [] := by
    simp only [List.length_cons] at hr
    exact List.eq_nil_of_length_eq_zero (by omega)
   subst this
   have fq := hF q (by simp)
   rw [show ((len [p, q]) == 1) = false from rfl, cond_false]
   obtain ⟨v, v1, v2⟩ := pre_spec hS hk (i := s.b)
   rw [v1, bd_some]
   cases v with
   | false =>
    refine ⟨false, rfl, ⟨fun g => (by cases g), ?_⟩⟩
    rintro ⟨_, ⟨e2, _⟩ | ⟨q', e2, g⟩⟩
    · cases e2
    · exact v2.2 (g.wk fun _ _ => trivial)
   | true =>
    obtain ⟨j2, e2, hj2, y2, hy2, hq2, _⟩ := v2.1 rfl
    obtain ⟨w, w1, w2⟩ := spec_l23Same_eq fq (FQ_good hq2)
    rw [cond_true, show ix [p, q] 1 = some q from rfl, bd_some, e2, ix_get, hy2, bd_some, w1]
    refine ⟨w, rfl, ?_⟩
    rw [w2]
    constructor
    · exact fun g => ⟨rfl, .inr ⟨q, rfl, j2, rfl, hj2, y2, hy2, hq2, g⟩⟩
    · rintro ⟨_, ⟨e3, _⟩ | ⟨q', e3, g⟩⟩
      · cases e3
      · cases e3; exact g.at hy2
theorem spec_cor {S : List SeqStep} (hS : SOk S) {k : Nat} {s : SeqStep} (hs : S[k]? = some s) : ∃ b, spec_l23Correct S (k : Int) = some b ∧ (b = true ↔ CorP S k s) := by
 have hk := lt_of_get hs
 unfold spec_l23Correct
 rw [ix_get, hs, bd_some, spec_l23Good_eq, bd_some]
 cases hq : seqB s.seq with
 | false =>
  refine ⟨_, rfl, ⟨fun g => (by cases g), fun g => ?_⟩⟩
  rw [g.1] at hq; cases hq
 | true =>
  have hQ := hq
  unfold seqB at hQ
  rw [Bool.and_eq_true, sideB_iff, sideB_iff] at hQ
  have n1 := hQ.1.len
  have n2 := hQ.2.len
  rw [Bool.not_true, cond_false]
  by_cases rr : 1 ≤ s.rule ∧ s.rule ≤ 11
  · have hin : spec_l1In s.rule 1 11 = true := by unfold spec_l1In; rw [decide_eq_true rr.1, decide_eq_true rr.2]; rfl
    rw [hin, Bool.not_true, cond_false]
    by_cases r1 : s.rule = 1
    · rw [r1, beq_self_eq_true, cond_true, isEmp']
      have key : ∀ b, (b = true ↔ bs s.main = [] ∧ s.a = 0 ∧ s.b = 0 ∧ axB s.seq = true) → (b = true ↔ CorP S k s) := fun b hb => by
       rw [hb]
       constructor
       · exact fun ⟨h1, h2, h3, h4⟩ => ⟨hq, .inl ⟨r1, h1, h2, h3, h4⟩⟩
       · rintro ⟨_, ⟨_, h⟩ | ⟨e, _⟩ | ⟨e, _⟩ | ⟨t, l, _, _, e, _⟩⟩
         · exact h
         · omega
         · omega
         · have := (ruleV_bd t l).2.2; omega
      by_cases c : bs s.main = [] ∧ s.a = 0 ∧ s.b = 0
      · obtain ⟨c1, c2, c3⟩ := c
        rw [decide_eq_true c1, c2, c3]
        refine ⟨axB s.seq, ?_, key _ ⟨fun h => ⟨c1, c2, c3, h⟩, fun h => h.2.2.2⟩⟩
        show bd (bd (spec_l23Axiom s.seq) fun r97 => some r97) (fun t90 => some t90) = _
        rw [spec_l23Axiom_eq (by omega)]; rfl
      · refine ⟨false, ?_, key _ ⟨fun h => (by cases h), fun h => absurd ⟨h.1, h.2.1, h.2.2.1⟩ c⟩⟩
        have : (bif (bif (decide (bs s.main = [])) then (s.a == 0) else false) then (s.b == 0) else false) = false := by
         by_cases c1 : bs s.main = []
         · rw [decide_eq_true c1, cond_true]
           by_cases c2 : s.a = 0
           · rw [c2, beq_self_eq_true, cond_true, beq_eq_false_iff_ne]; exact fun c3 => c ⟨c1, c2, c3⟩
           · rw [beq_eq_false_iff_ne.2 c2]; rfl
         · rw [decide_eq_false c1]; rfl
        rw [this]; rfl
    · rw [beq_eq_false_iff_ne.2 r1, cond_false]
      obtain ⟨ea, ea1, ea2⟩ := pre_spec hS (k := k) (by omega) (i := s.a)
      rw [ea1, bd_some]
      cases ea with
      | false =>
       refine ⟨false, rfl, ⟨fun g => (by cases g), fun g => ?_⟩⟩
       refine ea2.2 ?_
       rcases g with ⟨_, ⟨e, _⟩ | ⟨_, _, _, h⟩ | ⟨_, _, h, _⟩ | ⟨_, _, _, _, _, _, _, _, _, _, h, _⟩⟩
       · exact absurd e r1
       · exact h.wk fun _ _ => trivial
       · exact h.wk fun _ _ => trivial
       · exact h.wk fun _ _ => trivial
      | true =>
       have hA := ea2.1 rfl
       rw [Bool.not_true, cond_false]
       by_cases r10 : s.rule = 10
       · rw [r10, beq_self_eq_true, cond_true, isEmp']
         have key : ∀ b, (b = true ↔ bs s.main = [] ∧ s.b = 0 ∧ PreP S k s.a fun t => PartP t.left s.seq.left ∧ PartP t.right s.seq.right) → (b = true ↔ CorP S k s) := fun b hb => by
          rw [hb]
          constructor
          · exact fun ⟨h1, h2, h3⟩ => ⟨hq, .inr (.inl ⟨r10, h1, h2, h3⟩)⟩
          · rintro ⟨_, ⟨e, _⟩ | ⟨_, h⟩ | ⟨e, _⟩ | ⟨t, l, _, _, e, _⟩⟩
            · omega
            · exact h
            · omega
            · have := (ruleV_bd t l).2.1; omega
         by_cases c : bs s.main = [] ∧ s.b = 0
         · obtain ⟨c1, c2⟩ := c
           rw [decide_eq_true c1, c2]
           obtain ⟨j, e, hj, y, hy, hyq, _⟩ := hA
           obtain ⟨u, u1, u2⟩ := spec_l23Part_eq y.seq.left s.seq.left
           obtain ⟨v, v1, v2⟩ := spec_l23Part_eq y.seq.right s.seq.right
           have pa : (PreP S k s.a fun t => PartP t.left s.seq.left ∧ PartP t.right s.seq.right) ↔ u = true ∧ v = true := by
            rw [u2, v2]
            constructor
            · intro h; rw [e] at h; exact h.at hy
            · exact fun h => ⟨j, e, hj, y, hy, hyq, h⟩
           rw [beq_self_eq_true, cond_true, cond_true, e, ix_get, hy, bd_some, u1, bd_some, bd_some]
           cases u with
           | false => exact ⟨false, rfl, key _ ⟨fun g => (by cases g), fun g => by cases (pa.1 g.2.2).1⟩⟩
           | true =>
            rw [cond_true, bd_some, v1]
            exact ⟨v, rfl, key _ ⟨fun g => ⟨c1, c2, pa.2 ⟨rfl, g⟩⟩, fun g => (pa.1 g.2.2).2⟩⟩
         · refine ⟨false, ?_, key _ ⟨fun h => (by cases h), fun h => absurd ⟨h.1, h.2.1⟩ c⟩⟩
           have : (bif (decide (bs s.main = [])) then (s.b == 0) else false) = false := by
            by_cases c1 : bs s.main = []
            · rw [decide_eq_true c1, cond_true, beq_eq_false_iff_ne]; exact fun c3 => c ⟨c1, c3⟩
            · rw [decide_eq_false c1]; rfl
           rw [this]; rfl
       · rw [beq_eq_false_iff_ne.2 r10, cond_false, spec_l22Good_eq, bd_some]
         cases hg : goodB s.main with
         | false =>
          refine ⟨false, rfl, ⟨fun g => (by cases g), ?_⟩⟩
          rintro ⟨_, ⟨e, _⟩ | ⟨e, _⟩ | ⟨_, e, _⟩ | ⟨t, l, e, e2, _⟩⟩
          · omega
          · omega
          · rw [hg] at e; cases e
          · rw [good_iff.2 ⟨t, e, e2⟩] at hg; cases hg
         | true =>
          obtain ⟨t, t1, t2, t3, t4, t5⟩ := good_ft hg
          rw [Bool.not_true, cond_false]
          by_cases r11 : s.rule = 11
          · rw [r11, beq_self_eq_true, Bool.not_true, cond_false, bdR_go, spec_cut t1 (by omega) hQ.1.ord hQ.2.ord (by omega) (by omega), bd_some]
            have hqs := FQ_good hq
            have gm : FT s.main ∧ s.main.size ≤ 1000 := ⟨FT_good hg, by omega⟩
            have w : ∀ {m : List ByteArray}, (∀ y ∈ m, FT y ∧ y.size ≤ 1000) → ∀ y ∈ wS m [s.main], FT y ∧ y.size ≤ 1000 := fun h1 y hy => by
             unfold wS at hy
             rw [mem_setO STO_F, List.mem_append, List.mem_singleton] at hy
             exact hy.elim (h1 y) fun e => e ▸ gm
            have wl : ∀ m : List ByteArray, (wS m [s.main]).length ≤ m.length + 1 := fun m => by
             have := setO_len (l := m ++ [s.main])
             unfold wS; rw [List.length_append] at this; exact this
            have w1 := wl s.seq.left
            have w2 := wl s.seq.right
            obtain ⟨b, b1, b2⟩ := spec_due hS (k := k) (by omega) (s := s) (ps := [⟨s.seq.left, wS s.seq.right [s.main]⟩, ⟨wS s.seq.left [s.main], s.seq.right⟩]) rfl (by simp) (fun x hx => by
             simp only [List.mem_cons, List.not_mem_nil, or_false] at hx
             rcases hx with rfl | rfl
             · exact ⟨hqs.l, w hqs.r, by dsimp only; omega, by dsimp only; omega⟩
             · exact ⟨w hqs.l, hqs.r, by dsimp only; omega, by dsimp only; omega⟩) hA
            refine ⟨b, b1, b2.trans ?_⟩
            constructor
            · rintro ⟨h1, ⟨e, _⟩ | ⟨q, e, h2⟩⟩
              · cases e
              · cases e; exact ⟨hq, .inr (.inr (.inl ⟨r11, hg, h1, h2⟩))⟩
            · rintro ⟨_, ⟨e, _⟩ | ⟨e, _⟩ | ⟨_, _, h1, h2⟩ | ⟨t, l, _, _, e, _⟩⟩
              · omega
              · omega
              · exact ⟨h1, .inr ⟨_, rfl, h2⟩⟩
              · have := (ruleV_bd t l).2.1; omega
          · rw [beq_eq_false_iff_ne.2 r11, Bool.not_false, cond_true]
            generalize hl : (s.rule.tmod 2 == 0) = l
            have side : (bif l then (some (Rs.go s.seq.left) : Option (Rs (List ByteArray) Empty)) else some (Rs.go s.seq.right)) = some (Rs.go (bif l then s.seq.left else s.seq.right)) := by cases l <;> rfl
            rw [side, bdR_go, spec_l23Rule_eq t1 (by omega), bd_some]
            have only : CorP S k s → s.rule = ruleV t l ∧ s.main ∈ (bif l then s.seq.left else s.seq.right) := by
             rintro ⟨_, ⟨e, _⟩ | ⟨e, _⟩ | ⟨e, _⟩ | ⟨t', l', e1, e2, e3, e4, e5, _⟩⟩
             · omega
             · omega
             · omega
             · rw [t1] at e1; cases e1
               have : l' = l := by
                rw [← hl, e3]
                exact (ruleV_par (by rw [← e3]; exact e4)).symm
               rw [← this]; exact ⟨e3, e5⟩
            by_cases e1 : s.rule = ruleV t l
            · rw [show (ruleV t l == s.rule) = true by rw [beq_iff_eq]; exact e1.symm, Bool.not_true, cond_false, spec_l23Has_eq, bd_some, bd_some]
              by_cases e2 : s.main ∈ (bif l then s.seq.left else s.seq.right)
              · rw [decide_eq_true e2, Bool.not_true, cond_false, bdR_go]
                have rb := ruleV_bd t l
                rw [spec_l23Premises_eq t1 (by omega) hQ.1.ord hQ.2.ord (by omega) (by omega) (by omega) (by omega), bd_some]
                have pl := premV_len s.seq s.rule t
                cases hP : premV s.seq s.rule t with
                | nil =>
                 exfalso
                 unfold premV at hP
                 dsimp only at hP
                 repeat (split at hP; · cases hP)
                 cases hP
                | cons p r =>
                 rw [hP] at pl
                 simp only [List.length_cons] at pl
                 obtain ⟨b, b1, b2⟩ := spec_due hS (k := k) (by omega) (s := s) (ps := p :: r) rfl (by omega) (fun x hx => by
                  rw [← hP, e1] at hx
                  exact FQ_prem hq t2 (by omega) (by omega) x hx) hA
                 refine ⟨b, b1, b2.trans ?_⟩
                 constructor
                 · exact fun h => ⟨hq, .inr (.inr (.inr ⟨t, l, t1, t4, e1, by omega, e2, p, r, hP, h⟩))⟩
                 · rintro ⟨_, ⟨e, _⟩ | ⟨e, _⟩ | ⟨e, _⟩ | ⟨t', l', f1, f2, f3, f4, f5, p', r', f6, f7⟩⟩
                   · omega
                   · omega
                   · omega
                   · rw [t1] at f1; cases f1
                     rw [hP] at f6; cases f6; exact f7
              · rw [decide_eq_false e2]
                exact ⟨false, rfl, ⟨fun g => (by cases g), fun g => absurd (only g).2 e2⟩⟩
            · rw [show (ruleV t l == s.rule) = false by rw [beq_eq_false_iff_ne]; exact fun e => e1 e.symm]
              exact ⟨false, rfl, ⟨fun g => (by cases g), fun g => absurd (only g).1 e1⟩⟩
  · have hin : spec_l1In s.rule 1 11 = false := by
     unfold spec_l1In
     by_cases h1 : 1 ≤ s.rule
     · rw [decide_eq_true h1, cond_true]; exact decide_eq_false fun g => rr ⟨h1, g⟩
     · rw [decide_eq_false h1]; rfl
    rw [hin]
    refine ⟨false, rfl, ⟨fun g => (by cases g), ?_⟩⟩
    rintro ⟨_, ⟨e, _⟩ | ⟨e, _⟩ | ⟨e, _⟩ | ⟨t, l, _, _, e, e4, _⟩⟩
    · omega
    · omega
    · omega
    · have := ruleV_bd t l; omega
def PrfP (S : List SeqStep) : Prop := 1 ≤ S.length ∧ S.length ≤ 200 ∧ ∀ (k : Nat) (s : SeqStep), S[k]? = some s → CorP S k s
theorem first_eq {S : List SeqStep} (hS : SOk S) {f : List SeqStep → Int → Option Bool} (hf : ∀ (k : Nat) (s : SeqStep), S[k]? = some s → ∃ b, f S (k : Int) = some b ∧ (b = true ↔ CorP S k s)) {g : Nat → SeqStep → Unit → Option (Lp Unit Int)}
 (hg : ∀ i y u, g i y u = bd (f S ((i : Nat) : Int)) (fun r43 => (bif (!r43) then some (Lp.rt ((i : Nat) : Int)) else some (Lp.nx ())))) :
 ∃ r, bdR (forL (S := Unit) (X := Int) S g ()) (fun s22 => some (-1)) (fun x22 => some x22) = some r ∧ (r < 0 ↔ ∀ (k : Nat) (s : SeqStep), S[k]? = some s → CorP S k s) := by
 have key : ∀ (m : List SeqStep) (k : Nat), S.drop k = m → ∃ q, forLFrom g m k () = some q ∧ ((q = .go () ∧ ∀ j s, k ≤ j → S[j]? = some s → CorP S j s) ∨ ∃ i : Nat, q = .rt (i : Int) ∧ ∃ s, S[i]? = some s ∧ ¬ CorP S i s) := by
  intro m
  induction m with
  | nil =>
   intro k hk
   refine ⟨_, rfl, .inl ⟨rfl, fun j s h1 h2 => ?_⟩⟩
   have := congrArg List.length hk
   rw [List.length_drop, List.length_nil] at this
   have := lt_of_get h2
   omega
  | cons y m ih =>
   intro k hk
   have hy : S[k]? = some y := by
    have : (S.drop k)[0]? = some y := by rw [hk]; rfl
    rwa [List.getElem?_drop, Nat.add_zero] at this
   have hk' : S.drop (k + 1) = m := by rw [← List.tail_drop, hk]; rfl
   obtain ⟨b, b1, b2⟩ := hf k y hy
   cases b with
   | false =>
    refine ⟨.rt (k : Int), ?_, .inr ⟨k, rfl, y, hy, fun h => by cases b2.2 h⟩⟩
    rw [forLFrom, hg, b1]; rfl
   | true =>
    obtain ⟨q, q1, q2⟩ := ih (k + 1) hk'
    refine ⟨q, by rw [forLFrom_nx (s' := ()) (by rw [hg, b1]; rfl), q1], ?_⟩
    rcases q2 with ⟨e, h⟩ | h
    · refine .inl ⟨e, fun j s h1 h2 => ?_⟩
      by_cases ej : j = k
      · subst ej; rw [hy] at h2; cases h2; exact b2.1 rfl
      · exact h j s (by omega) h2
    · exact .inr h
 obtain ⟨q, q1, q2⟩ := key S 0 rfl
 unfold forL
 rw [q1]
 rcases q2 with ⟨rfl, h⟩ | ⟨i, rfl, s, h1, h2⟩
 · exact ⟨_, rfl, ⟨fun _ k s e => h k s (by omega) e, fun _ => by omega⟩⟩
 · exact ⟨_, rfl, ⟨fun g => by omega, fun g => absurd (g i s h1) h2⟩⟩
theorem spec_l23Proof_eq {S : List SeqStep} (hS : SOk S) : ∃ b, spec_l23Proof S = some b ∧ (b = true ↔ PrfP S) := by
 unfold spec_l23Proof spec_l1In PrfP
 by_cases h : 1 ≤ S.length ∧ S.length ≤ 200
 · rw [bifT (decide_eq_true (show 1 ≤ len S by rw [len_eq]; omega)), bifT (decide_eq_true (show len S ≤ 200 by rw [len_eq]; omega))]
   unfold spec_l23First
   obtain ⟨r, r1, r2⟩ := first_eq hS (f := spec_l23Correct) (fun k s e => spec_cor hS e) (g := fun i22 y21 s22 => bd (PF.spec_l23Correct S ((i22 : Nat) : Int)) (fun r43 => (bif (!r43) then some (Lp.rt ((i22 : Nat) : Int)) else some (Lp.nx ())))) (fun _ _ _ => rfl)
   rw [r1, bd_some]
   refine ⟨_, rfl, ?_⟩
   rw [decide_eq_true_iff, r2]
   exact ⟨fun g => ⟨h.1, h.2, g⟩, fun g => g.2.2⟩
 · have : (bif decide (1 ≤ len S) then decide (len S ≤ 200) else false) = false := by
    rw [len_eq]
    by_cases h1 : 1 ≤ S.length
    · rw [decide_eq_true (by omega), cond_true]; exact decide_eq_false fun g => h ⟨h1, by omega⟩
    · rw [decide_eq_false (by omega)]; rfl
   rw [this]
   exact ⟨false, rfl, ⟨fun g => (by cases g), fun g => absurd ⟨g.1, g.2.1⟩ h⟩⟩
theorem impl_isSeqProof_eq {S : List SeqStep} (hS : SOk S) : ∃ b, impl_isSeqProof S = some b ∧ (b = true ↔ PrfP S) := by
 unfold impl_isSeqProof impl_within PrfP
 by_cases h : 1 ≤ S.length ∧ S.length ≤ 200
 · rw [bifT (decide_eq_true (show 1 ≤ len S by rw [len_eq]; omega)), bifT (decide_eq_true (show len S ≤ 200 by rw [len_eq]; omega))]
   unfold impl_firstBadSeq
   obtain ⟨r, r1, r2⟩ := first_eq hS (f := impl_seqCorrect) (fun k s e => impl_cor hS e) (g := fun i22 y21 s22 => bd (PF.impl_seqCorrect S ((i22 : Nat) : Int)) (fun r43 => (bif (!r43) then some (Lp.rt ((i22 : Nat) : Int)) else some (Lp.nx ())))) (fun _ _ _ => rfl)
   rw [r1, bd_some]
   refine ⟨_, rfl, ?_⟩
   rw [decide_eq_true_iff, r2]
   exact ⟨fun g => ⟨h.1, h.2, g⟩, fun g => g.2.2⟩
 · have : (bif decide (1 ≤ len S) then decide (len S ≤ 200) else false) = false := by
    rw [len_eq]
    by_cases h1 : 1 ≤ S.length
    · rw [decide_eq_true (by omega), cond_true]; exact decide_eq_false fun g => h ⟨h1, by omega⟩
    · rw [decide_eq_false (by omega)]; rfl
   rw [this]
   exact ⟨false, rfl, ⟨fun g => (by cases g), fun g => absurd ⟨g.1, g.2.1⟩ h⟩⟩
theorem proof_both {S : List SeqStep} (hS : SOk S) : ∃ b, spec_l23Proof S = some b ∧ impl_isSeqProof S = some b ∧ (b = true ↔ PrfP S) := by
 obtain ⟨b, b1, b2⟩ := spec_l23Proof_eq hS
 obtain ⟨c, c1, c2⟩ := impl_isSeqProof_eq hS
 have : b = c := Bool.eq_iff_iff.2 (b2.trans c2.symm)
 subst this
 exact ⟨b, b1, c1, b2⟩
end Go.PF
namespace Go.PF
open Go.Pu
def wtS (y : SeqStep) : Nat := (y.seq.left.length + tot (·.size) y.seq.left) + (y.seq.right.length + tot (·.size) y.seq.right) + y.main.size
theorem sz_SeqStep {a : SeqStep} {s : Int} (ha : okSeqStep a) (h0 : 0 ≤ s) (h1 : s ≤ 1048576) : ∃ r, laws_szSeqStep a s = some r ∧ (r < 0 ∨ r + wtS a = s) := by
 unfold laws_szSeqStep wtS
 obtain ⟨r, e, hr⟩ := sz_Sequent ha.1 h0 h1
 rw [e, bd_some]
 by_cases hn : r < 0
 · rw [bifT (decide_eq_true hn)]
   exact ⟨_, rfl, .inl (by omega)⟩
 · rw [bifF (decide_eq_false hn)]
   have hm : a.main.size ≤ 9223372036854775807 := ha.2.2.1
   have hw : wr (r - (a.main.size : Int)) = r - (a.main.size : Int) := wr_of _ (by omega) (by omega)
   rw [hw]
   by_cases hn' : r - (a.main.size : Int) < 0
   · rw [bifT (decide_eq_true hn')]
     exact ⟨_, rfl, .inl (by omega)⟩
   · rw [bifF (decide_eq_false hn')]
     exact ⟨_, rfl, .inr (by omega)⟩
theorem sz_SeqStepS {a : List SeqStep} {s : Int} (ha : okL okSeqStep a) (h0 : 0 ≤ s) (h1 : s ≤ 1048576) : ∃ r, laws_szSeqStepS a s = some r ∧ (r < 0 ∨ r + (a.length + tot wtS a : Nat) = s) := by
 unfold laws_szSeqStepS
 have := sz_list (sz := laws_szSeqStep) (wt := wtS) (l := a) (s := s)
  (f := fun i23 y22 s23 => bd (PF.laws_szSeqStep y22 s23) (fun r66 => (bif (decide (r66 < 0)) then some (Lp.rt (-1)) else some (Lp.nx r66)))) (fun _ _ _ => rfl) (fun y hy s h0 h1 => sz_SeqStep (ha.2 y hy) h0 h1) ha.1 h0 h1
 exact this
theorem SOk_sz {a : List SeqStep} {r s : Int} (hs : s ≤ 1048576) (h0 : 0 ≤ r) (h : r + (a.length + tot wtS a : Nat) = s) : SOk a := by
 refine ⟨by omega, fun y hy => ?_⟩
 have := tot_mem (wt := wtS) hy
 have e : wtS y = (y.seq.left.length + tot (·.size) y.seq.left) + (y.seq.right.length + tot (·.size) y.seq.right) + y.main.size := rfl
 unfold lim
 constructor <;> omega
theorem to_SeqStepS {a : List SeqStep} (ha : SOk a) : laws_toSeqStepS a = some a := by
 unfold laws_toSeqStepS
 have hl := ha.len
 have := to_list (z := (SeqStep.mk (Sequent.mk [] []) 0 ByteArray.empty 0 0 : SeqStep)) (l := a) (g := laws_toSeqStep) (h := fun y => y)
  (f := fun i33 y32 s33 => bd (PF.laws_toSeqStep y32) (fun r173 => bd (ix s33 ((i33 : Nat) : Int)) (fun x198 => bd (put s33 ((i33 : Nat) : Int) r173) (fun xs207 => some (Lp.nx xs207))))) (fun _ _ _ => rfl) (fun y hy => by
   unfold laws_toSeqStep
   have := ha.sides y hy
   rw [to_Sequent this.1 this.2]; rfl) (by unfold lim; omega)
 rw [List.map_id'] at this
 exact this
theorem wtStep_wtS (y : SeqStep) : wtStep y ≤ wtS y + 4 := by unfold wtStep wtS; omega
theorem tot_le4 {a : List SeqStep} : tot wtStep a ≤ tot wtS a + 4 * a.length := by
 induction a with
 | nil => simp [tot]
 | cons y a ih =>
  have := wtStep_wtS y
  simp only [tot, List.length_cons]; omega
theorem mark_in {a : List SeqStep} {r s : Int} (hs : s ≤ 1048576) (h0 : 0 ≤ r) (h : r + (a.length + tot wtS a : Nat) = s) {k : Int} (hk : 0 ≤ k) (hk2 : k ≤ 100000000) : 0 ≤ (laws_markSeqStepS a k).2 ∧ (laws_markSeqStepS a k).2 ≤ k + 10000000 := by
 have := tot_le4 (a := a)
 have h2 := mark_SeqStepS (a := a) (k := k) hk (by omega)
 omega
theorem last_eq {S : List SeqStep} (h1 : 1 ≤ S.length) (h2 : S.length ≤ 1048576) : ∃ y, S[S.length - 1]? = some y ∧ ix S (wr (len S - 1)) = some y ∧ impl_last_impl_SeqStep S = some y := by
 obtain ⟨y, hy⟩ : ∃ y, S[S.length - 1]? = some y := ⟨_, List.getElem?_eq_getElem (by omega)⟩
 have e : wr (len S - 1) = ((S.length - 1 : Nat) : Int) := by rw [len_eq, wr_of _ (by omega) (by omega)]; omega
 refine ⟨y, hy, by rw [e, ix_get, hy], ?_⟩
 unfold impl_last_impl_SeqStep
 rw [e, ix_get, hy]; rfl
theorem PrfP.seq {S : List SeqStep} (h : PrfP S) {k : Nat} {y : SeqStep} (hy : S[k]? = some y) : seqB y.seq = true := (h.2.2 k y hy).1
end Go.PF
namespace Go.PF
open Go.Pu
def nUse (y : SeqStep) : Nat := if y.rule = 1 then 0 else if y.rule = 5 ∨ y.rule = 6 ∨ y.rule = 8 ∨ y.rule = 11 then 2 else 1
theorem uses_spec (y : SeqStep) : len (spec_l23Uses y) = (nUse y : Int) := by
 unfold spec_l23Uses nUse
 by_cases h1 : y.rule = 1
 · rw [h1]; rfl
 · rw [beq_eq_false_iff_ne.2 h1, cond_false, if_neg h1]
   by_cases h5 : y.rule = 5
   · rw [h5]; rfl
   · rw [beq_eq_false_iff_ne.2 h5, cond_false]
     by_cases h6 : y.rule = 6
     · rw [h6]; rfl
     · rw [beq_eq_false_iff_ne.2 h6, cond_false]
       by_cases h8 : y.rule = 8
       · rw [h8]; rfl
       · rw [beq_eq_false_iff_ne.2 h8, cond_false]
         by_cases h11 : y.rule = 11
         · rw [h11]; rfl
         · rw [beq_eq_false_iff_ne.2 h11, cond_false, if_neg (by omega)]; rfl
theorem uses_impl (y : SeqStep) : len (impl_SeqStep_uses y) = (nUse y : Int) := uses_spec y
def shS (n : Nat) (y : SeqStep) : SeqStep := ⟨y.seq, y.rule, y.main, if 0 < nUse y then y.a + n else y.a, if 1 < nUse y then y.b + n else y.b⟩
def ixOk (y : SeqStep) : Prop := (0 < nUse y → 0 ≤ y.a ∧ y.a ≤ 1000) ∧ (1 < nUse y → 0 ≤ y.b ∧ y.b ≤ 1000)
theorem premV_use {s : Sequent} {r : Int} {t : Ft} (h2 : 2 ≤ r) (h9 : r ≤ 9) : (premV s r t).length = (if r = 5 ∨ r = 6 ∨ r = 8 then 2 else 1) := by
 unfold premV
 dsimp only
 have hc : r = 2 ∨ r = 3 ∨ r = 4 ∨ r = 5 ∨ r = 6 ∨ r = 7 ∨ r = 8 ∨ r = 9 := by omega
 rcases hc with rfl | rfl | rfl | rfl | rfl | rfl | rfl | rfl <;> rfl
theorem PreP.lt {S : List SeqStep} {k : Nat} {i : Int} {p : Sequent → Prop} (h : PreP S k i p) : 0 ≤ i ∧ i < k := by
 obtain ⟨j, e, h, _⟩ := h
 omega
theorem CorP.ixOk {S : List SeqStep} {k : Nat} {s : SeqStep} (h : CorP S k s) (hk : k ≤ 1000) : ixOk s := by
 obtain ⟨_, ⟨e, _⟩ | ⟨e, _, _, h⟩ | ⟨e, _, h1, h2⟩ | ⟨t, l, _, _, e, e0, _, p, r, hp, h1, h2⟩⟩ := h
 · unfold PF.ixOk nUse; rw [if_pos e]; exact ⟨fun h => by omega, fun h => by omega⟩
 · have := h.lt
   unfold PF.ixOk nUse; rw [if_neg (by omega), if_neg (by omega)]; exact ⟨fun _ => by omega, fun h => by omega⟩
 · have := h1.lt; have := h2.lt
   unfold PF.ixOk; exact ⟨fun _ => by omega, fun _ => by omega⟩
 · have rb := ruleV_bd t l
   have := h1.lt
   have hl := premV_use (s := s.seq) (t := t) (r := s.rule) (by omega) (by omega)
   rw [hp] at hl
   unfold PF.ixOk nUse
   rw [if_neg (by omega)]
   refine ⟨fun _ => by omega, fun g => ?_⟩
   rcases h2 with ⟨rfl, _⟩ | ⟨q, rfl, h2⟩
   · by_cases c : s.rule = 5 ∨ s.rule = 6 ∨ s.rule = 8
     · rw [if_pos c] at hl; simp at hl
     · rw [if_neg (by omega)] at g; omega
   · have := h2.lt; omega
theorem sh_a {n : Nat} (hn : n ≤ 1000) {y : SeqStep} (hy : ixOk y) : (0 < nUse y → wr (y.a + (n : Int)) = y.a + n) ∧ (1 < nUse y → wr (y.b + (n : Int)) = y.b + n) :=
 ⟨fun h => by have := hy.1 h; exact wr_of _ (by omega) (by omega), fun h => by have := hy.2 h; exact wr_of _ (by omega) (by omega)⟩
theorem nUse_le (y : SeqStep) : nUse y ≤ 2 := by unfold nUse; split; · omega
                                                 split <;> omega
theorem spec_l25Behind_eq {A B : List SeqStep} (hA : ∀ y ∈ A, seqB y.seq = true) (hB : ∀ y ∈ B, seqB y.seq = true ∧ ixOk y) (la : A.length ≤ 1000) (lb : B.length ≤ 1000) : spec_l25Behind A B = some (A ++ B.map (shS A.length)) := by
 unfold spec_l25Behind
 have own : ∀ {y : SeqStep}, seqB y.seq = true → spec_l23Own y.seq = some y.seq := fun h => by
  unfold seqB at h
  rw [Bool.and_eq_true, sideB_iff, sideB_iff] at h
  have := h.1.len; have := h.2.len
  exact own_eq (by unfold lim; omega) (by unfold lim; omega)
 have h1 : forL (S := List SeqStep) (X := Empty) A (fun i27 y26 s27 => bd (PF.spec_l23Own y26.seq) (fun r130 => bd (app s27 [(SeqStep.mk r130 y26.rule y26.main y26.a y26.b)]) (fun xs163 => some (Lp.nx xs163)))) [] = some (.go A) := by
  have key : ∀ (m : List SeqStep) (k : Nat) (t : List SeqStep), (∀ y ∈ m, seqB y.seq = true) → t.length + m.length ≤ 3000 → forLFrom (X := Empty) (fun i27 (y26 : SeqStep) s27 => bd (PF.spec_l23Own y26.seq) (fun r130 => bd (app s27 [(SeqStep.mk r130 y26.rule y26.main y26.a y26.b)]) (fun xs163 => some (Lp.nx xs163)))) m k t = some (.go (t ++ m)) := by
   intro m
   induction m with
   | nil => intro k t _ _; rw [forLFrom_nil]; simp
   | cons y m ih =>
    intro k t hm hn
    rw [List.length_cons] at hn
    rw [forLFrom_nx (s' := t ++ [y]) (by rw [own (hm y (List.mem_cons_self ..)), bd_some, app_ok (by simp; unfold lim; omega), bd_some]), ih _ _ (fun z hz => hm z (List.mem_cons_of_mem _ hz)) (by simp; omega)]
    simp
  unfold forL
  rw [key A 0 [] hA (by simp; omega)]; rfl
 rw [h1, bdR_go]
 have key : ∀ (m : List SeqStep) (k : Nat) (t : List SeqStep), (∀ y ∈ m, seqB y.seq = true ∧ ixOk y) → t.length + m.length ≤ 3000 → forLFrom (X := Empty) (fun i185 (y184 : SeqStep) s185 => bd (PF.spec_l23Own y184.seq) (fun r333 => (bif (decide (0 < (len (PF.spec_l23Uses (SeqStep.mk r333 y184.rule y184.main y184.a y184.b))))) then (bif (decide (1 < (len (PF.spec_l23Uses (SeqStep.mk r333 y184.rule y184.main y184.a y184.b))))) then bd (app s185 [(SeqStep.mk r333 y184.rule y184.main (wr (y184.a + (len A))) (wr (y184.b + (len A))))]) (fun xs382 => some (Lp.nx xs382)) else bd (app s185 [(SeqStep.mk r333 y184.rule y184.main (wr (y184.a + (len A))) y184.b)]) (fun xs401 => some (Lp.nx xs401))) else (bif (decide (1 < (len (PF.spec_l23Uses (SeqStep.mk r333 y184.rule y184.main y184.a y184.b))))) then bd (app s185 [(SeqStep.mk r333 y184.rule y184.main y184.a (wr (y184.b + (len A))))]) (fun xs424 => some (Lp.nx xs424)) else bd (app s185 [(SeqStep.mk r333 y184.rule y184.main y184.a y184.b)]) (fun xs443 => some (Lp.nx xs443)))))) m k t = some (.go (t ++ m.map (shS A.length))) := by
  intro m
  induction m with
  | nil => intro k t _ _; rw [forLFrom_nil]; simp
  | cons y m ih =>
   intro k t hm hn
   rw [List.length_cons] at hn
   obtain ⟨g1, g2⟩ := hm y (List.mem_cons_self ..)
   have w := sh_a la g2
   have u := nUse_le y
   have hy : (SeqStep.mk y.seq y.rule y.main y.a y.b) = y := rfl
   rw [forLFrom_nx (s' := t ++ [shS A.length y]) (by
    rw [own g1, bd_some, hy, uses_spec, len_eq]
    unfold shS
    by_cases c0 : 0 < nUse y
    · rw [bifT (decide_eq_true (show 0 < (nUse y : Int) by omega)), if_pos c0, w.1 c0]
      by_cases c1 : 1 < nUse y
      · rw [bifT (decide_eq_true (show 1 < (nUse y : Int) by omega)), if_pos c1, w.2 c1, app_ok (by simp; unfold lim; omega), bd_some]
      · rw [bifF (decide_eq_false (show ¬ 1 < (nUse y : Int) by omega)), if_neg c1, app_ok (by simp; unfold lim; omega), bd_some]
    · rw [bifF (decide_eq_false (show ¬ 0 < (nUse y : Int) by omega)), if_neg c0, bifF (decide_eq_false (show ¬ 1 < (nUse y : Int) by omega)), if_neg (by omega), app_ok (by simp; unfold lim; omega), bd_some]),
    ih _ _ (fun z hz => hm z (List.mem_cons_of_mem _ hz)) (by simp; omega)]
   simp
 unfold forL
 rw [key B 0 A hB (by omega)]; rfl
theorem clone_eq {s : Sequent} (h : seqB s = true) : impl_Sequent_clone s = some s ∧ impl_IsSequent s = some true := by
 have hS := h
 unfold seqB at hS
 rw [Bool.and_eq_true, sideB_iff, sideB_iff] at hS
 have := hS.1.len; have := hS.2.len
 constructor
 · unfold impl_Sequent_clone
   rw [slices_Clone_string_eq (by unfold lim; omega), bd_some, slices_Clone_string_eq (by unfold lim; omega)]; rfl
 · rw [impl_IsSequent_eq (by unfold lim; omega) (by unfold lim; omega), h]
theorem put_part {s : Sequent} (hs : seqB s = true) {b : Bool} {t : List SeqStep} (ht : t.length ≤ 3000) (f : Sequent → SeqStep) :
 (bd (impl_Sequent_clone s) (fun r => bd (bif b then some true else bd (impl_IsSequent r) (fun q => some (!q))) (fun c => bd (app t [f r]) (fun xs => some (xs, (bif c then true else (decide (200 ≤ (len t)))), (wr ((len xs) - 1)))))) : Option (List SeqStep × Bool × Int)) = some (t ++ [f s], b || decide (200 ≤ t.length), (t.length : Int)) := by
 obtain ⟨c1, c2⟩ := clone_eq hs
 rw [c1, bd_some, c2]
 have e : (bif b then (some true : Option Bool) else bd (some true) fun q => some (!q)) = some b := by cases b <;> rfl
 rw [e, bd_some, app_ok (by simp; unfold lim; omega), bd_some]
 congr 2
 have d : decide (200 ≤ len t) = decide (200 ≤ t.length) := decide_eq_decide.2 (by rw [len_eq]; omega)
 rw [d]
 have w : wr (len (t ++ [f s]) - 1) = (t.length : Int) := by
  rw [len_eq, List.length_append]
  simp only [List.length_cons, List.length_nil]
  rw [wr_of _ (by omega) (by omega)]; omega
 rw [w]
 cases b <;> rfl
theorem append_eq {A B : List SeqStep} {bad : Bool} (hB : ∀ y ∈ B, seqB y.seq = true ∧ ixOk y) (la : A.length ≤ 1000) (lb : B.length ≤ 1000) (h1 : 1 ≤ B.length) :
 impl_sequencer_append ⟨A, bad⟩ B = some (((A.length + B.length - 1 : Nat) : Int), ⟨A ++ B.map (shS A.length), bad || decide (200 < A.length + B.length)⟩) := by
 unfold impl_sequencer_append
 have key : ∀ (m : List SeqStep) (k : Nat) (t : List SeqStep) (b : Bool), (∀ y ∈ m, seqB y.seq = true ∧ ixOk y) → t.length + m.length ≤ 3000 → ∃ b', forLFrom (X := Empty) (fun i22 (y21 : SeqStep) (s22 : List SeqStep × Bool) => (bif ((len (PF.impl_SeqStep_uses y21)) == 2) then bd (β := _) (bd (PF.impl_Sequent_clone y21.seq) (fun r273770 => bd (bif s22.2 then some true else bd (PF.impl_IsSequent r273770) (fun r273808 => some (!r273808))) (fun t273801 => bd (app s22.1 [(SeqStep.mk r273770 y21.rule y21.main (wr (y21.a + (len A))) (wr (y21.b + (len A))))]) (fun xs297831 => some (xs297831, (bif t273801 then true else (decide (200 ≤ (len s22.1)))), (wr ((len xs297831) - 1)))))) : Option ((List SeqStep) × Bool × Int)) (fun s273760 => some (Lp.nx (s273760.1, s273760.2.1))) else (bif ((len (PF.impl_SeqStep_uses y21)) == 1) then bd (β := _) (bd (PF.impl_Sequent_clone y21.seq) (fun r351938 => bd (bif s22.2 then some true else bd (PF.impl_IsSequent r351938) (fun r351976 => some (!r351976))) (fun t351969 => bd (app s22.1 [(SeqStep.mk r351938 y21.rule y21.main (wr (y21.a + (len A))) y21.b)]) (fun xs375999 => some (xs375999, (bif t351969 then true else (decide (200 ≤ (len s22.1)))), (wr ((len xs375999) - 1)))))) : Option ((List SeqStep) × Bool × Int)) (fun s351928 => some (Lp.nx (s351928.1, s351928.2.1))) else bd (β := _) (bd (PF.impl_Sequent_clone y21.seq) (fun r430102 => bd (bif s22.2 then some true else bd (PF.impl_IsSequent r430102) (fun r430140 => some (!r430140))) (fun t430133 => bd (app s22.1 [(SeqStep.mk r430102 y21.rule y21.main y21.a y21.b)]) (fun xs454163 => some (xs454163, (bif t430133 then true else (decide (200 ≤ (len s22.1)))), (wr ((len xs454163) - 1)))))) : Option ((List SeqStep) × Bool × Int)) (fun s430092 => some (Lp.nx (s430092.1, s430092.2.1)))))) m k (t, b) = some (.go (t ++ m.map (shS A.length), b')) ∧ b' = (b || decide (1 ≤ m.length ∧ 200 < t.length + m.length)) := by
  intro m
  induction m with
  | nil => intro k t b _ _; exact ⟨b, by rw [forLFrom_nil]; simp, by simp⟩
  | cons y m ih =>
   intro k t b hm hn
   rw [List.length_cons] at hn
   obtain ⟨g1, g2⟩ := hm y (List.mem_cons_self ..)
   have w := sh_a la g2
   have u := nUse_le y
   obtain ⟨b', e1, e2⟩ := ih (k + 1) (t ++ [shS A.length y]) (b || decide (200 ≤ t.length)) (fun z hz => hm z (List.mem_cons_of_mem _ hz)) (by simp; omega)
   refine ⟨b', ?_, ?_⟩
   · rw [forLFrom_nx (s' := (t ++ [shS A.length y], b || decide (200 ≤ t.length))) (by
      rw [uses_impl, len_eq]
      dsimp only
      have hc : nUse y = 0 ∨ nUse y = 1 ∨ nUse y = 2 := by omega
      unfold shS
      rcases hc with hc | hc | hc
      · rw [hc, show (((0 : Nat) : Int) == 2) = false from rfl, show (((0 : Nat) : Int) == 1) = false from rfl, cond_false, cond_false, put_part g1 (by omega) (fun r => SeqStep.mk r y.rule y.main y.a y.b)]; rfl
      · rw [hc, show (((1 : Nat) : Int) == 2) = false from rfl, show (((1 : Nat) : Int) == 1) = true from rfl, cond_false, cond_true, w.1 (by omega), put_part g1 (by omega) (fun r => SeqStep.mk r y.rule y.main (y.a + (A.length : Int)) y.b)]; rfl
      · rw [hc, show (((2 : Nat) : Int) == 2) = true from rfl, cond_true, w.1 (by omega), w.2 (by omega), put_part g1 (by omega) (fun r => SeqStep.mk r y.rule y.main (y.a + (A.length : Int)) (y.b + (A.length : Int)))]; rfl), e1]
     simp
   · rw [e2, List.length_append, List.length_cons, List.length_cons, List.length_nil]
     by_cases c1 : 200 ≤ t.length
     · rw [decide_eq_true c1, decide_eq_true (show 1 ≤ m.length + 1 ∧ 200 < t.length + (m.length + 1) by omega)]; simp
     · rw [decide_eq_false c1, Bool.or_false]
       congr 1
       exact decide_eq_decide.2 ⟨fun g => by omega, fun g => by omega⟩
 obtain ⟨b', e1, e2⟩ := key B 0 A bad hB (by omega)
 unfold forL
 dsimp only
 rw [e1, bdR_go, e2]
 congr 2
 · rw [len_eq, List.length_append, List.length_map, wr_of _ (by omega) (by omega)]; omega
 · dsimp only
   rw [show decide (1 ≤ B.length ∧ 200 < A.length + B.length) = decide (200 < A.length + B.length) from decide_eq_decide.2 ⟨fun g => g.2, fun g => ⟨h1, g⟩⟩]
theorem PreP.mv {S S' : List SeqStep} {k n : Nat} {i : Int} {p : Sequent → Prop} (h : PreP S k i p) (hS : ∀ (j : Nat) (y : SeqStep), j < k → S[j]? = some y → ∃ y', S'[n + j]? = some y' ∧ y'.seq = y.seq) : PreP S' (n + k) (i + n) p := by
 obtain ⟨j, e, h1, y, h2, h3, h4⟩ := h
 obtain ⟨y', e1, e2⟩ := hS j y h1 h2
 exact ⟨n + j, by omega, by omega, y', e1, by rw [e2]; exact h3, by rw [e2]; exact h4⟩
theorem CorP.mv {S S' : List SeqStep} {k n : Nat} {s : SeqStep} (h : CorP S k s) (hS : ∀ (j : Nat) (y : SeqStep), j < k → S[j]? = some y → ∃ y', S'[n + j]? = some y' ∧ y'.seq = y.seq) : CorP S' (n + k) (shS n s) := by
 obtain ⟨h0, h⟩ := h
 refine ⟨h0, ?_⟩
 rcases h with ⟨e, h1, h2, h3, h4⟩ | ⟨e, h1, h2, h3⟩ | ⟨e, h1, h2, h3⟩ | ⟨t, l, h1, h2, h3, h4, h5, p, r, h6, h7, h8⟩
 · have u : nUse s = 0 := by unfold nUse; rw [if_pos e]
   refine .inl ⟨e, h1, ?_, ?_, h4⟩
   · show (if 0 < nUse s then _ else s.a) = 0
     rw [if_neg (by omega)]; exact h2
   · show (if 1 < nUse s then _ else s.b) = 0
     rw [if_neg (by omega)]; exact h3
 · have u : nUse s = 1 := by unfold nUse; rw [if_neg (by omega), if_neg (by omega)]
   refine .inr (.inl ⟨e, h1, ?_, ?_⟩)
   · show (if 1 < nUse s then _ else s.b) = 0
     rw [if_neg (by omega)]; exact h2
   · show PreP S' (n + k) (if 0 < nUse s then s.a + n else s.a) _
     rw [if_pos (by omega)]; exact h3.mv hS
 · have u : nUse s = 2 := by unfold nUse; rw [if_neg (by omega), if_pos (by omega)]
   refine .inr (.inr (.inl ⟨e, h1, ?_, ?_⟩))
   · show PreP S' (n + k) (if 0 < nUse s then s.a + n else s.a) _
     rw [if_pos (by omega)]; exact h2.mv hS
   · show PreP S' (n + k) (if 1 < nUse s then s.b + n else s.b) _
     rw [if_pos (by omega)]; exact h3.mv hS
 · have rb := ruleV_bd t l
   have hl := premV_use (s := s.seq) (t := t) (r := s.rule) (by omega) (by omega)
   rw [h6] at hl
   refine .inr (.inr (.inr ⟨t, l, h1, h2, h3, h4, h5, p, r, h6, ?_, ?_⟩))
   · show PreP S' (n + k) (if 0 < nUse s then s.a + n else s.a) _
     rw [if_pos (by unfold nUse; rw [if_neg (by omega)]; split <;> omega)]; exact h7.mv hS
   · rcases h8 with ⟨rfl, h8⟩ | ⟨q, rfl, h8⟩
     · have c : ¬ (s.rule = 5 ∨ s.rule = 6 ∨ s.rule = 8) := fun c => by rw [if_pos c] at hl; simp at hl
       refine .inl ⟨rfl, ?_⟩
       show (if 1 < nUse s then _ else s.b) = 0
       rw [if_neg (by unfold nUse; rw [if_neg (by omega), if_neg (by omega)]; omega)]; exact h8
     · have c : s.rule = 5 ∨ s.rule = 6 ∨ s.rule = 8 := by
        apply Classical.byContradiction
        intro c; rw [if_neg c] at hl; simp at hl
       refine .inr ⟨q, rfl, ?_⟩
       show PreP S' (n + k) (if 1 < nUse s then s.b + n else s.b) _
       rw [if_pos (by unfold nUse; rw [if_neg (by omega), if_pos (by omega)]; omega)]; exact h8.mv hS
theorem shS_zero (y : SeqStep) : shS 0 y = y := by
 unfold shS
 have h1 : (if 0 < nUse y then y.a + ((0 : Nat) : Int) else y.a) = y.a := by split <;> simp
 have h2 : (if 1 < nUse y then y.b + ((0 : Nat) : Int) else y.b) = y.b := by split <;> simp
 rw [h1, h2]
theorem both_cor {A B C : List SeqStep} (hA : PrfP A) (hB : PrfP B) {k : Nat} {y : SeqStep} (hk : k < A.length + B.length) (hy : (A ++ B.map (shS A.length) ++ C)[k]? = some y) : CorP (A ++ B.map (shS A.length) ++ C) k y := by
 rw [List.append_assoc] at hy ⊢
 have at1 : ∀ j, j < A.length → (A ++ (B.map (shS A.length) ++ C))[j]? = A[j]? := fun j h => List.getElem?_append_left h
 have at2 : ∀ j, j < B.length → (A ++ (B.map (shS A.length) ++ C))[A.length + j]? = (B[j]?).map (shS A.length) := fun j h => by
  rw [List.getElem?_append_right (by omega), show A.length + j - A.length = j by omega, List.getElem?_append_left (by simpa using h), List.getElem?_map]
 by_cases h : k < A.length
 · rw [at1 k h] at hy
   have := (hA.2.2 k y hy).mv (S' := A ++ (B.map (shS A.length) ++ C)) (n := 0) fun j y' hj e => ⟨y', by rw [Nat.zero_add, at1 j (by omega)]; exact e, rfl⟩
   rw [shS_zero, Nat.zero_add] at this; exact this
 · obtain ⟨j, rfl⟩ : ∃ j, k = A.length + j := ⟨k - A.length, by omega⟩
   rw [at2 j (by omega)] at hy
   obtain ⟨z, hz⟩ : ∃ z, B[j]? = some z := ⟨_, List.getElem?_eq_getElem (by omega)⟩
   rw [hz] at hy
   cases hy
   exact (hB.2.2 j z hz).mv fun i y' hi e => ⟨shS A.length y', by rw [at2 i (by omega), e]; rfl, rfl⟩
end Go.PF
namespace Go.PF
open Go.Pu
theorem PrfP.all {S : List SeqStep} (h : PrfP S) : ∀ y ∈ S, seqB y.seq = true ∧ ixOk y := fun y hy => by
 obtain ⟨k, hk⟩ := List.getElem?_of_mem hy
 have := lt_of_get hk
 exact ⟨h.seq hk, (h.2.2 k y hk).ixOk (by have := h.2.1; omega)⟩
theorem SOk_seq {S : List SeqStep} (hl : S.length ≤ 1048576) (h : ∀ y ∈ S, seqB y.seq = true) : SOk S := ⟨hl, fun y hy => by
 have := h y hy
 unfold seqB at this
 rw [Bool.and_eq_true, sideB_iff, sideB_iff] at this
 have := this.1.len; have := this
 constructor
 · unfold lim; omega
 · rename_i q _; have := q.2.len; unfold lim; omega⟩
theorem Few_seq {S : List SeqStep} (hl : S.length ≤ 1000) (h : ∀ y ∈ S, seqB y.seq = true) : Few S := ⟨hl, fun y hy => by
 have := h y hy
 unfold seqB at this
 rw [Bool.and_eq_true, sideB_iff, sideB_iff] at this
 have h1 := this.1.len; have h2 := this.2.len
 omega⟩
theorem join_eq {A B : List SeqStep} {m : ByteArray} (hA : SOk A) (hB : SOk B) : ∃ r, spec_JoinByCut A B m = some r ∧ impl_JoinByCut A B m = some r ∧ Few r.1 := by
 unfold spec_JoinByCut impl_JoinByCut
 obtain ⟨b, b1, b2, b3⟩ := proof_both hA
 rw [b1, bd_some, b2, bd_some]
 cases b with
 | false => exact ⟨_, rfl, rfl, ⟨by simp, by simp⟩⟩
 | true =>
  obtain ⟨c, c1, c2, c3⟩ := proof_both hB
  rw [Bool.not_true, cond_false, cond_false, c1, bd_some, c2, bd_some]
  cases c with
  | false => exact ⟨_, rfl, rfl, ⟨by simp, by simp⟩⟩
  | true =>
   rw [spec_l22Good_eq, impl_IsFormula_eq]
   cases hg : goodB m with
   | false => exact ⟨_, rfl, rfl, ⟨by simp, by simp⟩⟩
   | true =>
    have pA := b3.1 rfl
    have pB := c3.1 rfl
    have nA := pA.2.1
    have nB := pB.2.1
    obtain ⟨s, s1, s2, s3⟩ := last_eq pA.1 hA.len
    obtain ⟨t, t1, t2, t3⟩ := last_eq pB.1 hB.len
    have qs := pA.seq s1
    have qt := pB.seq t1
    have qS := qs
    have qT := qt
    unfold seqB at qS qT
    rw [Bool.and_eq_true, sideB_iff, sideB_iff] at qS qT
    have z1 := qS.1.len; have z2 := qS.2.len; have z3 := qT.1.len; have z4 := qT.2.len
    simp only [Bool.not_true, bd_some, cond_false]
    rw [spec_l25Behind_eq (fun y hy => (pA.all y hy).1) pB.all (by omega) (by omega), bd_some, s2, bd_some, app_ok (by simp; unfold lim; omega), bd_some, t2, bd_some, app_ok (by simp; unfold lim; omega), bd_some,
     s3, bd_some, t3, bd_some, impl_wS (by simp; omega), bd_some]
    rw [List.nil_append, List.nil_append]
    generalize hJ : A ++ B.map (shS A.length) = J
    have lJ : J.length = A.length + B.length := by rw [← hJ]; simp
    have e1 : wr (len A - 1) = ((A.length - 1 : Nat) : Int) := by rw [len_eq, wr_of _ (by omega) (by omega)]; have := pA.1; omega
    have e2 : wr (len J - 1) = ((A.length + B.length - 1 : Nat) : Int) := by rw [len_eq, lJ, wr_of _ (by omega) (by omega)]; have := pA.1; omega
    rw [e1, e2, app_ok (by rw [lJ]; simp; unfold lim; omega), bd_some]
    generalize hc : SeqStep.mk ⟨s.seq.left, t.seq.right⟩ 11 m ((A.length - 1 : Nat) : Int) ((A.length + B.length - 1 : Nat) : Int) = cu
    have qc : seqB (⟨s.seq.left, t.seq.right⟩ : Sequent) = true := by
     unfold seqB
     rw [Bool.and_eq_true, sideB_iff, sideB_iff]
     exact ⟨qS.1, qT.2⟩
    have qJ : ∀ y ∈ J ++ [cu], seqB y.seq = true := fun y hy => by
     rcases List.mem_append.1 hy with hy | hy
     · rw [← hJ] at hy
       rcases List.mem_append.1 hy with hy | hy
       · exact (pA.all y hy).1
       · obtain ⟨z, hz, rfl⟩ := List.mem_map.1 hy
         exact (pB.all z hz).1
     · rw [List.mem_singleton.1 hy, ← hc]; exact qc
    have at1 : (J ++ [cu])[A.length - 1]? = some s := by
     rw [← hJ, List.append_assoc, List.getElem?_append_left (by have := pA.1; omega)]; exact s1
    have at2 : (J ++ [cu])[A.length + B.length - 1]? = some (shS A.length t) := by
     have h1 := pB.1
     rw [← hJ, List.append_assoc, List.getElem?_append_right (by omega), show A.length + B.length - 1 - A.length = B.length - 1 by omega, List.getElem?_append_left (by simp; omega), List.getElem?_map, t1]; rfl
    -- the last step
    have corc : CorP (J ++ [cu]) (A.length + B.length) cu ↔ s.seq.right = wS t.seq.right [m] ∧ t.seq.left = wS s.seq.left [m] := by
     have h1 := pA.1; have h2 := pB.1
     have hr : cu.rule = 11 := by rw [← hc]
     constructor
     · rintro ⟨_, ⟨e, _⟩ | ⟨e, _⟩ | ⟨_, _, g1, g2⟩ | ⟨t', l, _, _, e, _⟩⟩
       · omega
       · omega
       · rw [← hc] at g1 g2
         have k1 := g1.at (by rw [← hc] at at1; exact at1)
         have k2 := g2.at (by rw [← hc] at at2; exact at2)
         constructor
         · have := congrArg Sequent.right k1; exact this.symm
         · have := congrArg Sequent.left k2; exact this.symm
       · have := (ruleV_bd t' l).2.1; omega
     · rintro ⟨g1, g2⟩
       refine ⟨by rw [← hc]; exact qc, .inr (.inr (.inl ⟨hr, by rw [← hc]; exact hg, ?_, ?_⟩))⟩
       · refine ⟨A.length - 1, by rw [← hc], by omega, s, at1, qs, ?_⟩
         rw [← hc]
         show (⟨s.seq.left, wS t.seq.right [m]⟩ : Sequent) = s.seq
         rw [← g1]
       · refine ⟨A.length + B.length - 1, by rw [← hc], by omega, shS A.length t, at2, qt, ?_⟩
         rw [← hc]
         show (⟨wS s.seq.left [m], t.seq.right⟩ : Sequent) = t.seq
         rw [← g2]
    have prf : PrfP (J ++ [cu]) ↔ A.length + B.length + 1 ≤ 200 ∧ CorP (J ++ [cu]) (A.length + B.length) cu := by
     have lJc : (J ++ [cu]).length = A.length + B.length + 1 := by simp [lJ]
     constructor
     · rintro ⟨_, h2, h3⟩
       exact ⟨by omega, h3 _ cu (by rw [List.getElem?_append_right (by omega), lJ]; simp)⟩
     · rintro ⟨h1, h2⟩
       refine ⟨by omega, by omega, fun k y hy => ?_⟩
       have hk := lt_of_get hy
       by_cases e : k = A.length + B.length
       · subst e
         have : (J ++ [cu])[A.length + B.length]? = some cu := by rw [List.getElem?_append_right (by omega), lJ]; simp
         rw [this] at hy; cases hy; exact h2
       · have := both_cor pA pB (C := [cu]) (k := k) (y := y) (by omega) (by rw [hJ]; exact hy)
         rw [hJ] at this; exact this
    obtain ⟨d, d1, d2⟩ := spec_l23Proof_eq (SOk_seq (S := J ++ [cu]) (by simp; omega) qJ)
    rw [d1, bd_some]
    obtain ⟨u, u1, u2⟩ := slices_Equal_string_eq s.seq.right (wS t.seq.right [m])
    obtain ⟨v, v1, v2⟩ := slices_Equal_string_eq t.seq.left (wS s.seq.left [m])
    rw [u1, bd_some]
    have fail : d = false → ∃ r, (bd (bif !d then some (false, []) else some (true, J ++ [cu])) fun s75140 : Bool × List SeqStep => some (s75140.2, s75140.1)) = some r ∧ (some ([], false) : Option (List SeqStep × Bool)) = some r ∧ Few r.1 := fun e => by
     rw [e]; exact ⟨_, rfl, rfl, ⟨by simp, by simp⟩⟩
    have dd : d = true ↔ A.length + B.length + 1 ≤ 200 ∧ u = true ∧ v = true := by rw [d2, prf, corc, u2, v2]
    cases u with
    | false =>
     have : d = false := by rw [Bool.eq_false_iff]; intro e; cases (dd.1 e).2.1
     exact fail this
    | true =>
     rw [Bool.not_true, cond_false, impl_wS (by simp; omega), bd_some, v1, bd_some]
     cases v with
     | false =>
      have : d = false := by rw [Bool.eq_false_iff]; intro e; cases (dd.1 e).2.2
      exact fail this
     | true =>
      rw [Bool.not_true, bd_some, cond_false]
      have a1 := append_eq (A := []) (B := A) (bad := false) pA.all (by simp) (by omega) pA.1
      have hm : A.map (shS ([] : List SeqStep).length) = A := by
       rw [List.length_nil, show shS 0 = id from funext shS_zero, List.map_id]
      rw [List.nil_append, hm, List.length_nil, Nat.zero_add, decide_eq_false (show ¬ 200 < A.length by omega), Bool.or_false] at a1
      have a2 := append_eq (A := A) (B := B) (bad := false) pB.all (by omega) (by omega) pB.1
      rw [hJ, Bool.false_or] at a2
      rw [a1, bd_some]
      dsimp only
      rw [a2, bd_some]
      dsimp only
      rw [put_part qc (by omega) (fun r => SeqStep.mk r 11 m ((A.length - 1 : Nat) : Int) ((A.length + B.length - 1 : Nat) : Int)), bd_some]
      dsimp only
      rw [hc, lJ]
      by_cases hl : A.length + B.length + 1 ≤ 200
      · have : d = true := dd.2 ⟨hl, rfl, rfl⟩
        rw [this, decide_eq_false (show ¬ 200 < A.length + B.length by omega), decide_eq_false (show ¬ 200 ≤ A.length + B.length by omega)]
        exact ⟨_, rfl, rfl, Few_seq (by simp; omega) qJ⟩
      · have : d = false := by rw [Bool.eq_false_iff]; intro e; exact hl (dd.1 e).1
        rw [this, decide_eq_true (show 200 ≤ A.length + B.length by omega), Bool.or_true]
        exact ⟨_, rfl, rfl, ⟨by simp, by simp⟩⟩
theorem plain_JoinByCut (a b : List SeqStep) (m : ByteArray) (ha : okL okSeqStep a) (hb : okL okSeqStep b) (hm : okS m) : laws_FnExactJoinByCut a b m = some true := by
 unfold laws_FnExactJoinByCut
 by_cases h0 : 1048576 < (m.size : Int)
 · rw [bifT (decide_eq_true h0)]
 · rw [bifF (decide_eq_false h0)]
   obtain ⟨r, e, hr⟩ := sz_SeqStepS ha (s := 1048576) (by omega) (by omega)
   rw [e, bd_some]
   by_cases hn : r < 0
   · rw [bifT (decide_eq_true hn)]
   · rw [bifF (decide_eq_false hn)]
     have hr := hr.resolve_left hn
     obtain ⟨r', e', hr'⟩ := sz_SeqStepS hb (s := r) (by omega) (by omega)
     rw [e', bd_some]
     by_cases hn' : r' < 0
     · rw [bifT (decide_eq_true hn')]
     · rw [bifF (decide_eq_false hn')]
       have hr' := hr'.resolve_left hn'
       have hS := SOk_sz (by omega) (by omega) hr
       have hT := SOk_sz (by omega) (by omega) hr'
       obtain ⟨q, q1, q2, q3⟩ := join_eq (m := m) hS hT
       obtain ⟨k, m1, m2, m3⟩ := q3.marks
       have mS := mark_in (by omega) (by omega) hr (k := 1) (by omega) (by omega)
       have mT := mark_in (by omega) (by omega) hr' (k := (laws_markSeqStepS a 1).2) (by omega) (by omega)
       rw [to_SeqStepS hS, bd_some, to_SeqStepS hT, bd_some, q1, bd_some, bd_some, bd_some, q2, bd_some, eq_SeqStepS, bd_some]
       simp only [beq_self_eq_true, Bool.not_true, cond_false, bd_some, eq_SeqStepS, q2, decide_eq_false (show ¬ (laws_markSeqStepS b (laws_markSeqStepS a 1).2).2 < 0 by omega), m1, m2, decide_eq_false (show ¬ k < 0 by omega)]
end Go.PF
