/- Reduced rows in the order of their leading places; rounds in which rows are added until nothing is new. -/
import Derived.Test.YtjpjbfbloplacaaGreatPbLa1
set_option linter.unusedVariables false
namespace Go.La
variable {C : Ctx}
theorem redL_perm {R R' : List (List Int)} (h : Red C R) (hp : R.Perm R') {a : List Int} (ha : V C.p C.N a) : redL C R a = redL C R' a := redL_mem h (h.perm hp) (fun _ => hp.mem_iff) ha
theorem add1_perm {iv : Int → Int} {R R' : List (List Int)} (h : Red C R) (hp : R.Perm R') {a : List Int} (ha : V C.p C.N a) : (add1 C iv R a).Perm (add1 C iv R' a) := by
  unfold add1
  rw [redL_perm h hp ha]
  cases isz (redL C R' a) with
  | true => exact hp
  | false => exact (hp.map _).append_right _
theorem addAll_cons {iv : Int → Int} {R as : List (List Int)} {a : List Int} : addAll C iv R (a :: as) = addAll C iv (add1 C iv R a) as := rfl
theorem addAll_snoc {iv : Int → Int} {R as : List (List Int)} {a : List Int} : addAll C iv R (as ++ [a]) = add1 C iv (addAll C iv R as) a := by unfold addAll; rw [List.foldl_append]; rfl
theorem addAll_mem {iv : Int → Int} (hi : Inv C iv) {R R' as as' : List (List Int)} (h : Red C R) (hp : R.Perm R') (ha : ∀ a ∈ as, V C.p C.N a) (hm : ∀ a, a ∈ as ↔ a ∈ as') :
    (addAll C iv R as).Perm (addAll C iv R' as') :=
  (addAll_ext hi h ha).same (addAll_ext hi (h.perm hp) fun a h' => ha a ((hm a).2 h')) (fun _ => hp.mem_iff) hm
theorem add1_ge {iv : Int → Int} {R : List (List Int)} {a : List Int} : R.length ≤ (add1 C iv R a).length := by rw [add1_len]; omega
theorem addAll_ge {iv : Int → Int} {as : List (List Int)} : ∀ {R : List (List Int)}, R.length ≤ (addAll C iv R as).length := by
  induction as with
  | nil => intro R; exact Nat.le_refl _
  | cons a as ih => intro R; exact Nat.le_trans (add1_ge (iv := iv) (a := a)) ih
theorem nodup_lt : ∀ {N : Nat} {l : List Nat}, l.Nodup → (∀ x ∈ l, x < N) → l.length ≤ N := by
  intro N
  induction N with
  | zero =>
    intro l _ h
    cases l with
    | nil => simp
    | cons x l => have := h x (by simp); omega
  | succ N ih =>
    intro l hn h
    by_cases hm : N ∈ l
    · have h1 := ih (hn.erase N) fun x hx => by
        have := (hn.mem_erase_iff).1 hx
        have := h x this.2
        omega
      rw [List.length_erase_of_mem hm] at h1
      omega
    · have := ih hn fun x hx => by
        have h1 := h x hx
        have : x ≠ N := fun e => hm (e ▸ hx)
        omega
      omega
theorem Red.ld_lt {R : List (List Int)} (h : Red C R) {r : List Int} (hr : r ∈ R) : C.ld r < C.N := by
  have h1 := h.nzr hr
  rw [← (h.vec r hr).len]
  exact Classical.byContradiction fun hno => h1 (co_ge (by omega))
theorem Red.len {R : List (List Int)} (h : Red C R) : R.length ≤ C.N := by
  have hn : (R.map C.ld).Nodup := by
    refine List.pairwise_map.2 ?_
    exact List.Pairwise.imp_of_mem (R := fun a b => a ≠ b) (fun ha hb hne e => hne (h.inj ha hb e)) h.nd
  have := nodup_lt hn fun x hx => by
    obtain ⟨r, hr, rfl⟩ := List.mem_map.1 hx
    exact h.ld_lt hr
  simpa using this

/-! in order -/
def lk (C : Ctx) (r : List Int) : Nat := C.key (C.ld r)
def Srt (C : Ctx) (R : List (List Int)) : Prop := R.Pairwise fun r s => lk C r < lk C s
def ins (C : Ctx) (new : List Int) : List (List Int) → List (List Int)
  | [] => [new]
  | r :: R => bif decide (lk C new < lk C r) then new :: r :: R else r :: ins C new R
theorem ins_perm {new : List Int} : ∀ {R : List (List Int)}, (ins C new R).Perm (R ++ [new]) := by
  intro R
  induction R with
  | nil => exact .refl _
  | cons r R ih =>
    unfold ins
    cases decide (lk C new < lk C r) with
    | true => exact (List.perm_append_comm (l₁ := [new]) (l₂ := r :: R))
    | false => exact ih.cons r
theorem ins_srt {new : List Int} : ∀ {R : List (List Int)}, Srt C R → (∀ r ∈ R, lk C r ≠ lk C new) → Srt C (ins C new R) := by
  intro R
  induction R with
  | nil => intro _ _; exact List.pairwise_singleton _ _
  | cons r R ih =>
    intro hs hne
    obtain ⟨h1, h2⟩ := List.pairwise_cons.1 hs
    unfold ins
    cases hd : decide (lk C new < lk C r) with
    | true =>
      rw [decide_eq_true_iff] at hd
      refine List.pairwise_cons.2 ⟨fun s hs' => ?_, hs⟩
      rcases List.mem_cons.1 hs' with rfl | hs'
      · exact hd
      · exact Nat.lt_trans hd (h1 s hs')
    | false =>
      rw [decide_eq_false_iff_not] at hd
      refine List.pairwise_cons.2 ⟨fun s hs' => ?_, ih h2 fun s hs' => hne s (by simp [hs'])⟩
      rcases List.mem_append.1 (ins_perm.mem_iff.1 hs') with hs' | hs'
      · exact h1 s hs'
      · have e : s = new := by simpa using hs'
        rw [e]; have := hne r (by simp); omega
theorem srt_eq : ∀ {R R' : List (List Int)}, R.Perm R' → Srt C R → Srt C R' → R = R' := by
  intro R
  induction R with
  | nil => intro R' hp _ _; exact (hp.nil_eq)
  | cons r R ih =>
    intro R' hp hs hs'
    cases R' with
    | nil => exact absurd hp.length_eq (by simp)
    | cons s R' =>
      obtain ⟨h1, h2⟩ := List.pairwise_cons.1 hs
      obtain ⟨k1, k2⟩ := List.pairwise_cons.1 hs'
      have e : r = s := by
        rcases List.mem_cons.1 (hp.mem_iff.1 (by simp : r ∈ r :: R)) with e | hr
        · exact e
        · rcases List.mem_cons.1 (hp.mem_iff.2 (by simp : s ∈ s :: R')) with e | hsm
          · exact e.symm
          · have a1 := k1 r hr; have a2 := h1 s hsm; omega
      subst e
      rw [ih hp.cons_inv h2 k2]
/-- a vector is put into rows that stand in order -/
def putS (C : Ctx) (iv : Int → Int) (R : List (List Int)) (a : List Int) : List (List Int) :=
  bif isz (redL C R a) then R else
    ins C (monic C (iv (co (redL C R a) (C.ld (redL C R a)))) (redL C R a)) (R.map (row1 C (monic C (iv (co (redL C R a) (C.ld (redL C R a)))) (redL C R a))))
theorem putS_perm {iv : Int → Int} {R : List (List Int)} {a : List Int} : (putS C iv R a).Perm (add1 C iv R a) := by
  unfold putS add1
  cases isz (redL C R a) with
  | true => exact .refl _
  | false => exact ins_perm
/-- what is new about a row that is added -/
structure Fresh (C : Ctx) (iv : Int → Int) (R : List (List Int)) (rest : List Int) : Prop where
  vec : V C.p C.N rest
  nz : co rest (C.ld rest) ≠ 0
  bd : 0 < co rest (C.ld rest) ∧ co rest (C.ld rest) < C.p
  new : New C R (monic C (iv (co rest (C.ld rest))) rest)
  ld : C.ld (monic C (iv (co rest (C.ld rest))) rest) = C.ld rest
theorem fresh {iv : Int → Int} (hi : Inv C iv) {R : List (List Int)} (h : Red C R) {a : List Int} (ha : V C.p C.N a) (hz : isz (redL C R a) = false) : Fresh C iv R (redL C R a) := by
  obtain ⟨m, hm⟩ : ∃ m, co (redL C R a) m ≠ 0 := Classical.byContradiction fun hno => by
    have : isz (redL C R a) = true := isz_iff.2 fun n => Classical.byContradiction fun hne => hno ⟨n, hne⟩
    rw [hz] at this; cases this
  obtain ⟨g1, g2⟩ := redL_spec h ha
  have hb := g1.bd (C.ld (redL C R a)); have hn := C.nz _ m hm
  have hk := hi (co (redL C R a) (C.ld (redL C R a))) (by omega) hb.2
  obtain ⟨hN, he⟩ := monic_new h ha hm hk
  exact ⟨g1, hn, by omega, hN, he⟩
theorem New.ne {R : List (List Int)} (h : Red C R) {new : List Int} (hn : New C R new) {r : List Int} (hr : r ∈ R) : lk C r ≠ lk C new := by
  intro e
  have e1 := C.inj _ _ e
  have h1 := hn.off r hr
  rw [e1, hn.one] at h1
  cases h1
theorem srt_map {R : List (List Int)} (f : List Int → List Int) (hf : ∀ r ∈ R, lk C (f r) = lk C r) (h : Srt C R) : Srt C (R.map f) := by
  refine List.pairwise_map.2 ?_
  exact List.Pairwise.imp_of_mem (fun ha hb hlt => by rw [hf _ ha, hf _ hb]; exact hlt) h
theorem putS_srt {iv : Int → Int} (hi : Inv C iv) {R : List (List Int)} (h : Red C R) {a : List Int} (ha : V C.p C.N a) (hs : Srt C R) : Srt C (putS C iv R a) := by
  unfold putS
  cases hz : isz (redL C R a) with
  | true => exact hs
  | false =>
    have hF := fresh hi h ha hz
    have hld : ∀ r ∈ R, lk C (row1 C (monic C (iv (co (redL C R a) (C.ld (redL C R a)))) (redL C R a)) r) = lk C r := fun r hr => by unfold lk; rw [row1_ld h hF.new hr]
    refine ins_srt (srt_map _ hld hs) fun r hr => ?_
    obtain ⟨q, hq, rfl⟩ := List.mem_map.1 hr
    rw [hld q hq]
    exact hF.new.ne h hq
def putAll (C : Ctx) (iv : Int → Int) (R : List (List Int)) (as : List (List Int)) : List (List Int) := as.foldl (putS C iv) R
theorem putS_red {iv : Int → Int} (hi : Inv C iv) {R : List (List Int)} (h : Red C R) {a : List Int} (ha : V C.p C.N a) : Red C (putS C iv R a) := (add1_ext hi h ha).red.perm putS_perm.symm
theorem putAll_perm {iv : Int → Int} (hi : Inv C iv) {as : List (List Int)} : ∀ {R : List (List Int)}, Red C R → (∀ a ∈ as, V C.p C.N a) → (putAll C iv R as).Perm (addAll C iv R as) := by
  induction as with
  | nil => intro R _ _; exact .refl _
  | cons a as ih =>
    intro R h ha
    have h1 := ih (putS_red hi h (ha a (by simp))) fun x hx => ha x (by simp [hx])
    refine h1.trans ?_
    rw [addAll_cons]
    exact addAll_mem hi (putS_red hi h (ha a (by simp))) putS_perm (fun x hx => ha x (by simp [hx])) fun _ => Iff.rfl
theorem putAll_ok {iv : Int → Int} (hi : Inv C iv) {as : List (List Int)} : ∀ {R : List (List Int)}, Red C R → Srt C R → (∀ a ∈ as, V C.p C.N a) → Red C (putAll C iv R as) ∧ Srt C (putAll C iv R as) := by
  induction as with
  | nil => intro R h hs _; exact ⟨h, hs⟩
  | cons a as ih => intro R h hs ha; exact ih (putS_red hi h (ha a (by simp))) (putS_srt hi h (ha a (by simp)) hs) fun x hx => ha x (by simp [hx])

/-! rounds -/
def fixG {X : Type} (f : List X → List X) : Nat → List X → List X
  | 0, R => R
  | n + 1, R => bif decide (R.length < (f R).length) then fixG f n (f R) else f R
theorem fixG_rel {X : Type} {f g : List X → List X} {P : List X → List X → Prop} (hl : ∀ {R S}, P R S → R.length = S.length) (hf : ∀ {R S}, P R S → P (f R) (g S)) : ∀ {n : Nat} {R S : List X}, P R S → P (fixG f n R) (fixG g n S) := by
  intro n
  induction n with
  | zero => intro R S h; exact h
  | succ n ih =>
    intro R S h
    unfold fixG
    rw [hl h, hl (hf h)]
    cases decide (S.length < (g S).length) with
    | true => exact ih (hf h)
    | false => exact hf h
theorem fixG_I {X : Type} {f : List X → List X} {I : List X → Prop} (hf : ∀ {R}, I R → I (f R)) : ∀ {n : Nat} {R : List X}, I R → I (fixG f n R) := by
  intro n
  induction n with
  | zero => intro R h; exact h
  | succ n ih =>
    intro R h
    unfold fixG
    cases decide (R.length < (f R).length) with
    | true => exact ih (hf h)
    | false => exact hf h
/-- the span by the program's way and by the reference's -/
theorem span_perm {iv : Int → Int} (hi : Inv C iv) {qs : List (List Int)} (hq : ∀ a ∈ qs, V C.p C.N a) {pr : List (List Int) → List (List Int)} (hv : ∀ {R}, Red C R → ∀ a ∈ pr R, V C.p C.N a)
    (hm : ∀ {R S : List (List Int)}, R.Perm S → ∀ a, a ∈ pr R ↔ a ∈ pr S) (n : Nat) :
    (fixG (fun R => addAll C iv R (pr R)) n (addAll C iv [] qs)).Perm (fixG (fun R => putAll C iv R (pr R)) n (putAll C iv [] qs)) := by
  have := fixG_rel (f := fun R => addAll C iv R (pr R)) (g := fun R => putAll C iv R (pr R)) (P := fun R S => Red C R ∧ R.Perm S) (fun h => h.2.length_eq) (fun {R S} h => by
    refine ⟨(addAll_ext hi h.1 (hv h.1)).red, ?_⟩
    have hS := h.1.perm h.2
    exact (addAll_mem hi h.1 h.2 (hv h.1) (hm h.2)).trans (putAll_perm hi hS (hv hS)).symm) (n := n) (R := addAll C iv [] qs) (S := putAll C iv [] qs)
    ⟨(addAll_ext hi .nil hq).red, (putAll_perm hi .nil hq).symm⟩
  exact this.2
theorem span_ok {iv : Int → Int} (hi : Inv C iv) {qs : List (List Int)} (hq : ∀ a ∈ qs, V C.p C.N a) {pr : List (List Int) → List (List Int)} (hv : ∀ {R}, Red C R → ∀ a ∈ pr R, V C.p C.N a) (n : Nat) :
    Red C (fixG (fun R => putAll C iv R (pr R)) n (putAll C iv [] qs)) ∧ Srt C (fixG (fun R => putAll C iv R (pr R)) n (putAll C iv [] qs)) :=
  fixG_I (f := fun R => putAll C iv R (pr R)) (I := fun R => Red C R ∧ Srt C R) (fun {R} h => putAll_ok hi h.1 h.2 (hv h.1)) (putAll_ok hi .nil .nil hq)
theorem spanA_ok {iv : Int → Int} (hi : Inv C iv) {qs : List (List Int)} (hq : ∀ a ∈ qs, V C.p C.N a) {pr : List (List Int) → List (List Int)} (hv : ∀ {R}, Red C R → ∀ a ∈ pr R, V C.p C.N a) (n : Nat) :
    Red C (fixG (fun R => addAll C iv R (pr R)) n (addAll C iv [] qs)) :=
  fixG_I (f := fun R => addAll C iv R (pr R)) (I := fun R => Red C R) (fun {R} h => (addAll_ext hi h (hv h)).red) (addAll_ext hi .nil hq).red
end Go.La
