/- Reduced rows in the order of their leading places; rounds in which rows are added until nothing is new. The graded order of monomials and the leading monomial of a polynomial. Degrees, leading monomials, coefficients and inverses: what the program and the reference compute. The reference's basis of a span: rows that stand in order. The reference's basis of a span, its rounds. -/
import Derived.Test.YtmpfnnkmplkfoaaGreatCiPlB
set_option linter.unusedVariables false
namespace Go.La
variable {C : Ctx}
theorem redL_perm {R R' : List (List Int)} (h : Red C R) (hp : R.Perm R') {a : List Int} (ha : V C.p C.N a) : redL C R a = redL C R' a := redL_mem h (h.perm hp) (fun _ => hp.mem_iff) ha
theorem addAll_cons {iv : Int → Int} {R as : List (List Int)} {a : List Int} : addAll C iv R (a :: as) = addAll C iv (add1 C iv R a) as := rfl
theorem addAll_mem {iv : Int → Int} (hi : Inv C iv) {R R' as as' : List (List Int)} (h : Red C R) (hp : R.Perm R') (ha : ∀ a ∈ as, V C.p C.N a) (hm : ∀ a, a ∈ as ↔ a ∈ as') :
    (addAll C iv R as).Perm (addAll C iv R' as') :=
  (addAll_ext hi h ha).same (addAll_ext hi (h.perm hp) fun a h' => ha a ((hm a).2 h')) (fun _ => hp.mem_iff) hm
theorem nodup_lt : ∀ {N : Nat} {l : List Nat}, l.Nodup → (∀ x ∈ l, x < N) → l.length ≤ N := by
  intro N
  induction N with
  | zero =>
    intro l _ h
    cases l with
    | nil => simp
    | cons x l => have := h x (by simp); omega
  | succ N ih =>
    intro l hn h
    by_cases hm : N ∈ l
    · have h1 := ih (hn.erase N) fun x hx => by
        have := (hn.mem_erase_iff).1 hx
        have := h x this.2
        omega
      rw [List.length_erase_of_mem hm] at h1
      omega
    · have := ih hn fun x hx => by
        have h1 := h x hx
        have : x ≠ N := fun e => hm (e ▸ hx)
        omega
      omega
theorem Red.ld_lt {R : List (List Int)} (h : Red C R) {r : List Int} (hr : r ∈ R) : C.ld r < C.N := by
  have h1 := h.nzr hr
  rw [← (h.vec r hr).len]
  exact Classical.byContradiction fun hno => h1 (co_ge (by omega))
theorem Red.len {R : List (List Int)} (h : Red C R) : R.length ≤ C.N := by
  have hn : (R.map C.ld).Nodup := by
    refine List.pairwise_map.2 ?_
    exact List.Pairwise.imp_of_mem (R := fun a b => a ≠ b) (fun ha hb hne e => hne (h.inj ha hb e)) h.nd
  have := nodup_lt hn fun x hx => by
    obtain ⟨r, hr, rfl⟩ := List.mem_map.1 hx
    exact h.ld_lt hr
  simpa using this

/-! in order -/
def lk (C : Ctx) (r : List Int) : Nat := C.key (C.ld r)
def Srt (C : Ctx) (R : List (List Int)) : Prop := R.Pairwise fun r s => lk C r < lk C s
def ins (C : Ctx) (new : List Int) : List (List Int) → List (List Int)
  | [] => [new]
  | r :: R => bif decide (lk C new < lk C r) then new :: r :: R else r :: ins C new R
theorem ins_perm {new : List Int} : ∀ {R : List (List Int)}, (ins C new R).Perm (R ++ [new]) := by
  intro R
  induction R with
  | nil => exact .refl _
  | cons r R ih =>
    unfold ins
    cases decide (lk C new < lk C r) with
    | true => exact (List.perm_append_comm (l₁ := [new]) (l₂ := r :: R))
    | false => exact ih.cons r
theorem ins_srt {new : List Int} : ∀ {R : List (List Int)}, Srt C R → (∀ r ∈ R, lk C r ≠ lk C new) → Srt C (ins C new R) := by
  intro R
  induction R with
  | nil => intro _ _; exact List.pairwise_singleton _ _
  | cons r R ih =>
    intro hs hne
    obtain ⟨h1, h2⟩ := List.pairwise_cons.1 hs
    unfold ins
    cases hd : decide (lk C new < lk C r) with
    | true =>
      rw [decide_eq_true_iff] at hd
      refine List.pairwise_cons.2 ⟨fun s hs' => ?_, hs⟩
      rcases List.mem_cons.1 hs' with rfl | hs'
      · exact hd
      · exact Nat.lt_trans hd (h1 s hs')
    | false =>
      rw [decide_eq_false_iff_not] at hd
      refine List.pairwise_cons.2 ⟨fun s hs' => ?_, ih h2 fun s hs' => hne s (by simp [hs'])⟩
      rcases List.mem_append.1 (ins_perm.mem_iff.1 hs') with hs' | hs'
      · exact h1 s hs'
      · have e : s = new := by simpa using hs'
        rw [e]; have := hne r (by simp); omega
theorem srt_eq : ∀ {R R' : List (List Int)}, R.Perm R' → Srt C R → Srt C R' → R = R' := by
  intro R
  induction R with
  | nil => intro R' hp _ _; exact (hp.nil_eq)
  | cons r R ih =>
    intro R' hp hs hs'
    cases R' with
    | nil => exact absurd hp.length_eq (by simp)
    | cons s R' =>
      obtain ⟨h1, h2⟩ := List.pairwise_cons.1 hs
      obtain ⟨k1, k2⟩ := List.pairwise_cons.1 hs'
      have e : r = s := by
        rcases List.mem_cons.1 (hp.mem_iff.1 (by simp : r ∈ r :: R)) with e | hr
        · exact e
        · rcases List.mem_cons.1 (hp.mem_iff.2 (by simp : s ∈ s :: R')) with e | hsm
          · exact e.symm
          · have a1 := k1 r hr; have a2 := h1 s hsm; omega
      subst e
      rw [ih hp.cons_inv h2 k2]
def putS (C : Ctx) (iv : Int → Int) (R : List (List Int)) (a : List Int) : List (List Int) :=
  bif isz (redL C R a) then R else
    ins C (monic C (iv (co (redL C R a) (C.ld (redL C R a)))) (redL C R a)) (R.map (row1 C (monic C (iv (co (redL C R a) (C.ld (redL C R a)))) (redL C R a))))
theorem putS_perm {iv : Int → Int} {R : List (List Int)} {a : List Int} : (putS C iv R a).Perm (add1 C iv R a) := by
  unfold putS add1
  cases isz (redL C R a) with
  | true => exact .refl _
  | false => exact ins_perm
structure Fresh (C : Ctx) (iv : Int → Int) (R : List (List Int)) (rest : List Int) : Prop where
  vec : V C.p C.N rest
  nz : co rest (C.ld rest) ≠ 0
  bd : 0 < co rest (C.ld rest) ∧ co rest (C.ld rest) < C.p
  new : New C R (monic C (iv (co rest (C.ld rest))) rest)
  ld : C.ld (monic C (iv (co rest (C.ld rest))) rest) = C.ld rest
theorem fresh {iv : Int → Int} (hi : Inv C iv) {R : List (List Int)} (h : Red C R) {a : List Int} (ha : V C.p C.N a) (hz : isz (redL C R a) = false) : Fresh C iv R (redL C R a) := by
  obtain ⟨m, hm⟩ : ∃ m, co (redL C R a) m ≠ 0 := Classical.byContradiction fun hno => by
    have : isz (redL C R a) = true := isz_iff.2 fun n => Classical.byContradiction fun hne => hno ⟨n, hne⟩
    rw [hz] at this; cases this
  obtain ⟨g1, g2⟩ := redL_spec h ha
  have hb := g1.bd (C.ld (redL C R a)); have hn := C.nz _ m hm
  have hk := hi (co (redL C R a) (C.ld (redL C R a))) (by omega) hb.2
  obtain ⟨hN, he⟩ := monic_new h ha hm hk
  exact ⟨g1, hn, by omega, hN, he⟩
theorem New.ne {R : List (List Int)} (h : Red C R) {new : List Int} (hn : New C R new) {r : List Int} (hr : r ∈ R) : lk C r ≠ lk C new := by
  intro e
  have e1 := C.inj _ _ e
  have h1 := hn.off r hr
  rw [e1, hn.one] at h1
  cases h1
theorem srt_map {R : List (List Int)} (f : List Int → List Int) (hf : ∀ r ∈ R, lk C (f r) = lk C r) (h : Srt C R) : Srt C (R.map f) := by
  refine List.pairwise_map.2 ?_
  exact List.Pairwise.imp_of_mem (fun ha hb hlt => by rw [hf _ ha, hf _ hb]; exact hlt) h
theorem putS_srt {iv : Int → Int} (hi : Inv C iv) {R : List (List Int)} (h : Red C R) {a : List Int} (ha : V C.p C.N a) (hs : Srt C R) : Srt C (putS C iv R a) := by
  unfold putS
  cases hz : isz (redL C R a) with
  | true => exact hs
  | false =>
    have hF := fresh hi h ha hz
    have hld : ∀ r ∈ R, lk C (row1 C (monic C (iv (co (redL C R a) (C.ld (redL C R a)))) (redL C R a)) r) = lk C r := fun r hr => by unfold lk; rw [row1_ld h hF.new hr]
    refine ins_srt (srt_map _ hld hs) fun r hr => ?_
    obtain ⟨q, hq, rfl⟩ := List.mem_map.1 hr
    rw [hld q hq]
    exact hF.new.ne h hq
def putAll (C : Ctx) (iv : Int → Int) (R : List (List Int)) (as : List (List Int)) : List (List Int) := as.foldl (putS C iv) R
theorem putS_red {iv : Int → Int} (hi : Inv C iv) {R : List (List Int)} (h : Red C R) {a : List Int} (ha : V C.p C.N a) : Red C (putS C iv R a) := (add1_ext hi h ha).red.perm putS_perm.symm
theorem putAll_perm {iv : Int → Int} (hi : Inv C iv) {as : List (List Int)} : ∀ {R : List (List Int)}, Red C R → (∀ a ∈ as, V C.p C.N a) → (putAll C iv R as).Perm (addAll C iv R as) := by
  induction as with
  | nil => intro R _ _; exact .refl _
  | cons a as ih =>
    intro R h ha
    have h1 := ih (putS_red hi h (ha a (by simp))) fun x hx => ha x (by simp [hx])
    refine h1.trans ?_
    rw [addAll_cons]
    exact addAll_mem hi (putS_red hi h (ha a (by simp))) putS_perm (fun x hx => ha x (by simp [hx])) fun _ => Iff.rfl
theorem putAll_ok {iv : Int → Int} (hi : Inv C iv) {as : List (List Int)} : ∀ {R : List (List Int)}, Red C R → Srt C R → (∀ a ∈ as, V C.p C.N a) → Red C (putAll C iv R as) ∧ Srt C (putAll C iv R as) := by
  induction as with
  | nil => intro R h hs _; exact ⟨h, hs⟩
  | cons a as ih => intro R h hs ha; exact ih (putS_red hi h (ha a (by simp))) (putS_srt hi h (ha a (by simp)) hs) fun x hx => ha x (by simp [hx])

/-! rounds -/
def fixG {X : Type} (f : List X → List X) : Nat → List X → List X
  | 0, R => R
  | n + 1, R => bif decide (R.length < (f R).length) then fixG f n (f R) else f R
theorem fixG_rel {X : Type} {f g : List X → List X} {P : List X → List X → Prop} (hl : ∀ {R S}, P R S → R.length = S.length) (hf : ∀ {R S}, P R S → P (f R) (g S)) : ∀ {n : Nat} {R S : List X}, P R S → P (fixG f n R) (fixG g n S) := by
  intro n
  induction n with
  | zero => intro R S h; exact h
  | succ n ih =>
    intro R S h
    unfold fixG
    rw [hl h, hl (hf h)]
    cases decide (S.length < (g S).length) with
    | true => exact ih (hf h)
    | false => exact hf h
theorem fixG_I {X : Type} {f : List X → List X} {I : List X → Prop} (hf : ∀ {R}, I R → I (f R)) : ∀ {n : Nat} {R : List X}, I R → I (fixG f n R) := by
  intro n
  induction n with
  | zero => intro R h; exact h
  | succ n ih =>
    intro R h
    unfold fixG
    cases decide (R.length < (f R).length) with
    | true => exact ih (hf h)
    | false => exact hf h
theorem span_perm {iv : Int → Int} (hi : Inv C iv) {qs : List (List Int)} (hq : ∀ a ∈ qs, V C.p C.N a) {pr : List (List Int) → List (List Int)} (hv : ∀ {R}, Red C R → ∀ a ∈ pr R, V C.p C.N a)
    (hm : ∀ {R S : List (List Int)}, R.Perm S → ∀ a, a ∈ pr R ↔ a ∈ pr S) (n : Nat) :
    (fixG (fun R => addAll C iv R (pr R)) n (addAll C iv [] qs)).Perm (fixG (fun R => putAll C iv R (pr R)) n (putAll C iv [] qs)) := by
  have := fixG_rel (f := fun R => addAll C iv R (pr R)) (g := fun R => putAll C iv R (pr R)) (P := fun R S => Red C R ∧ R.Perm S) (fun h => h.2.length_eq) (fun {R S} h => by
    refine ⟨(addAll_ext hi h.1 (hv h.1)).red, ?_⟩
    have hS := h.1.perm h.2
    exact (addAll_mem hi h.1 h.2 (hv h.1) (hm h.2)).trans (putAll_perm hi hS (hv hS)).symm) (n := n) (R := addAll C iv [] qs) (S := putAll C iv [] qs)
    ⟨(addAll_ext hi .nil hq).red, (putAll_perm hi .nil hq).symm⟩
  exact this.2
theorem span_ok {iv : Int → Int} (hi : Inv C iv) {qs : List (List Int)} (hq : ∀ a ∈ qs, V C.p C.N a) {pr : List (List Int) → List (List Int)} (hv : ∀ {R}, Red C R → ∀ a ∈ pr R, V C.p C.N a) (n : Nat) :
    Red C (fixG (fun R => putAll C iv R (pr R)) n (putAll C iv [] qs)) ∧ Srt C (fixG (fun R => putAll C iv R (pr R)) n (putAll C iv [] qs)) :=
  fixG_I (f := fun R => putAll C iv R (pr R)) (I := fun R => Red C R ∧ Srt C R) (fun {R} h => putAll_ok hi h.1 h.2 (hv h.1)) (putAll_ok hi .nil .nil hq)
theorem spanA_ok {iv : Int → Int} (hi : Inv C iv) {qs : List (List Int)} (hq : ∀ a ∈ qs, V C.p C.N a) {pr : List (List Int) → List (List Int)} (hv : ∀ {R}, Red C R → ∀ a ∈ pr R, V C.p C.N a) (n : Nat) :
    Red C (fixG (fun R => addAll C iv R (pr R)) n (addAll C iv [] qs)) :=
  fixG_I (f := fun R => addAll C iv R (pr R)) (I := fun R => Red C R) (fun {R} h => (addAll_ext hi h (hv h)).red) (addAll_ext hi .nil hq).red
end Go.La
namespace Go.PF
open Go.Pu
open Go.La (vadd co V Ctx)
def pc (m : Nat) : Nat := m % 2 + m / 2 % 2 + m / 4 % 2 + m / 8 % 2 + m / 16 % 2 + m / 32 % 2
def ky (m : Nat) : Nat := if m < 64 then pc m * 64 + m else m + 1000
theorem pc_le (m : Nat) : pc m ≤ 6 := by unfold pc; omega
theorem ky_inj {m n : Nat} (h : ky m = ky n) : m = n := by
  have h1 := pc_le m; have h2 := pc_le n
  unfold ky at h
  generalize pc m = x at *; generalize pc n = y at *
  split at h <;> split at h <;> omega
def best (a : List Int) : Nat → Option Nat
  | 0 => none
  | n + 1 => if co a n = 0 then best a n else match best a n with
    | none => some n
    | some m => if ky m < ky n then some n else some m
theorem best_spec (a : List Int) : ∀ n, (best a n = none → ∀ k, k < n → co a k = 0) ∧ (∀ m, best a n = some m → m < n ∧ co a m ≠ 0 ∧ ∀ k, k < n → co a k ≠ 0 → ky k ≤ ky m) := by
  intro n
  induction n with
  | zero => exact ⟨fun _ k hk => by omega, fun m h => by simp [best] at h⟩
  | succ n ih =>
    unfold best
    by_cases h0 : co a n = 0
    · rw [if_pos h0]
      refine ⟨fun h k hk => ?_, fun m h => ?_⟩
      · by_cases hk' : k = n
        · rw [hk']; exact h0
        · exact ih.1 h k (by omega)
      · obtain ⟨h1, h2, h3⟩ := ih.2 m h
        refine ⟨by omega, h2, fun k hk hne => ?_⟩
        by_cases hk' : k = n
        · rw [hk'] at hne; exact absurd h0 hne
        · exact h3 k (by omega) hne
    · rw [if_neg h0]
      cases hb : best a n with
      | none =>
        refine ⟨nofun, fun m h => ?_⟩
        cases h
        refine ⟨by omega, h0, fun k hk hne => ?_⟩
        by_cases hk' : k = n
        · rw [hk']; exact Nat.le_refl _
        · exact absurd (ih.1 hb k (by omega)) hne
      | some m =>
        obtain ⟨h1, h2, h3⟩ := ih.2 m hb
        simp only
        by_cases hlt : ky m < ky n
        · rw [if_pos hlt]
          refine ⟨nofun, fun q h => ?_⟩
          cases h
          refine ⟨by omega, h0, fun k hk hne => ?_⟩
          by_cases hk' : k = n
          · rw [hk']; exact Nat.le_refl _
          · have := h3 k (by omega) hne; omega
        · rw [if_neg hlt]
          refine ⟨nofun, fun q h => ?_⟩
          cases h
          refine ⟨by omega, h2, fun k hk hne => ?_⟩
          by_cases hk' : k = n
          · rw [hk']; omega
          · exact h3 k (by omega) hne
def bst (a : List Int) : Option Nat := best a a.length
def ldP (a : List Int) : Nat := (bst a).getD 0
theorem bst_none {a : List Int} (h : bst a = none) (m : Nat) : co a m = 0 := by
  by_cases hm : m < a.length
  · exact (best_spec a a.length).1 h m hm
  · exact Go.La.co_ge (by omega)
theorem bst_some {a : List Int} {m : Nat} (h : bst a = some m) : m < a.length ∧ co a m ≠ 0 ∧ ∀ k, co a k ≠ 0 → ky k ≤ ky m := by
  obtain ⟨h1, h2, h3⟩ := (best_spec a a.length).2 m h
  refine ⟨h1, h2, fun k hne => h3 k ?_ hne⟩
  exact Classical.byContradiction fun hno => hne (Go.La.co_ge (by omega))
theorem bst_ld {a : List Int} {m : Nat} (h : co a m ≠ 0) : bst a = some (ldP a) := by
  cases hb : bst a with
  | none => exact absurd (bst_none hb m) h
  | some k => unfold ldP; rw [hb]; rfl
def ctx (p : Int) (N : Nat) (hp : 1 < p) : Ctx where
  p := p
  N := N
  key := ky
  ld := ldP
  hp := hp
  inj := fun _ _ h => ky_inj h
  nz := fun a m h => (bst_some (bst_ld h)).2.1
  mx := fun a m h => (bst_some (bst_ld h)).2.2 m h
theorem Dn.v {p : Int} {N : Nat} {a : List Int} (h : Dn p N a) (hp : 1 < p) : V p N a := ⟨h.len, fun n => co_bd hp h n⟩
theorem dn_of_v {p : Int} {N : Nat} {a : List Int} (h : V p N a) : Dn p N a := ⟨h.len, fun x hx => by
  obtain ⟨n, hn⟩ := List.getElem?_of_mem hx
  have := Go.La.co_eq (List.getElem?_eq_some_iff.1 hn).1
  rw [hn] at this; cases this; exact h.bd n⟩
/-! over the terms -/
def bstT (o : Option Nat) (t : Term) : Option Nat := match o with
  | none => some t.mono.toNat
  | some m => if ky m < ky t.mono.toNat then some t.mono.toNat else some m
theorem co_app {a : List Int} {x : Int} {b : List Int} : co (a ++ x :: b) a.length = x := by unfold co; simp
theorem best_sp (b : List Int) : ∀ (a : List Int), (spF a.length b).foldl bstT (best (a ++ b) a.length) = best (a ++ b) (a ++ b).length := by
  induction b with
  | nil => intro a; simp [spF]
  | cons x b ih =>
    intro a
    have h1 := ih (a ++ [x])
    simp only [List.append_assoc, List.singleton_append, List.length_append, List.length_singleton] at h1
    have h2 : best (a ++ x :: b) (a.length + 1) = bif x == 0 then best (a ++ x :: b) a.length else bstT (best (a ++ x :: b) a.length) ⟨((a.length : Nat) : Int), x⟩ := by
      conv => lhs; unfold best
      rw [co_app]
      by_cases h0 : x = 0
      · rw [if_pos h0, h0]; rfl
      · rw [if_neg h0, show (x == 0) = false by simp [h0]]
        unfold bstT
        simp only [cond_false, Int.toNat_natCast]
    rw [h2] at h1
    unfold spF
    cases hx : x == 0 with
    | true =>
      rw [hx] at h1
      simp only [cond_true] at h1 ⊢
      rw [h1]; simp
    | false =>
      rw [hx] at h1
      simp only [cond_false, List.foldl_cons] at h1 ⊢
      rw [h1]; simp
theorem bst_sp (a : List Int) : (sp a).foldl bstT none = bst a := by
  have := best_sp a []
  simpa [best, sp, bst] using this
def ldI (a : List Int) : Int := match bst a with | none => -1 | some m => ((m : Nat) : Int)
def dgI (a : List Int) : Int := match bst a with | none => -1 | some m => ((pc m : Nat) : Int)
theorem isz_bst {a : List Int} : Go.La.isz a = (bst a).isNone := by
  cases hb : bst a with
  | none => exact Go.La.isz_iff.2 (bst_none hb)
  | some m =>
    cases hz : Go.La.isz a with
    | false => rfl
    | true => exact absurd (Go.La.isz_iff.1 hz m) (bst_some hb).2.1
theorem ldI_neg {a : List Int} : decide (ldI a < 0) = Go.La.isz a := by
  rw [isz_bst]; unfold ldI
  cases bst a with
  | none => rfl
  | some m => simp
theorem ldI_pos {a : List Int} (h : Go.La.isz a = false) : ldI a = ((ldP a : Nat) : Int) ∧ ldP a < a.length := by
  rw [isz_bst] at h
  cases hb : bst a with
  | none => rw [hb] at h; cases h
  | some m =>
    have e : ldP a = m := by unfold ldP; rw [hb]; rfl
    refine ⟨by unfold ldI; rw [hb, e], ?_⟩
    rw [e]; exact (bst_some hb).1
theorem ky_lt {m n : Nat} (hm : m < 64) (hn : n < 64) : ky m < ky n ↔ pc m < pc n ∨ (pc m = pc n ∧ m < n) := by
  unfold ky
  rw [if_pos hm, if_pos hn]
  generalize pc m = x; generalize pc n = y
  omega
theorem sp_nil {a : List Int} : (sp a = []) ↔ Go.La.isz a = true := by
  have key : ∀ {a : List Int} {i : Nat}, spF i a = [] ↔ Go.La.isz a = true := by
    intro a
    induction a with
    | nil => intro i; simp [spF, Go.La.isz]
    | cons x a ih =>
      intro i
      unfold spF
      have e : Go.La.isz (x :: a) = (x == 0 && Go.La.isz a) := rfl
      rw [e]
      cases x == 0 with
      | true => simpa using ih
      | false => simp
  exact key
end Go.PF
namespace Go.PF
open Go.Pu
open Go.La (vadd co V Ctx)
/-! degrees of monomials -/
theorem pc_half (m : Nat) (h : m < 64) : pc m = m % 2 + pc (m / 2) := by unfold pc; omega
theorem l14_iter {body : Int × Int → Option (Lp (Int × Int) Empty)} (hb : ∀ s, body s = bif decide (0 < s.1) then some (.nx (wr (s.1.tdiv 2), wr (s.2 + s.1.tmod 2))) else some (.bk (s.1, s.2))) :
    ∀ (n m c : Nat), n ≤ 6 → m < 2 ^ n → c + n ≤ 100 → iter body (((m : Nat) : Int), ((c : Nat) : Int)) = some (.go (0, ((c + pc m : Nat) : Int))) := by
  intro n
  induction n with
  | zero =>
    intro m c _ hm _
    have e : m = 0 := by simpa using hm
    subst e
    refine iter_bk ?_
    rw [hb]; rfl
  | succ n ih =>
    intro m c hn hm hc
    by_cases h0 : m = 0
    · subst h0
      refine iter_bk ?_
      rw [hb]; rfl
    · have h64 : m < 64 := Nat.lt_of_lt_of_le hm (Nat.pow_le_pow_right (by omega) (show n + 1 ≤ 6 by omega))
      have h2 : m / 2 < 2 ^ n := by rw [Nat.pow_succ] at hm; omega
      have e1 : wr (((m : Nat) : Int).tdiv 2) = ((m / 2 : Nat) : Int) := by
        have : ((m : Nat) : Int).tdiv 2 = ((m / 2 : Nat) : Int) := by rw [Int.tdiv_eq_ediv_of_nonneg (by omega)]; omega
        rw [this]; exact wr_of _ (by omega) (by omega)
      have e2 : wr (((c : Nat) : Int) + ((m : Nat) : Int).tmod 2) = ((c + m % 2 : Nat) : Int) := by
        have : ((m : Nat) : Int).tmod 2 = ((m % 2 : Nat) : Int) := by rw [Int.tmod_eq_emod_of_nonneg (by omega)]; omega
        rw [this]; rw [wr_of _ (by omega) (by omega)]; omega
      rw [iter_nx (s' := (((m / 2 : Nat) : Int), ((c + m % 2 : Nat) : Int))) (by rw [hb, show decide (0 < (((m : Nat) : Int), ((c : Nat) : Int)).1) = true by simp; omega, cond_true, e1, e2])]
      rw [ih (m / 2) (c + m % 2) (by omega) h2 (by omega), pc_half m h64]
      rw [Nat.add_assoc]
theorem spec_l14Count_eq {m : Nat} (h : m < 64) : spec_l14Count ((m : Nat) : Int) = some ((pc m : Nat) : Int) := by
  unfold spec_l14Count
  have := l14_iter (body := (fun s21 => (bif (decide (0 < s21.1)) then some (Lp.nx ((wr (s21.1.tdiv 2)), (wr (s21.2 + (s21.1.tmod 2))))) else some (Lp.bk (s21.1, s21.2))))) (fun _ => rfl) 6 m 0 (Nat.le_refl _) h (by omega)
  rw [show (((0 : Nat) : Int)) = 0 from rfl] at this
  rw [this, bdR_go]; simp
theorem deg_tab : (List.range 64).all (fun m => impl_degreeOf ((m : Nat) : Int) == ((pc m : Nat) : Int)) = true := by decide +kernel
theorem impl_degreeOf_eq {m : Nat} (h : m < 64) : impl_degreeOf ((m : Nat) : Int) = ((pc m : Nat) : Int) := by
  have := (List.all_eq_true.1 deg_tab) m (by simpa using h)
  simpa using this
/-! the order -/
theorem spec_l20Before_eq {m n : Nat} (hm : m < 64) (hn : n < 64) : spec_l20Before ((m : Nat) : Int) ((n : Nat) : Int) = some (decide (ky m < ky n)) := by
  unfold spec_l20Before
  rw [spec_l14Count_eq hm, spec_l14Count_eq hn]
  simp only [bd_some]
  have e := ky_lt hm hn
  by_cases h : pc m = pc n
  · have : (!(((pc m : Nat) : Int) == ((pc n : Nat) : Int))) = false := by simp [h]
    rw [this, cond_false]
    congr 1
    rw [decide_eq_decide, e]; omega
  · have : (!(((pc m : Nat) : Int) == ((pc n : Nat) : Int))) = true := by simp; omega
    rw [this, cond_true]
    congr 1
    rw [decide_eq_decide, e]; omega
def cmI (m n : Nat) : Int := if ky m < ky n then -1 else if ky n < ky m then 1 else 0
theorem cmp_int_eq (x y : Int) : cmp_Compare_int x y = if x < y then -1 else if y < x then 1 else 0 := by
  unfold cmp_Compare_int cmp_isNaN_int
  by_cases h1 : x < y <;> by_cases h2 : y < x <;> simp [h1, h2]
theorem cmp_or_eq (x y : Int) : cmp_Or_int [x, y] = some (if x = 0 then y else x) := by
  unfold cmp_Or_int forL
  by_cases hx : x = 0
  · subst hx
    by_cases hy : y = 0
    · subst hy; rfl
    · have : (!(y == 0)) = true := by simp [hy]
      simp only [forLFrom, beq_self_eq_true, Bool.not_true, cond_false, this, cond_true, bdR_rt, if_pos]
  · have : (!(x == 0)) = true := by simp [hx]
    simp only [forLFrom, this, cond_true, bdR_rt, if_neg hx]
theorem impl_compareMonos_eq {m n : Nat} (hm : m < 64) (hn : n < 64) : impl_compareMonos ((m : Nat) : Int) ((n : Nat) : Int) = some (cmI m n) := by
  unfold impl_compareMonos
  rw [impl_degreeOf_eq hm, impl_degreeOf_eq hn, cmp_int_eq, cmp_int_eq, cmp_or_eq]
  simp only [bd_some]
  congr 1
  unfold cmI
  have e1 := ky_lt hm hn; have e2 := ky_lt hn hm
  generalize pc m = x at *; generalize pc n = y at *
  generalize ky m = k at *; generalize ky n = l at *
  by_cases a1 : x < y
  · have : k < l := by omega
    simp [a1, this]
  · by_cases a2 : y < x
    · have h1 : ¬ k < l := by omega
      have h2 : l < k := by omega
      simp [h1, h2, a1, a2]
    · have hxy : x = y := by omega
      subst hxy
      by_cases b1 : m < n
      · have : k < l := by omega
        simp [b1, this]
      · by_cases b2 : n < m
        · have h1 : ¬ k < l := by omega
          have h2 : l < k := by omega
          simp [b1, b2, h1, h2]
        · have h1 : ¬ k < l := by omega
          have h2 : ¬ l < k := by omega
          simp [b1, b2, h1, h2]
/-! loops over all coefficients -/
theorem sp_T64 {a : List Int} (h : a.length ≤ 64) : ∀ t ∈ sp a, ∃ j : Nat, j < 64 ∧ t.mono = ((j : Nat) : Int) := fun t ht => by
  obtain ⟨j, h1, h2, _⟩ := mem_sp ht
  exact ⟨j, by omega, h2⟩
theorem co_loop {S : Type} {f : Nat → Int → S → Option (Lp S Empty)} {g : S → Term → S} (I : S → Prop) {a : List Int} (ha : a.length ≤ 64) {s : S} (h0 : I s)
    (hf : ∀ (i : Nat) (y : Int) (s : S), i < 64 → I s → f i y s = (bif !(y == 0) then some (.nx (g s ⟨((i : Nat) : Int), y⟩)) else some (.nx s)) ∧ (y ≠ 0 → I (g s ⟨((i : Nat) : Int), y⟩))) : forL a f s = some (.go ((sp a).foldl g s)) := by
  have key : ∀ (b : List Int) (i : Nat) (s : S), i + b.length ≤ 64 → I s → forLFrom f b i s = some (.go ((spF i b).foldl g s)) := by
    intro b
    induction b with
    | nil => intro i s _ _; rfl
    | cons y b ih =>
      intro i s hi hs
      simp only [List.length_cons] at hi
      obtain ⟨h1, h2⟩ := hf i y s (by omega) hs
      unfold spF
      cases hy : y == 0 with
      | true =>
        rw [forLFrom_nx (s' := s) (by rw [h1, hy]; rfl)]
        exact ih (i + 1) s (by omega) hs
      | false =>
        rw [forLFrom_nx (s' := g s ⟨((i : Nat) : Int), y⟩) (by rw [h1, hy]; rfl), cond_false, List.foldl_cons]
        exact ih (i + 1) _ (by omega) (h2 (by simpa using hy))
  exact key a 0 s (by omega) h0
def ldO (o : Option Nat) : Int := match o with | none => -1 | some m => ((m : Nat) : Int)
def dgO (o : Option Nat) : Int := match o with | none => -1 | some m => ((pc m : Nat) : Int)
def stL (s : Int) (t : Term) : Int := if s < 0 then t.mono else if ky s.toNat < ky t.mono.toNat then t.mono else s
def stD (s : Int) (t : Term) : Int := mx s ((pc t.mono.toNat : Nat) : Int)
theorem stL_ldO {o : Option Nat} {t : Term} (h : ∃ j : Nat, j < 64 ∧ t.mono = ((j : Nat) : Int)) : stL (ldO o) t = ldO (bstT o t) := by
  obtain ⟨j, h1, h2⟩ := h
  unfold stL bstT ldO
  cases o with
  | none => simp [h2]
  | some m =>
    simp only [h2, Int.toNat_natCast]
    rw [if_neg (by omega)]
    by_cases hk : ky m < ky j
    · rw [if_pos hk, if_pos hk]
    · rw [if_neg hk, if_neg hk]
theorem ky_mono {m n : Nat} (hm : m < 64) (hn : n < 64) (h : ky m < ky n) : pc m ≤ pc n := by have := (ky_lt hm hn).1 h; omega
theorem stD_dgO {o : Option Nat} (ho : ∀ m, o = some m → m < 64) {t : Term} (h : ∃ j : Nat, j < 64 ∧ t.mono = ((j : Nat) : Int)) : stD (dgO o) t = dgO (bstT o t) ∧ (∀ m, bstT o t = some m → m < 64) := by
  obtain ⟨j, h1, h2⟩ := h
  unfold stD bstT dgO mx
  cases o with
  | none =>
    simp only [h2, Int.toNat_natCast]
    refine ⟨if_pos (by omega), fun m e => by cases e; exact h1⟩
  | some m =>
    have hm := ho m rfl
    simp only [h2, Int.toNat_natCast]
    by_cases hk : ky m < ky j
    · have := ky_mono hm h1 hk
      rw [if_pos hk]
      refine ⟨?_, fun k e => by cases e; exact h1⟩
      split <;> simp only <;> omega
    · rw [if_neg hk]
      have : pc j ≤ pc m := by
        by_cases he : ky m = ky j
        · rw [ky_inj he]; exact Nat.le_refl _
        · exact ky_mono h1 hm (by omega)
      refine ⟨?_, fun k e => by cases e; exact hm⟩
      split <;> simp only <;> omega
theorem stL_fold : ∀ {l : List Term} {o : Option Nat}, (∀ t ∈ l, ∃ j : Nat, j < 64 ∧ t.mono = ((j : Nat) : Int)) → l.foldl stL (ldO o) = ldO (l.foldl bstT o)
  | [], _, _ => rfl
  | t :: l, o, h => by
    rw [List.foldl_cons, List.foldl_cons, stL_ldO (h t (by simp))]
    exact stL_fold fun t ht => h t (by simp [ht])
theorem stD_fold : ∀ {l : List Term} {o : Option Nat}, (∀ m, o = some m → m < 64) → (∀ t ∈ l, ∃ j : Nat, j < 64 ∧ t.mono = ((j : Nat) : Int)) → l.foldl stD (dgO o) = dgO (l.foldl bstT o)
  | [], _, _, _ => rfl
  | t :: l, o, ho, h => by
    obtain ⟨h1, h2⟩ := stD_dgO ho (h t (by simp))
    rw [List.foldl_cons, List.foldl_cons, h1]
    exact stD_fold h2 fun t ht => h t (by simp [ht])
theorem fold_ld {a : List Int} (ha : a.length ≤ 64) : (sp a).foldl stL (-1) = ldI a := by
  have := stL_fold (o := none) (sp_T64 ha)
  rw [bst_sp] at this
  exact this
theorem fold_dg {a : List Int} (ha : a.length ≤ 64) : (sp a).foldl stD (-1) = dgI a := by
  have := stD_fold (o := none) nofun (sp_T64 ha)
  rw [bst_sp] at this
  exact this
theorem impl_leading_eq {a : List Int} (ha : a.length ≤ 64) : impl_leading a = some (ldI a) := by
  unfold impl_leading
  rw [co_loop (g := stL) (fun s => s = -1 ∨ ∃ m : Nat, m < 64 ∧ s = ((m : Nat) : Int)) ha (.inl rfl) (fun i y s hi hs => by
    constructor
    · cases hy : !(y == 0) with
      | false => rfl
      | true =>
        simp only [cond_true]
        rcases hs with rfl | ⟨m, hm, rfl⟩
        · rfl
        · have : decide ((((m : Nat)) : Int) < 0) = false := by simp
          rw [this, cond_false, impl_compareMonos_eq hi hm]
          simp only [bd_some]
          unfold stL
          rw [if_neg (by omega)]
          simp only [Int.toNat_natCast]
          unfold cmI
          by_cases h1 : ky i < ky m
          · rw [if_pos h1, if_neg (by omega)]; rfl
          · rw [if_neg h1]
            by_cases h2 : ky m < ky i
            · rw [if_pos h2, if_pos h2]; rfl
            · rw [if_neg h2, if_neg h2]; rfl
    · intro _
      unfold stL
      rcases hs with rfl | ⟨m, hm, rfl⟩
      · exact .inr ⟨i, hi, by simp⟩
      · rw [if_neg (by omega)]
        split
        · exact .inr ⟨i, hi, rfl⟩
        · exact .inr ⟨m, hm, rfl⟩), bdR_go, fold_ld ha]
theorem impl_dense_degree_eq {a : List Int} (ha : a.length ≤ 64) : impl_dense_degree a = some (dgI a) := by
  unfold impl_dense_degree
  rw [co_loop (g := stD) (fun _ => True) ha trivial (fun i y s hi _ => by
    refine ⟨?_, fun _ => trivial⟩
    rw [impl_degreeOf_eq hi]
    unfold stD
    simp only [Int.toNat_natCast]), bdR_go, fold_dg ha]
/-! over the terms -/
theorem spec_l18Degree_eq {a : List Int} (ha : a.length ≤ 64) : spec_l18Degree (sp a) = some (dgI a) := by
  unfold spec_l18Degree
  rw [forL_fold stD (fun i t s ht => by
    obtain ⟨j, h1, h2⟩ := sp_T64 ha t (List.mem_of_getElem? ht)
    rw [h2, spec_l14Count_eq h1, bd_some]
    unfold spec_l1Most stD mx
    rw [h2]
    simp only [Int.toNat_natCast]
    by_cases hlt : ((pc j : Nat) : Int) < s
    · rw [if_neg (by omega), show decide (((pc j : Nat) : Int) < s) = true by simpa using hlt]; rfl
    · rw [show decide (((pc j : Nat) : Int) < s) = false by simpa using hlt]
      by_cases h3 : ((pc j : Nat) : Int) > s
      · rw [if_pos h3]; rfl
      · rw [if_neg h3, show s = ((pc j : Nat) : Int) by omega]; rfl), bdR_go, fold_dg ha]
theorem forR_tail {S X α : Type} {x0 : α} {xs : List α} {body : Nat → S → Option (Lp S X)} {F : S → α → S} (I : S → Prop) {s0 : S} (h0 : I s0)
    (h : ∀ i x s, (x0 :: xs)[i]? = some x → I s → body i s = some (.nx (F s x)) ∧ I (F s x)) : forR 1 (x0 :: xs).length body s0 = some (.go (xs.foldl F s0)) := by
  have key : ∀ (m : List α) (k : Nat) (s : S), (∀ i y, m[i]? = some y → (x0 :: xs)[k + i]? = some y) → I s → forFrom body m.length k s = some (.go (m.foldl F s)) := by
    intro m
    induction m with
    | nil => intro k s _ _; rfl
    | cons y m ih =>
      intro k s hm hI
      obtain ⟨h1, h2⟩ := h k y s (by have := hm 0 y rfl; simpa using this) hI
      simp only [List.length_cons, forFrom, h1, List.foldl_cons]
      exact ih (k + 1) (F s y) (fun i z hz => by have := hm (i + 1) z (by simpa using hz); rwa [show k + (i + 1) = k + 1 + i by omega] at this) h2
  unfold forR
  have := key xs 1 s0 (fun i y hy => by rw [show 1 + i = i + 1 by omega]; simpa using hy) h0
  simpa using this
theorem stL_tail : ∀ {l : List Term} {m : Nat}, (∀ t ∈ l, ∃ j : Nat, j < 64 ∧ t.mono = ((j : Nat) : Int)) → l.foldl stL ((m : Nat) : Int) = ldO (l.foldl bstT (some m)) := fun h => stL_fold (o := some _) h
theorem spec_l20Lead_eq {a : List Int} (ha : a.length ≤ 64) (hz : Go.La.isz a = false) : spec_l20Lead (sp a) = some ((ldP a : Nat) : Int) := by
  unfold spec_l20Lead
  have h64 := sp_T64 ha
  have hb := bst_sp a
  cases hs : sp a with
  | nil => rw [sp_nil.1 hs] at hz; cases hz
  | cons t0 ts =>
    rw [hs] at h64 hb
    obtain ⟨j, h1, h2⟩ := h64 t0 (by simp)
    rw [show ix (t0 :: ts) 0 = some t0 from rfl, bd_some, h2]
    rw [forR_tail (F := stL) (fun s => ∃ m : Nat, m < 64 ∧ s = ((m : Nat) : Int)) ⟨j, h1, rfl⟩ (fun i t s ht hI => by
      obtain ⟨m, hm, rfl⟩ := hI
      obtain ⟨k, k1, k2⟩ := h64 t (List.mem_of_getElem? ht)
      have hx : ix (t0 :: ts) ((i : Nat) : Int) = some t := ix_nat ht
      simp only [hx, bd_some]
      rw [k2, spec_l20Before_eq hm k1]
      simp only [bd_some]
      unfold stL
      rw [if_neg (by omega), k2]
      simp only [Int.toNat_natCast]
      by_cases hk : ky m < ky k
      · rw [if_pos hk, show decide (ky m < ky k) = true by simpa using hk]
        exact ⟨rfl, k, k1, rfl⟩
      · rw [if_neg hk, show decide (ky m < ky k) = false by simpa using hk]
        exact ⟨rfl, m, hm, rfl⟩), bdR_go]
    rw [stL_tail fun t ht => h64 t (by simp [ht])]
    have e : ts.foldl bstT (some j) = bst a := by
      rw [← hb, List.foldl_cons]
      congr 1
      unfold bstT; rw [h2]; simp
    rw [e, isz_bst] at *
    cases hbb : bst a with
    | none => rw [hbb] at hz; cases hz
    | some m => unfold ldO ldP; rw [hbb]; rfl
theorem coeff_loop {f : Nat → Term → Unit → Option (Lp Unit Int)} {m : Nat} (hf : ∀ i t s, f i t s = bif t.mono == ((m : Nat) : Int) then some (.rt t.coeff) else some (.nx ())) :
    ∀ {a : List Int} {i k : Nat}, i + a.length ≤ 1000000 → forLFrom f (spF i a) k () = some (if i ≤ m ∧ co a (m - i) ≠ 0 then .rt (co a (m - i)) else .go ()) := by
  intro a
  induction a with
  | nil => intro i k _; simp [spF, forLFrom, co]
  | cons y a ih =>
    intro i k hl
    simp only [List.length_cons] at hl
    have hs : ∀ n, co (y :: a) (n + 1) = co a n := fun n => by simp [co]
    have h0 : co (y :: a) 0 = y := by simp [co]
    have hrest : m ≠ i → (if i ≤ m ∧ co (y :: a) (m - i) ≠ 0 then (Rs.rt (co (y :: a) (m - i)) : Rs Unit Int) else .go ()) = if i + 1 ≤ m ∧ co a (m - (i + 1)) ≠ 0 then .rt (co a (m - (i + 1))) else .go () := by
      intro hne
      by_cases hle : i ≤ m
      · rw [show m - i = (m - (i + 1)) + 1 by omega, hs]
        by_cases hc : co a (m - (i + 1)) = 0
        · simp [hc]
        · rw [if_pos ⟨hle, hc⟩, if_pos ⟨by omega, hc⟩]
      · rw [if_neg (by omega), if_neg (by omega)]
    unfold spF
    cases hy : y == 0 with
    | true =>
      rw [cond_true, ih (by omega)]
      by_cases hmi : m = i
      · subst hmi
        rw [if_neg (by omega), Nat.sub_self, h0]
        rw [beq_iff_eq] at hy
        simp [hy]
      · rw [hrest hmi]
    | false =>
      rw [cond_false]
      simp only [forLFrom]
      rw [hf]
      by_cases hmi : m = i
      · subst hmi
        rw [show (((⟨((m : Nat) : Int), y⟩ : Term)).mono == ((m : Nat) : Int)) = true by simp, cond_true, Nat.sub_self, h0]
        have : y ≠ 0 := by simpa using hy
        rw [if_pos ⟨Nat.le_refl _, this⟩]
      · rw [show (((⟨((i : Nat) : Int), y⟩ : Term)).mono == ((m : Nat) : Int)) = false by simp; omega, cond_false]
        simp only
        rw [ih (by omega), hrest hmi]
theorem spec_l20Coeff_eq {a : List Int} (ha : a.length ≤ 64) (m : Nat) : spec_l20Coeff (sp a) ((m : Nat) : Int) = some (co a m) := by
  unfold spec_l20Coeff
  have := coeff_loop (m := m) (f := (fun i22 y21 s22 => (bif (y21.mono == ((m : Nat) : Int)) then some (Lp.rt y21.coeff) else some (Lp.nx ())))) (fun _ _ _ => rfl) (a := a) (i := 0) (k := 0) (by omega)
  unfold forL sp
  rw [this]
  by_cases hc : co a m = 0
  · simp [hc]
  · rw [if_pos ⟨by omega, by simpa using hc⟩, bdR_rt]; simp
/-! inverses -/
def iv (p c : Int) : Int := bif c == 1 then 1 else bif p == 3 then 2 else bif c == 2 then 3 else bif c == 3 then 2 else 4
theorem pc_cases {p c : Int} (hp : p = 2 ∨ p = 3 ∨ p = 5) (h0 : 0 < c) (h1 : c < p) : (p = 2 ∧ c = 1) ∨ (p = 3 ∧ c = 1) ∨ (p = 3 ∧ c = 2) ∨ (p = 5 ∧ c = 1) ∨ (p = 5 ∧ c = 2) ∨ (p = 5 ∧ c = 3) ∨ (p = 5 ∧ c = 4) := by omega
theorem iv_inv {p : Int} {N : Nat} (hp : p = 2 ∨ p = 3 ∨ p = 5) (h1 : 1 < p) : Go.La.Inv (ctx p N h1) (iv p) := by
  intro c h0 hlt
  rcases pc_cases hp h0 hlt with ⟨rfl, rfl⟩ | ⟨rfl, rfl⟩ | ⟨rfl, rfl⟩ | ⟨rfl, rfl⟩ | ⟨rfl, rfl⟩ | ⟨rfl, rfl⟩ | ⟨rfl, rfl⟩
  · exact (by decide : (2 : Int) ∣ iv 2 1 * 1 - 1)
  · exact (by decide : (3 : Int) ∣ iv 3 1 * 1 - 1)
  · exact (by decide : (3 : Int) ∣ iv 3 2 * 2 - 1)
  · exact (by decide : (5 : Int) ∣ iv 5 1 * 1 - 1)
  · exact (by decide : (5 : Int) ∣ iv 5 2 * 2 - 1)
  · exact (by decide : (5 : Int) ∣ iv 5 3 * 3 - 1)
  · exact (by decide : (5 : Int) ∣ iv 5 4 * 4 - 1)
theorem iv_bd {p c : Int} (hp : p = 2 ∨ p = 3 ∨ p = 5) (h0 : 0 < c) (h1 : c < p) : 0 ≤ iv p c ∧ iv p c ≤ 5 := by
  rcases pc_cases hp h0 h1 with ⟨rfl, rfl⟩ | ⟨rfl, rfl⟩ | ⟨rfl, rfl⟩ | ⟨rfl, rfl⟩ | ⟨rfl, rfl⟩ | ⟨rfl, rfl⟩ | ⟨rfl, rfl⟩ <;> decide
theorem spec_l20Inverse_eq {p c : Int} (hp : p = 2 ∨ p = 3 ∨ p = 5) (h0 : 0 < c) (h1 : c < p) : spec_l20Inverse p c = some (iv p c) := by
  unfold spec_l20Inverse
  rcases pc_cases hp h0 h1 with ⟨rfl, rfl⟩ | ⟨rfl, rfl⟩ | ⟨rfl, rfl⟩ | ⟨rfl, rfl⟩ | ⟨rfl, rfl⟩ | ⟨rfl, rfl⟩ | ⟨rfl, rfl⟩
  · rw [iter_bk (s' := 1) (by rfl)]; rfl
  · rw [iter_bk (s' := 1) (by rfl)]; rfl
  · rw [iter_nx (s' := 2) (by rfl), iter_bk (s' := 2) (by rfl)]; rfl
  · rw [iter_bk (s' := 1) (by rfl)]; rfl
  · rw [iter_nx (s' := 2) (by rfl), iter_nx (s' := 3) (by rfl), iter_bk (s' := 3) (by rfl)]; rfl
  · rw [iter_nx (s' := 2) (by rfl), iter_bk (s' := 2) (by rfl)]; rfl
  · rw [iter_nx (s' := 2) (by rfl), iter_nx (s' := 3) (by rfl), iter_nx (s' := 4) (by rfl), iter_bk (s' := 4) (by rfl)]; rfl
theorem impl_ring_inverse_eq {p v c : Int} (hp : p = 2 ∨ p = 3 ∨ p = 5) (h0 : 0 < c) (h1 : c < p) : impl_ring_inverse ⟨p, v⟩ c = some (iv p c) := by
  unfold impl_ring_inverse
  rcases pc_cases hp h0 h1 with ⟨rfl, rfl⟩ | ⟨rfl, rfl⟩ | ⟨rfl, rfl⟩ | ⟨rfl, rfl⟩ | ⟨rfl, rfl⟩ | ⟨rfl, rfl⟩ | ⟨rfl, rfl⟩
  · rw [iter_rt (x := 1) (by rfl)]; rfl
  · rw [iter_rt (x := 1) (by rfl)]; rfl
  · rw [iter_nx (s' := 2) (by rfl), iter_rt (x := 2) (by rfl)]; rfl
  · rw [iter_rt (x := 1) (by rfl)]; rfl
  · rw [iter_nx (s' := 2) (by rfl), iter_nx (s' := 3) (by rfl), iter_rt (x := 3) (by rfl)]; rfl
  · rw [iter_nx (s' := 2) (by rfl), iter_rt (x := 2) (by rfl)]; rfl
  · rw [iter_nx (s' := 2) (by rfl), iter_nx (s' := 3) (by rfl), iter_nx (s' := 4) (by rfl), iter_rt (x := 4) (by rfl)]; rfl
end Go.PF
namespace Go.PF
open Go.Pu
open Go.La (vadd co V Ctx Red redL red1 row1 monic isz putS putAll ins Srt lk fixG)
abbrev cx {p v : Int} (h : PV p v) : Ctx := ctx p (nN v) h.pos.1
theorem iter_sim {σ α T X : Type} {xs : List α} {body : T → Option (Lp T X)} {F : σ → α → σ} (P : Nat → σ → T → Prop) (Q : σ → T → Prop) {s0 : σ} {t0 : T} (h0 : P 0 s0 t0)
    (h : ∀ i x s t, xs[i]? = some x → P i s t → ∃ t', body t = some (.nx t') ∧ P (i + 1) (F s x) t') (he : ∀ s t, P xs.length s t → ∃ t', body t = some (.bk t') ∧ Q s t') :
    ∃ t', iter body t0 = some (.go t') ∧ Q (xs.foldl F s0) t' := by
  have key : ∀ (m : List α) (k : Nat) (s : σ) (t : T), k + m.length = xs.length → (∀ i y, m[i]? = some y → xs[k + i]? = some y) → P k s t → ∃ t', iter body t = some (.go t') ∧ Q (m.foldl F s) t' := by
    intro m
    induction m with
    | nil =>
      intro k s t hk _ hI
      simp only [List.length_nil, Nat.add_zero] at hk
      subst hk
      obtain ⟨t', h1, h2⟩ := he s t hI
      exact ⟨t', iter_bk h1, h2⟩
    | cons y m ih =>
      intro k s t hk hm hI
      obtain ⟨t', h1, h2⟩ := h k y s t (by have := hm 0 y rfl; simpa using this) hI
      rw [iter_nx h1]
      exact ih (k + 1) (F s y) t' (by simp at hk; omega) (fun i z hz => by have := hm (i + 1) z (by simpa using hz); rwa [show k + (i + 1) = k + 1 + i by omega] at this) h2
  exact key xs 0 s0 t0 (by simp) (by simp) h0
theorem rounds {X T Y : Type} {body : T → Option (Lp T Y)} {f : List X → List X} {n : Nat} (P : List X → Bool → T → Prop) (h : ∀ R t, P R true t → ∃ t', body t = some (.nx t') ∧ P (f R) (decide (R.length < (f R).length)) t')
    (he : ∀ R t, P R false t → body t = some (.bk t)) (hn : ∀ R b t, P R b t → R.length ≤ n) : ∀ (k : Nat) (R : List X) (t : T), P R true t → n < R.length + k → ∃ t', iter body t = some (.go t') ∧ P (fixG f k R) false t' := by
  intro k
  induction k with
  | zero => intro R t hP hk; have := hn R true t hP; omega
  | succ k ih =>
    intro R t hP hk
    obtain ⟨t', h1, h2⟩ := h R t hP
    rw [iter_nx h1]
    unfold fixG
    cases hd : decide (R.length < (f R).length) with
    | true =>
      rw [hd] at h2
      rw [decide_eq_true_iff] at hd
      exact ih (f R) t' h2 (by omega)
    | false =>
      rw [hd] at h2
      exact ⟨t', iter_bk (he _ _ h2), h2⟩
/-! rows -/
theorem Red.nz {C : Ctx} {R : List (List Int)} (hR : Red C R) {r : List Int} (hr : r ∈ R) : isz r = false := by
  cases hz : isz r with
  | false => rfl
  | true => exact absurd (Go.La.isz_iff.1 hz _) (hR.nzr hr)
theorem cx_ld {p v : Int} (h : PV p v) (a : List Int) : (cx h).ld a = ldP a := rfl
theorem v64 {p v : Int} (h : PV p v) {a : List Int} (ha : V p (nN v) a) : a.length ≤ 64 := by rw [ha.len]; exact (nN_le h.v6).2
theorem redL_rev {C : Ctx} {R : List (List Int)} (h : Red C R) {a : List Int} (ha : V C.p C.N a) : redL C R.reverse a = redL C R a := (Go.La.redL_perm h R.reverse_perm.symm ha).symm
theorem wr_pc {p c : Int} (hp : 1 < p ∧ p ≤ 5) (hc : 0 ≤ c ∧ c < p) : wr (p - c) = p - c ∧ 0 ≤ p - c ∧ p - c ≤ 5 := ⟨wr_sm (by omega) (by omega), by omega, by omega⟩
theorem spec_l20Rest_eq {p v : Int} (h : PV p v) {R : List (List Int)} (hR : Red (cx h) R) {a : List Int} (ha : V p (nN v) a) : spec_l20Rest p v (R.map sp) (sp a) = some (sp (redL (cx h) R a)) := by
  have hp := h.pos
  have hlen : R.length ≤ 64 := Nat.le_trans hR.len (nN_le h.v6).2
  rw [← redL_rev hR ha]
  unfold spec_l20Rest
  have key : ∀ (k : Nat) (a : List Int), k ≤ R.length → V p (nN v) a → iter (S := ((List Term) × Int)) (X := Empty) (fun s21 => (bif (decide (0 ≤ s21.2)) then bd (ix (R.map sp) s21.2) (fun x98 => bd (PF.spec_l20Lead x98) (fun r102 => bd (PF.spec_l20Coeff s21.1 r102) (fun r107 => (bif (!(r107 == 0)) then bd (ix (R.map sp) s21.2) (fun x119 => bd (PF.spec_l18Add p v s21.1 x119 (wr (p - r107))) (fun r123 => some (Lp.nx (r123, (wr (s21.2 - 1)))))) else some (Lp.nx (s21.1, (wr (s21.2 - 1)))))))) else some (Lp.bk (s21.1, s21.2)))) (sp a, (k : Int) - 1) = some (.go (sp (redL (cx h) (R.take k).reverse a), -1)) := by
    intro k
    induction k with
    | zero => intro a _ _; exact iter_bk (by simp [redL])
    | succ k ih =>
      intro a hk hv
      obtain ⟨r, hr⟩ : ∃ r, R[k]? = some r := ⟨_, List.getElem?_eq_getElem (by omega)⟩
      have hm := List.mem_of_getElem? hr
      have hrv : V p (nN v) r := hR.vec r hm
      have hx : ix (R.map sp) (((k + 1 : Nat) : Int) - 1) = some (sp r) := by
        rw [show ((k + 1 : Nat) : Int) - 1 = ((k : Nat) : Int) by omega]
        exact ix_nat (by simp [hr])
      have hd : decide (0 ≤ (sp a, ((k + 1 : Nat) : Int) - 1).2) = true := by rw [decide_eq_true_iff]; simp only; omega
      have hw : wr (((k + 1 : Nat) : Int) - 1 - 1) = (k : Int) - 1 := by rw [wr_sm (by omega) (by omega)]; omega
      have hc := hv.bd (ldP r)
      obtain ⟨w1, w2, w3⟩ := wr_pc hp hc
      rw [iter_nx (s' := (sp (red1 (cx h) a r), (k : Int) - 1)) (by
        simp only
        rw [hd, cond_true, hx, bd_some, spec_l20Lead_eq (v64 h hrv) (Red.nz hR hm), bd_some, spec_l20Coeff_eq (v64 h hv), bd_some]
        unfold red1
        rw [show (cx h).ld r = ldP r from rfl]
        cases co a (ldP r) == 0 with
        | true => simp only [Bool.not_true, cond_false, cond_true, hw]
        | false =>
          simp only [Bool.not_false, cond_true, cond_false, bd_some, w1]
          rw [spec_l18Add_eq h ⟨w2, w3⟩ (dn_of_v hv) (dn_of_v hrv), bd_some, hw]
          rfl)]
      rw [ih _ (by omega) (Go.La.red1_V (C := cx h) hv hrv)]
      have e : (R.take (k + 1)).reverse = r :: (R.take k).reverse := by
        rw [List.take_add_one, hr]; simp
      rw [e]; rfl
  have := key R.length a (Nat.le_refl _) ha
  rw [List.take_length] at this
  have e : wr (len (R.map sp) - 1) = (R.length : Int) - 1 := by rw [len_eq, List.length_map]; exact wr_sm (by omega) (by omega)
  rw [e, this, bdR_go]
theorem isz_len {a : List Int} : (len (sp a) == 0) = isz a := by
  rw [len_eq]
  cases hz : isz a with
  | true => rw [sp_nil.2 hz]; rfl
  | false =>
    have : sp a ≠ [] := fun e => by rw [sp_nil.1 e] at hz; cases hz
    have : (sp a).length ≠ 0 := fun e => this (List.length_eq_zero_iff.1 e)
    exact beq_eq_false_iff_ne.2 (by omega)
theorem put_loop2 {p v : Int} (h : PV p v) {new : List Int} (hn : V p (nN v) new) {f : Nat → List Term → List (List Term) × Bool → Option (Lp (List (List Term) × Bool) Empty)}
    (hf : ∀ i y s, f i y s = bd (bif (!s.2) then bd (PF.spec_l20Lead y) (fun r294 => bd (PF.spec_l20Before ((ldP new : Nat) : Int) r294) (fun r299 => some r299)) else some false) (fun t279 => (bif t279 then bd (app s.1 [sp new]) (fun xs320 => bd (PF.spec_l20Coeff y ((ldP new : Nat) : Int)) (fun r339 => (bif (!(r339 == 0)) then bd (PF.spec_l18Add p v y (sp new) (wr (p - r339))) (fun r345 => bd (app xs320 [r345]) (fun xs366 => some (Lp.nx (xs366, true)))) else bd (app xs320 [y]) (fun xs382 => some (Lp.nx (xs382, true)))))) else bd (PF.spec_l20Coeff y ((ldP new : Nat) : Int)) (fun r401 => (bif (!(r401 == 0)) then bd (PF.spec_l18Add p v y (sp new) (wr (p - r401))) (fun r407 => bd (app s.1 [r407]) (fun xs428 => some (Lp.nx (xs428, s.2)))) else bd (app s.1 [y]) (fun xs444 => some (Lp.nx (xs444, s.2)))))))) :
    ∀ (R : List (List Int)) (i : Nat) (out : List (List Term)) (dn : Bool), out.length + 2 * R.length ≤ 1000000 → (∀ r ∈ R, V p (nN v) r ∧ isz r = false ∧ ldP (row1 (cx h) new r) = ldP r) → ldP new < 64 → (∀ r ∈ R, ldP r < 64) →
      ∃ o d, forLFrom f (R.map sp) i (out, dn) = some (.go (o, d)) ∧ o.length ≤ out.length + 2 * R.length ∧
        (bif dn then o = out ++ (R.map (row1 (cx h) new)).map sp ∧ d = true else (bif d then o else o ++ [sp new]) = out ++ (ins (cx h) new (R.map (row1 (cx h) new))).map sp) := by
  have hp := h.pos
  intro R
  induction R with
  | nil =>
    intro i out dn _ _ _ _
    refine ⟨out, dn, rfl, by simp, ?_⟩
    cases dn <;> simp [ins]
  | cons r R ih =>
    intro i out dn hl hR hnew hlt
    simp only [List.length_cons] at hl
    obtain ⟨hv, hz, hld⟩ := hR r (by simp)
    have hlt0 := hlt r (by simp)
    have hc := hv.bd (ldP new)
    obtain ⟨w1, w2, w3⟩ := wr_pc hp hc
    -- the row itself
    have hrow : ∀ (o : List (List Term)) (b : Bool), o.length ≤ 1000000 → bd (PF.spec_l20Coeff (sp r) ((ldP new : Nat) : Int)) (fun r401 => (bif (!(r401 == 0)) then bd (PF.spec_l18Add p v (sp r) (sp new) (wr (p - r401))) (fun r407 => bd (app o [r407]) (fun xs428 => some (Lp.nx (xs428, b)))) else bd (app o [sp r]) (fun xs444 => some (Lp.nx (xs444, b))))) = (some (Lp.nx (o ++ [sp (row1 (cx h) new r)], b)) : Option (Lp (List (List Term) × Bool) Empty)) := by
      intro o b ho
      rw [spec_l20Coeff_eq (v64 h hv), bd_some]
      unfold row1
      rw [show (cx h).ld new = ldP new from rfl]
      cases co r (ldP new) == 0 with
      | true => simp only [Bool.not_true, cond_false, cond_true]; rw [app_ok (by simp; unfold lim; omega), bd_some]
      | false =>
        simp only [Bool.not_false, cond_true, cond_false, w1]
        rw [spec_l18Add_eq h ⟨w2, w3⟩ (dn_of_v hv) (dn_of_v hn), bd_some, app_ok (by simp; unfold lim; omega), bd_some]
        rfl
    simp only [List.map_cons]
    cases dn with
    | true =>
      have hb : f i (sp r) (out, true) = some (.nx (out ++ [sp (row1 (cx h) new r)], true)) := by
        rw [hf]
        simp only [Bool.not_true, cond_false, bd_some]
        exact hrow out true (by omega)
      rw [forLFrom_nx hb]
      obtain ⟨o, d, h1, h2, h3⟩ := ih (i + 1) (out ++ [sp (row1 (cx h) new r)]) true (by simp; omega) (fun s hs => hR s (by simp [hs])) hnew (fun s hs => hlt s (by simp [hs]))
      refine ⟨o, d, h1, by simp at h2 ⊢; omega, ?_⟩
      simp only [cond_true] at h3 ⊢
      exact ⟨by rw [h3.1]; simp, h3.2⟩
    | false =>
      have hlk : (lk (cx h) new < lk (cx h) (row1 (cx h) new r)) ↔ ky (ldP new) < ky (ldP r) := by
        unfold lk
        rw [show (cx h).ld (row1 (cx h) new r) = ldP (row1 (cx h) new r) from rfl, hld]; rfl
      by_cases hk : ky (ldP new) < ky (ldP r)
      · have hb : f i (sp r) (out, false) = some (.nx (out ++ [sp new] ++ [sp (row1 (cx h) new r)], true)) := by
          rw [hf]
          simp only [Bool.not_false, cond_true]
          rw [spec_l20Lead_eq (v64 h hv) hz, bd_some, spec_l20Before_eq hnew hlt0]
          simp only [bd_some]
          rw [show decide (ky (ldP new) < ky (ldP r)) = true by simpa using hk, cond_true, app_ok (by simp; unfold lim; omega), bd_some]
          exact hrow _ true (by simp; omega)
        rw [forLFrom_nx hb]
        obtain ⟨o, d, h1, h2, h3⟩ := ih (i + 1) (out ++ [sp new] ++ [sp (row1 (cx h) new r)]) true (by simp; omega) (fun s hs => hR s (by simp [hs])) hnew (fun s hs => hlt s (by simp [hs]))
        refine ⟨o, d, h1, by simp at h2 ⊢; omega, ?_⟩
        simp only [cond_true] at h3
        simp only [cond_false]
        rw [h3.2, h3.1]
        unfold ins
        rw [show decide (lk (cx h) new < lk (cx h) (row1 (cx h) new r)) = true by rw [decide_eq_true_iff, hlk]; exact hk]
        simp
      · have hb : f i (sp r) (out, false) = some (.nx (out ++ [sp (row1 (cx h) new r)], false)) := by
          rw [hf]
          simp only [Bool.not_false, cond_true]
          rw [spec_l20Lead_eq (v64 h hv) hz, bd_some, spec_l20Before_eq hnew hlt0]
          simp only [bd_some]
          rw [show decide (ky (ldP new) < ky (ldP r)) = false by simpa using hk, cond_false]
          exact hrow _ false (by omega)
        rw [forLFrom_nx hb]
        obtain ⟨o, d, h1, h2, h3⟩ := ih (i + 1) (out ++ [sp (row1 (cx h) new r)]) false (by simp; omega) (fun s hs => hR s (by simp [hs])) hnew (fun s hs => hlt s (by simp [hs]))
        refine ⟨o, d, h1, by simp at h2 ⊢; omega, ?_⟩
        simp only [cond_false] at h3 ⊢
        rw [h3]
        conv => rhs; unfold ins
        rw [show decide (lk (cx h) new < lk (cx h) (row1 (cx h) new r)) = false by rw [decide_eq_false_iff_not, hlk]; exact hk]
        simp
theorem spec_l20Put_eq {p v : Int} (h : PV p v) {R : List (List Int)} (hR : Red (cx h) R) {a : List Int} (ha : V p (nN v) a) :
    spec_l20Put p v (R.map sp) (sp a) = some ((putS (cx h) (iv p) R a).map sp, !isz (redL (cx h) R a)) := by
  have hp := h.pos; have hN := nN_le h.v6
  have hlen : R.length ≤ 64 := Nat.le_trans hR.len hN.2
  unfold spec_l20Put putS
  rw [spec_l20Rest_eq h hR ha, bd_some, isz_len]
  cases hz : isz (redL (cx h) R a) with
  | true => rfl
  | false =>
    have hF := Go.La.fresh (iv_inv h.p1 hp.1) hR ha hz
    have hv : V p (nN v) (redL (cx h) R a) := hF.vec
    have hb : 0 < co (redL (cx h) R a) (ldP (redL (cx h) R a)) ∧ co (redL (cx h) R a) (ldP (redL (cx h) R a)) < p := hF.bd
    have hld : ldP (monic (cx h) (iv p (co (redL (cx h) R a) (ldP (redL (cx h) R a)))) (redL (cx h) R a)) = ldP (redL (cx h) R a) := hF.ld
    have hnew : Go.La.New (cx h) R (monic (cx h) (iv p (co (redL (cx h) R a) (ldP (redL (cx h) R a)))) (redL (cx h) R a)) := hF.new
    clear hF
    simp only [cond_false, cx_ld]
    generalize redL (cx h) R a = rest at *
    rw [spec_l20Lead_eq (v64 h hv) hz, bd_some, spec_l20Coeff_eq (v64 h hv), bd_some, spec_l20Inverse_eq h.p1 hb.1 hb.2, bd_some]
    obtain ⟨b1, b2⟩ := iv_bd h.p1 hb.1 hb.2
    rw [spec_l18Add_dense h ⟨b1, b2⟩ (spec_l18Dense_nil h.v0 h.v6) (spec_l18Dense_eq h.v0 h.v6 hv.len) (zs_Dn hp.1) (dn_of_v hv), bd_some]
    rw [show (vadd p (iv p (co rest (ldP rest))) (zs (nN v)) rest) = monic (cx h) (iv p (co rest (ldP rest))) rest from rfl]
    have hnv : V p (nN v) (monic (cx h) (iv p (co rest (ldP rest))) rest) := hnew.vec
    have hone := hnew.one
    generalize monic (cx h) (iv p (co rest (ldP rest))) rest = new at *
    rw [← hld]
    have hlt : ∀ r, V p (nN v) r → co r (ldP r) ≠ 0 → ldP r < 64 := fun r hr hne => by
      have : ldP r < r.length := Classical.byContradiction fun hno => hne (Go.La.co_ge (by omega))
      have := v64 h hr
      omega
    obtain ⟨o, d, h1, h2, h3⟩ := put_loop2 h hnv (f := (fun i78 y72 s78 => bd (bif (!s78.2) then bd (PF.spec_l20Lead y72) (fun r294 => bd (PF.spec_l20Before ((ldP new : Nat) : Int) r294) (fun r299 => some r299)) else some false) (fun t279 => (bif t279 then bd (app s78.1 [sp new]) (fun xs320 => bd (PF.spec_l20Coeff y72 ((ldP new : Nat) : Int)) (fun r339 => (bif (!(r339 == 0)) then bd (PF.spec_l18Add p v y72 (sp new) (wr (p - r339))) (fun r345 => bd (app xs320 [r345]) (fun xs366 => some (Lp.nx (xs366, true)))) else bd (app xs320 [y72]) (fun xs382 => some (Lp.nx (xs382, true)))))) else bd (PF.spec_l20Coeff y72 ((ldP new : Nat) : Int)) (fun r401 => (bif (!(r401 == 0)) then bd (PF.spec_l18Add p v y72 (sp new) (wr (p - r401))) (fun r407 => bd (app s78.1 [r407]) (fun xs428 => some (Lp.nx (xs428, s78.2)))) else bd (app s78.1 [y72]) (fun xs444 => some (Lp.nx (xs444, s78.2))))))))) (fun _ _ _ => by rfl)
      R 0 [] false (by simp; omega) (fun r hr => ⟨hR.vec r hr, Red.nz hR hr, Go.La.row1_ld hR hnew hr⟩) (hlt new hnv (by rw [show ldP new = (cx h).ld new from rfl, hone]; decide)) (fun r hr => hlt r (hR.vec r hr) (hR.nzr hr))
    unfold forL
    rw [h1, bdR_go]
    simp only [cond_false] at h3
    simp only [List.length_nil] at h2
    cases d with
    | true =>
      simp only [cond_true] at h3
      rw [h3]; simp
    | false =>
      simp only [cond_false] at h3
      simp only [Bool.not_false, cond_true]
      rw [app_ok (by simp; unfold lim; omega), bd_some, h3]; simp
/-! rounds -/
def timesV (p v : Int) (r : List Int) (j : Nat) : List Int := mulT p (nN v) (sp r) (sp (litD p (nN v) ((j : Int) + 1)))
def prodsR (p v d : Int) (r : List Int) : List (List Int) := bif decide (dgI r < d) then (List.range v.toNat).map (timesV p v r) else []
def prodsL (p v d : Int) (R : List (List Int)) : List (List Int) := R.flatMap (prodsR p v d)
theorem prodsR_V {p v d : Int} (h : PV p v) (r : List Int) : ∀ a ∈ prodsR p v d r, V p (nN v) a := by
  intro a ha
  unfold prodsR at ha
  cases hd : decide (dgI r < d) with
  | true =>
    rw [hd] at ha
    obtain ⟨j, _, rfl⟩ := List.mem_map.1 ha
    exact (mulT_Dn h.pos.1 _ _).v h.pos.1
  | false => rw [hd] at ha; cases ha
theorem prodsL_V {p v d : Int} (h : PV p v) (R : List (List Int)) : ∀ a ∈ prodsL p v d R, V p (nN v) a := by
  intro a ha
  obtain ⟨r, _, h2⟩ := List.mem_flatMap.1 ha
  exact prodsR_V h r a h2
theorem prodsL_mem {p v d : Int} {R S : List (List Int)} (hp : R.Perm S) (a : List Int) : a ∈ prodsL p v d R ↔ a ∈ prodsL p v d S := by
  unfold prodsL
  rw [List.mem_flatMap, List.mem_flatMap]
  constructor
  · rintro ⟨r, h1, h2⟩; exact ⟨r, hp.mem_iff.1 h1, h2⟩
  · rintro ⟨r, h1, h2⟩; exact ⟨r, hp.mem_iff.2 h1, h2⟩
def stepF (C : Ctx) (pf : List (List Int) → List Int → List (List Int)) (s : List (List Int) × Bool) (a : List Int) : List (List Int) × Bool := (pf s.1 a, bif s.2 then true else !isz (redL C s.1 a))
theorem stepF_fold {C : Ctx} {pf : List (List Int) → List Int → List (List Int)} (hl : ∀ R a, (pf R a).length = R.length + (bif isz (redL C R a) then 0 else 1)) : ∀ {as : List (List Int)} {R : List (List Int)} {b : Bool},
    as.foldl (stepF C pf) (R, b) = (as.foldl pf R, bif b then true else decide (R.length < (as.foldl pf R).length)) ∧ R.length ≤ (as.foldl pf R).length := by
  intro as
  induction as with
  | nil => intro R b; simp
  | cons a as ih =>
    intro R b
    obtain ⟨h1, h2⟩ := ih (R := pf R a) (b := bif b then true else !isz (redL C R a))
    have hla := hl R a
    rw [List.foldl_cons, List.foldl_cons]
    refine ⟨?_, by omega⟩
    have e : stepF C pf (R, b) a = (pf R a, bif b then true else !isz (redL C R a)) := rfl
    rw [e, h1]
    congr 1
    cases b with
    | true => rfl
    | false =>
      simp only [cond_false]
      cases hz : isz (redL C R a) with
      | true =>
        rw [hz] at hla
        simp only [cond_true] at hla
        simp only [Bool.not_true, cond_false]
        rw [show (pf R a).length = R.length by omega]
      | false =>
        rw [hz] at hla
        simp only [cond_false] at hla
        simp only [Bool.not_false, cond_true]
        rw [eq_comm, decide_eq_true_iff]; omega
theorem putS_len {C : Ctx} {i : Int → Int} (R : List (List Int)) (a : List Int) : (putS C i R a).length = R.length + (bif isz (redL C R a) then 0 else 1) := by
  rw [Go.La.putS_perm.length_eq, Go.La.add1_len]
end Go.PF
namespace Go.PF
open Go.Pu
open Go.La (vadd co V Ctx Red redL isz putS putAll Srt fixG)
def qsL (p v d : Int) (cs : List (List Int)) : List (List Int) := (cs.filter fun c => decide (len c ≤ d)).map (clD p (nN v))
theorem qsL_V {p v d : Int} (h : PV p v) (cs : List (List Int)) : ∀ a ∈ qsL p v d cs, V p (nN v) a := by
  intro a ha
  obtain ⟨c, _, rfl⟩ := List.mem_map.1 ha
  exact (clD_Dn h.pos.1 c).v h.pos.1
def basS {p v : Int} (h : PV p v) (d : Int) (cs : List (List Int)) : List (List Int) :=
  fixG (fun R => putAll (cx h) (iv p) R (prodsL p v d R)) 65 (putAll (cx h) (iv p) [] (qsL p v d cs))
theorem qs_fold {pf : List (List Int) → List Int → List (List Int)} {p v d : Int} : ∀ {cs : List (List Int)} {R : List (List Int)}, cs.foldl (fun R c => bif decide (len c ≤ d) then pf R (clD p (nN v) c) else R) R = (qsL p v d cs).foldl pf R := by
  intro cs
  induction cs with
  | nil => intro R; rfl
  | cons c cs ih =>
    intro R
    rw [List.foldl_cons, ih]
    unfold qsL
    rw [List.filter_cons]
    cases decide (len c ≤ d) <;> rfl
theorem prodsR_get {p v d : Int} (h : PV p v) {r : List Int} {j : Nat} {a : List Int} (ha : (prodsR p v d r)[j]? = some a) : dgI r < d ∧ (j : Int) + 1 ≤ v ∧ a = timesV p v r j := by
  unfold prodsR at ha
  cases hd : decide (dgI r < d) with
  | true =>
    rw [hd] at ha
    simp only [cond_true] at ha
    rw [List.getElem?_map] at ha
    obtain ⟨k, h1, h2⟩ := Option.map_eq_some_iff.1 ha
    obtain ⟨h3, h4⟩ := List.getElem?_eq_some_iff.1 h1
    rw [List.getElem_range] at h4
    rw [List.length_range] at h3
    subst h4
    exact ⟨by simpa using hd, by have := h.v0; omega, h2.symm⟩
  | false => rw [hd] at ha; simp at ha
theorem prodsR_end {p v d : Int} (h : PV p v) (r : List Int) : (dgI r < d ∧ ((prodsR p v d r).length : Int) = v) ∨ (¬ dgI r < d ∧ (prodsR p v d r).length = 0) := by
  unfold prodsR
  by_cases hd : dgI r < d
  · rw [show decide (dgI r < d) = true by simpa using hd]
    exact .inl ⟨hd, by have := h.v0; simp; omega⟩
  · rw [show decide (dgI r < d) = false by simpa using hd]
    exact .inr ⟨hd, rfl⟩
theorem spec_l20Basis_eq {p : Int} {F : Cnf} (h : PV p F.vars) (hF : cnfB F = true) (d : Int) : spec_l20Basis p F d = some ((basS h d F.clauses).map sp) := by
  have hp := h.pos; have hN := nN_le h.v6; have h0 := h.v0; have h6 := h.v6
  have hiv := iv_inv (N := nN F.vars) h.p1 hp.1
  obtain ⟨hcl, hcs⟩ := cnf_bds hF
  unfold spec_l20Basis
  -- the clauses
  obtain ⟨t1, e1, q1⟩ := iter_sim (xs := F.clauses) (X := Empty) (F := fun R c => bif decide (len c ≤ d) then putS (cx h) (iv p) R (clD p (nN F.vars) c) else R)
    (body := (fun s40 => (bif (decide (s40.2 < (len F.clauses))) then bd (ix F.clauses s40.2) (fun x60094 => (bif (decide ((len x60094) ≤ d)) then bd (ix F.clauses s40.2) (fun x93105 => bd (PF.spec_l18Clause p F.vars x93105) (fun r99099 => bd (PF.spec_l20Put p F.vars s40.1 r99099) (fun r102104 => some (Lp.nx (r102104.1, (wr (s40.2 + 1))))))) else some (Lp.nx (s40.1, (wr (s40.2 + 1)))))) else some (Lp.bk (s40.1, s40.2)))))
    (fun i R t => t = (R.map sp, ((i : Nat) : Int)) ∧ Red (cx h) R) (fun R t => (∃ k, t = (R.map sp, k)) ∧ Red (cx h) R) (s0 := []) (t0 := ([], 0)) ⟨rfl, .nil⟩ (fun i c R t hc hP => by
      obtain ⟨rfl, hR⟩ := hP
      obtain ⟨hi, hci⟩ := List.getElem?_eq_some_iff.1 hc
      have hx : ix F.clauses ((i : Nat) : Int) = some c := ix_nat hc
      have hC := hcs c (List.mem_of_getElem? hc)
      have hcv : V p (nN F.vars) (clD p (nN F.vars) c) := (clD_Dn hp.1 c).v hp.1
      simp only
      rw [show decide (((i : Nat) : Int) < len F.clauses) = true by rw [decide_eq_true_iff, len_eq]; omega, cond_true, hx, bd_some, wr_sm (show -1000000 ≤ ((i : Nat) : Int) + 1 by omega) (by omega)]
      cases decide (len c ≤ d) with
      | true =>
        simp only [cond_true, bd_some]
        rw [spec_l18Clause_eq h hC, bd_some, spec_l20Put_eq h hR hcv, bd_some]
        exact ⟨_, rfl, by simp, Go.La.putS_red hiv hR hcv⟩
      | false => exact ⟨_, rfl, by simp, hR⟩) (fun R t hP => by
      obtain ⟨rfl, hR⟩ := hP
      refine ⟨(R.map sp, ((F.clauses.length : Nat) : Int)), ?_, ⟨_, rfl⟩, hR⟩
      simp only
      rw [show decide (((F.clauses.length : Nat) : Int) < len F.clauses) = false by rw [decide_eq_false_iff_not, len_eq]; omega]
      rfl)
  rw [qs_fold (pf := putS (cx h) (iv p))] at q1
  obtain ⟨⟨k1, rfl⟩, hR1⟩ := q1
  rw [e1, bdR_go]
  -- the rounds
  have hst := fun (R : List (List Int)) (as : List (List Int)) (b : Bool) => stepF_fold (C := cx h) (pf := putS (cx h) (iv p)) putS_len (as := as) (R := R) (b := b)
  obtain ⟨t2, e2, q2⟩ := rounds (X := List Int) (Y := Empty) (n := 64) (f := fun R => putAll (cx h) (iv p) R (prodsL p F.vars d R))
    (body := (fun s120122 => (bif s120122.2 then bd (app [] s120122.1) (fun xs183324 => bdR (iter (S := ((List (List Term)) × Bool × Int)) (X := Empty) (fun s183334 => (bif (decide (s183334.2.2 < (len xs183324))) then bdR (iter (S := ((List (List Term)) × Bool × Int)) (X := Empty) (fun s246482 => bd (bif (decide (s246482.2.2 ≤ F.vars)) then bd (ix xs183324 s183334.2.2) (fun x309617 => bd (PF.spec_l18Degree x309617) (fun r309621 => some (decide (r309621 < d)))) else some false) (fun t309604 => (bif t309604 then bd (ix xs183324 s183334.2.2) (fun x339642 => bd (PF.spec_l20Times p F.vars x339642 s246482.2.2) (fun r348636 => bd (PF.spec_l20Put p F.vars s246482.1 r348636) (fun r351641 => some (Lp.nx (r351641.1, (bif s246482.2.1 then true else r351641.2), (wr (s246482.2.2 + 1))))))) else some (Lp.bk (s246482.1, s246482.2.1, s246482.2.2))))) (s183334.1, s183334.2.1, 1)) (fun s246482 => some (Lp.nx (s246482.1, s246482.2.1, (wr (s183334.2.2 + 1))))) (fun x246482 => nomatch x246482) else some (Lp.bk (s183334.1, s183334.2.1, s183334.2.2)))) (s120122.1, false, 0)) (fun s183334 => some (Lp.nx (s183334.1, s183334.2.1))) (fun x183334 => nomatch x183334)) else some (Lp.bk (s120122.1, s120122.2)))))
    (fun R b t => t = (R.map sp, b) ∧ Red (cx h) R) (fun R t hP => by
      obtain ⟨rfl, hR⟩ := hP
      have hRl : R.length ≤ 64 := Nat.le_trans hR.len hN.2
      simp only [cond_true]
      rw [app_ok (by simp; unfold lim; omega), bd_some, List.nil_append]
      obtain ⟨t3, e3, q3⟩ := iter_sim (xs := R) (X := Empty) (F := fun s r => (prodsR p F.vars d r).foldl (stepF (cx h) (putS (cx h) (iv p))) s)
        (body := (fun s183334 => (bif (decide (s183334.2.2 < (len (R.map sp)))) then bdR (iter (S := ((List (List Term)) × Bool × Int)) (X := Empty) (fun s246482 => bd (bif (decide (s246482.2.2 ≤ F.vars)) then bd (ix (R.map sp) s183334.2.2) (fun x309617 => bd (PF.spec_l18Degree x309617) (fun r309621 => some (decide (r309621 < d)))) else some false) (fun t309604 => (bif t309604 then bd (ix (R.map sp) s183334.2.2) (fun x339642 => bd (PF.spec_l20Times p F.vars x339642 s246482.2.2) (fun r348636 => bd (PF.spec_l20Put p F.vars s246482.1 r348636) (fun r351641 => some (Lp.nx (r351641.1, (bif s246482.2.1 then true else r351641.2), (wr (s246482.2.2 + 1))))))) else some (Lp.bk (s246482.1, s246482.2.1, s246482.2.2))))) (s183334.1, s183334.2.1, 1)) (fun s246482 => some (Lp.nx (s246482.1, s246482.2.1, (wr (s183334.2.2 + 1))))) (fun x246482 => nomatch x246482) else some (Lp.bk (s183334.1, s183334.2.1, s183334.2.2)))))
        (fun i s t => t = (s.1.map sp, s.2, ((i : Nat) : Int)) ∧ Red (cx h) s.1) (fun s t => (∃ k, t = (s.1.map sp, s.2, k)) ∧ Red (cx h) s.1) (s0 := (R, false)) (t0 := (R.map sp, false, 0)) ⟨rfl, hR⟩ (fun i r s t hr hP => by
          obtain ⟨rfl, hS⟩ := hP
          obtain ⟨hi, _⟩ := List.getElem?_eq_some_iff.1 hr
          have hx : ix (R.map sp) ((i : Nat) : Int) = some (sp r) := ix_nat (by rw [List.getElem?_map, hr]; rfl)
          have hrv : V p (nN F.vars) r := hR.vec r (List.mem_of_getElem? hr)
          simp only
          rw [show decide (((i : Nat) : Int) < len (R.map sp)) = true by rw [decide_eq_true_iff, len_eq, List.length_map]; omega, cond_true, hx]
          simp only [bd_some, spec_l18Degree_eq (v64 h hrv)]
          obtain ⟨t4, e4, q4⟩ := iter_sim (xs := prodsR p F.vars d r) (X := Empty) (F := stepF (cx h) (putS (cx h) (iv p)))
            (body := (fun s246482 => bd (bif (decide (s246482.2.2 ≤ F.vars)) then some (decide (dgI r < d)) else some false) (fun t309604 => (bif t309604 then bd (PF.spec_l20Times p F.vars (sp r) s246482.2.2) (fun r348636 => bd (PF.spec_l20Put p F.vars s246482.1 r348636) (fun r351641 => some (Lp.nx (r351641.1, (bif s246482.2.1 then true else r351641.2), (wr (s246482.2.2 + 1)))))) else some (Lp.bk (s246482.1, s246482.2.1, s246482.2.2))))))
            (fun j s t => t = (s.1.map sp, s.2, ((j : Nat) : Int) + 1) ∧ Red (cx h) s.1) (fun s t => (∃ k, t = (s.1.map sp, s.2, k)) ∧ Red (cx h) s.1) (s0 := s) (t0 := (s.1.map sp, s.2, 1)) ⟨rfl, hS⟩ (fun j a s t ha hP => by
              obtain ⟨rfl, hS⟩ := hP
              obtain ⟨g1, g2, rfl⟩ := prodsR_get h ha
              have hav : V p (nN F.vars) (timesV p F.vars r j) := prodsR_V h r _ (List.mem_of_getElem? ha)
              simp only
              rw [show decide (((j : Nat) : Int) + 1 ≤ F.vars) = true by simpa using g2, cond_true, bd_some, show decide (dgI r < d) = true by simpa using g1, cond_true]
              rw [spec_l20Times_eq h (dn_of_v hrv) (by omega) g2, bd_some]
              rw [show mulT p (nN F.vars) (sp r) (sp (litD p (nN F.vars) (((j : Nat) : Int) + 1))) = timesV p F.vars r j from rfl, spec_l20Put_eq h hS hav, bd_some, wr_sm (by omega) (by omega)]
              exact ⟨_, rfl, by simp [stepF], Go.La.putS_red hiv hS hav⟩) (fun s t hP => by
              obtain ⟨rfl, hS⟩ := hP
              refine ⟨(s.1.map sp, s.2, (((prodsR p F.vars d r).length : Nat) : Int) + 1), ?_, ⟨_, rfl⟩, hS⟩
              simp only
              rcases prodsR_end (d := d) h r with ⟨g1, g2⟩ | ⟨g1, g2⟩
              · rw [show decide ((((prodsR p F.vars d r).length : Nat) : Int) + 1 ≤ F.vars) = false by rw [decide_eq_false_iff_not]; omega]
                rfl
              · rw [show decide (dgI r < d) = false by simpa using g1]
                cases decide ((((prodsR p F.vars d r).length : Nat) : Int) + 1 ≤ F.vars) <;> rfl)
          obtain ⟨⟨k4, rfl⟩, hS4⟩ := q4
          rw [e4, bdR_go]
          refine ⟨_, rfl, ?_, hS4⟩
          rw [wr_sm (by omega) (by omega)]; simp) (fun s t hP => by
          obtain ⟨rfl, hS⟩ := hP
          refine ⟨(s.1.map sp, s.2, ((R.length : Nat) : Int)), ?_, ⟨_, rfl⟩, hS⟩
          simp only
          rw [show decide (((R.length : Nat) : Int) < len (R.map sp)) = false by rw [decide_eq_false_iff_not, len_eq, List.length_map]; omega]
          rfl)
      obtain ⟨⟨k3, rfl⟩, hS3⟩ := q3
      rw [e3, bdR_go]
      rw [← List.foldl_flatMap] at hS3 ⊢
      rw [show R.flatMap (prodsR p F.vars d) = prodsL p F.vars d R from rfl, (hst R _ false).1] at hS3 ⊢
      exact ⟨_, rfl, rfl, hS3⟩) (fun R t hP => by
      obtain ⟨rfl, hR⟩ := hP
      rfl) (fun R b t hP => Nat.le_trans hP.2.len hN.2) 65 _ ((putAll (cx h) (iv p) [] (qsL p F.vars d F.clauses)).map sp, true) ⟨rfl, hR1⟩ (by omega)
  obtain ⟨rfl, hR2⟩ := q2
  rw [show List.foldl (putS (cx h) (iv p)) [] (qsL p F.vars d F.clauses) = putAll (cx h) (iv p) [] (qsL p F.vars d F.clauses) from rfl]
  exact (congrArg (fun z => bdR z _ _) e2).trans rfl
theorem basS_ok {p v : Int} (h : PV p v) (d : Int) (cs : List (List Int)) : Red (cx h) (basS h d cs) ∧ Go.La.Srt (cx h) (basS h d cs) :=
  Go.La.span_ok (iv_inv h.p1 h.pos.1) (qsL_V h cs) (fun _ => prodsL_V h _) 65
theorem algB_iff {p : Int} {F : Cnf} : algB p F = true ↔ PV p F.vars ∧ cnfB F = true := by
  unfold algB; rw [Bool.and_eq_true, pvB_iff]
theorem spec_l20Degree_eq (d : Int) : spec_l20Degree d = inB d 0 6 := by unfold spec_l20Degree; rw [spec_l1In_eq]
end Go.PF
