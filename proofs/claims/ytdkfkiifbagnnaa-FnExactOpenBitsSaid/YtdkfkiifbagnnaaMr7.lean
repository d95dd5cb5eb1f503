/- Loops and joins. -/
import Derived.Test.YtdkfkiifbagnnaaMr6
namespace Go.Mr
open Go.RowKit Go.Pu

section
variable {ρ : Option Nat} {δ : List Nat} {P : Program} {N : Nat} {Q : FQ} {f : Fm} {w : World}

theorem least {p : Nat → Prop} (h : ∃ m, p m) : ∃ m, p m ∧ ∀ k, p k → m ≤ k := by
  classical
  obtain ⟨m, hm⟩ := h
  induction m using Nat.strongRecOn with
  | _ m ih =>
    by_cases hx : ∃ k, k < m ∧ p k
    · obtain ⟨k, hk, hp⟩ := hx; exact ih k hk hp
    · exact ⟨m, hm, fun k hk => Nat.le_of_not_lt fun hlt => hx ⟨k, hlt, hk⟩⟩

/-- a loop under a ghost number that each round lowers -/
theorem FW.loopG {c : Code} (G : Nat → Fm → World → Prop) (h : ∀ m f w, G m f w → FW (ρ := ρ) (δ := δ) P N c (thenF (fun f' w' => ∃ m', m' < m ∧ G m' f' w') Q) f w) {m : Nat} (h0 : G m f w) : FW (ρ := ρ) (δ := δ) P N (.loop c) Q f w := by
  classical
  intro n a ha
  let S : Act → World → Nat → Prop := fun a w m => ∃ f, Fr (δ := δ) N a f ∧ G m f w
  let μ : Act → World → Nat := fun a w => if hx : ∃ m, S a w m then Classical.choose (least hx) else 0
  refine wpIn_loop (fun a w => ∃ m, S a w m) μ ⟨m, f, ha, h0⟩ ?_
  intro a w hx
  have hμ : μ a w = Classical.choose (least hx) := by show (if hx : ∃ m, S a w m then Classical.choose (least hx) else 0) = _; rw [dif_pos hx]
  obtain ⟨f1, hf1, hg⟩ := (Classical.choose_spec (least hx)).1
  refine Code.wpIn_mono ?_ (h _ f1 w hg n a hf1)
  rintro e a' w' ⟨f', hf', q⟩
  cases e with
  | normal =>
    obtain ⟨m', hlt, hg'⟩ := q
    have hx' : ∃ m, S a' w' m := ⟨m', f', hf', hg'⟩
    have hμ' : μ a' w' = Classical.choose (least hx') := by show (if hx : ∃ m, S a' w' m then Classical.choose (least hx) else 0) = _; rw [dif_pos hx']
    refine ⟨hx', ?_⟩
    rw [hμ, hμ']
    exact Nat.lt_of_le_of_lt ((Classical.choose_spec (least hx')).2 _ ⟨f', hf', hg'⟩) hlt
  | exit i => exact ⟨f', hf', q⟩
  | goto i => exact ⟨f', hf', q⟩
  | ret => exact ⟨f', hf', q⟩
  | panic c => exact ⟨f', hf', q⟩
  | outgrown => exact ⟨f', hf', q⟩

/-- what a round must come to -/
def Rd {S X : Type} (I : S → Fm → World → Prop) (Dn : Rs S X → FQ) : Lp S X → FQ
  | .nx s, e, f, w => e = .normal ∧ I s f w
  | .bk s, e, f, w => e ≠ .normal ∧ Dn (.go s) e f w
  | .rt x, e, f, w => e ≠ .normal ∧ Dn (.rt x) e f w

theorem then_of {K : Fm → World → Prop} {e : Exit} {w : World} {f : Fm} (he : e ≠ .normal) (h : Q e f w) : thenF K Q e f w := by
  cases e <;> first | exact h | exact absurd rfl he

/-- 'for i := range n' -/
theorem FW.forN {S X : Type} {c : Code} {n : Nat} {body : Nat → S → Option (Lp S X)} (I : Nat → S → Fm → World → Prop) (Dn : Rs S X → FQ) {s : S} {q : Rs S X} (hq : Pu.forN n body s = some q) (h0 : I 0 s f w)
    (hbody : ∀ i s f w, I i s f w → i < n → ∀ o, body i s = some o → FW (ρ := ρ) (δ := δ) P N c (Rd (I (i + 1)) Dn o) f w)
    (hend : ∀ s f w, I n s f w → FW (ρ := ρ) (δ := δ) P N c (fun e f w => e ≠ .normal ∧ Dn (.go s) e f w) f w) : FW (ρ := ρ) (δ := δ) P N (.loop c) (Dn q) f w := by
  refine FW.loopG (fun m f w => ∃ i s, i + m = n ∧ I i s f w ∧ forFrom body m i s = some q) (m := n) ?_ ⟨0, s, by omega, h0, hq⟩
  rintro m f w ⟨i, s, hm, hI, hs⟩
  cases m with
  | zero =>
    simp only [forFrom, Option.some.injEq] at hs
    subst hs
    have : i = n := by omega
    subst this
    exact (hend s f w hI).mono fun e f w ⟨he, h⟩ => then_of he h
  | succ m =>
    simp only [forFrom] at hs
    cases hb : body i s with
    | none => rw [hb] at hs; cases hs
    | some o =>
      rw [hb] at hs
      refine (hbody i s f w hI (by omega) o hb).mono fun e f' w' h => ?_
      cases o with
      | nx s' => obtain ⟨rfl, h⟩ := h; exact ⟨m, by omega, i + 1, s', by omega, h, hs⟩
      | bk s' => obtain ⟨he, h⟩ := h; simp only [Option.some.injEq] at hs; subst hs; exact then_of he h
      | rt x => obtain ⟨he, h⟩ := h; simp only [Option.some.injEq] at hs; subst hs; exact then_of he h

/-- 'for i, x := range l' -/
theorem FW.forL {α S X : Type} {c : Code} {l : List α} {body : Nat → α → S → Option (Lp S X)} (I : Nat → S → Fm → World → Prop) (Dn : Rs S X → FQ) {s : S} {q : Rs S X} (hq : Pu.forL l body s = some q) (h0 : I 0 s f w)
    (hbody : ∀ i x s f w, I i s f w → l[i]? = some x → ∀ o, body i x s = some o → FW (ρ := ρ) (δ := δ) P N c (Rd (I (i + 1)) Dn o) f w)
    (hend : ∀ s f w, I l.length s f w → FW (ρ := ρ) (δ := δ) P N c (fun e f w => e ≠ .normal ∧ Dn (.go s) e f w) f w) : FW (ρ := ρ) (δ := δ) P N (.loop c) (Dn q) f w := by
  refine FW.loopG (fun m f w => ∃ i s, i + m = l.length ∧ I i s f w ∧ forLFrom body (l.drop i) i s = some q) (m := l.length) ?_ ⟨0, s, by omega, h0, by simpa [Pu.forL] using hq⟩
  rintro m f w ⟨i, s, hm, hI, hs⟩
  cases m with
  | zero =>
    rw [List.drop_of_length_le (by omega)] at hs
    simp only [forLFrom, Option.some.injEq] at hs
    subst hs
    have : i = l.length := by omega
    subst this
    exact (hend s f w hI).mono fun e f w ⟨he, h⟩ => then_of he h
  | succ m =>
    have hlt : i < l.length := by omega
    rw [List.drop_eq_getElem_cons hlt] at hs
    simp only [forLFrom] at hs
    cases hb : body i l[i] s with
    | none => rw [hb] at hs; cases hs
    | some o =>
      rw [hb] at hs
      refine (hbody i _ s f w hI (List.getElem?_eq_getElem hlt) o hb).mono fun e f' w' h => ?_
      cases o with
      | nx s' => obtain ⟨rfl, h⟩ := h; exact ⟨m, by omega, i + 1, s', by omega, h, hs⟩
      | bk s' => obtain ⟨he, h⟩ := h; simp only [Option.some.injEq] at hs; subst hs; exact then_of he h
      | rt x => obtain ⟨he, h⟩ := h; simp only [Option.some.injEq] at hs; subst hs; exact then_of he h

inductive IterH {S X : Type} (body : S → Option (Lp S X)) : Nat → S → Rs S X → Prop where
  | nx {m s s' q} : body s = some (.nx s') → IterH body m s' q → IterH body (m + 1) s q
  | bk {s s'} : body s = some (.bk s') → IterH body 0 s (.go s')
  | rt {s x} : body s = some (.rt x) → IterH body 0 s (.rt x)
theorem iterH_of {S X : Type} {body : S → Option (Lp S X)} {s : S} {q : Rs S X} (h : Iter body s q) : ∃ m, IterH body m s q := by
  induction h with
  | nx hb _ ih => obtain ⟨m, hm⟩ := ih; exact ⟨m + 1, .nx hb hm⟩
  | bk hb => exact ⟨0, .bk hb⟩
  | rt hb => exact ⟨0, .rt hb⟩

/-- any other loop -/
theorem FW.iter {S X : Type} {c : Code} {body : S → Option (Lp S X)} (I : S → Fm → World → Prop) (Dn : Rs S X → FQ) {s : S} {q : Rs S X} (hq : Pu.iter body s = some q) (h0 : I s f w)
    (hbody : ∀ s f w, I s f w → ∀ o, body s = some o → FW (ρ := ρ) (δ := δ) P N c (Rd I Dn o) f w) : FW (ρ := ρ) (δ := δ) P N (.loop c) (Dn q) f w := by
  obtain ⟨m, hm⟩ := iterH_of (iter_spec.1 hq)
  refine FW.loopG (fun m f w => ∃ s, I s f w ∧ IterH body m s q) (m := m) ?_ ⟨s, h0, hm⟩
  rintro m f w ⟨s, hI, hs⟩
  cases hs with
  | nx hb hs => exact (hbody s f w hI _ hb).mono fun e f' w' ⟨he, h⟩ => by subst he; exact ⟨_, by omega, _, h, hs⟩
  | bk hb => exact (hbody s f w hI _ hb).mono fun e f' w' ⟨he, h⟩ => then_of he h
  | rt hb => exact (hbody s f w hI _ hb).mono fun e f' w' ⟨he, h⟩ => then_of he h

/-- a piece of code whose ways meet again -/
def Jn {S X : Type} (J : S → Fm → World → Prop) (Lf : X → FQ) : Rs S X → FQ
  | .go s, e, f, w => e = .normal ∧ J s f w
  | .rt x, e, f, w => e ≠ .normal ∧ Lf x e f w
theorem FW.join {S X : Type} {c y : Code} {q : Rs S X} (J : S → Fm → World → Prop) (Lf : X → FQ) (h : FW (ρ := ρ) (δ := δ) P N c (Jn J Lf q) f w)
    (hgo : ∀ s, q = .go s → ∀ f w, J s f w → FW (ρ := ρ) (δ := δ) P N y Q f w) (hrt : ∀ x, q = .rt x → ∀ e f w, e ≠ .normal → Lf x e f w → Q e f w) : FW (ρ := ρ) (δ := δ) P N (.seq c y) Q f w := by
  refine FW.seq (h.mono fun e f w k => ?_)
  cases q with
  | go s => obtain ⟨rfl, k⟩ := k; exact hgo s rfl f w k
  | rt x => obtain ⟨he, k⟩ := k; exact then_of he (hrt x rfl e f w he k)
/-- .. at the end of a piece -/
theorem FW.joinE {S X : Type} {c : Code} {q : Rs S X} (J : S → Fm → World → Prop) (Lf : X → FQ) (h : FW (ρ := ρ) (δ := δ) P N c (Jn J Lf q) f w)
    (hgo : ∀ s, q = .go s → ∀ f w, J s f w → Q .normal f w) (hrt : ∀ x, q = .rt x → ∀ e f w, e ≠ .normal → Lf x e f w → Q e f w) : FW (ρ := ρ) (δ := δ) P N c Q f w := by
  refine h.mono fun e f w k => ?_
  cases q with
  | go s => obtain ⟨rfl, k⟩ := k; exact hgo s rfl f w k
  | rt x => obtain ⟨he, k⟩ := k; exact hrt x rfl e f w he k

/-- the frame under a new name -/
theorem FW.name {c : Code} {p : Fm → Prop} (h0 : p f) (h : ∀ f, p f → FW (ρ := ρ) (δ := δ) P N c Q f w) : FW (ρ := ρ) (δ := δ) P N c Q f w := h f h0
end

/-- the frame of a call -/
def fr0 (args : List Value) : Fm := fun k => args.getD k undef
theorem fr0_ok (args : List Value) (N : Nat) : ∀ k, (args.toArray ++ Array.replicate (N - args.length) undef).getD k undef = fr0 args k := by
  intro k
  simp only [Array.getD_eq_getD_getElem?, fr0, List.getD_eq_getElem?_getD, Array.getElem?_append, List.size_toArray, List.getElem?_toArray]
  split
  · rfl
  · rename_i h
    rw [List.getElem?_eq_none (by omega), Array.getElem?_replicate]
    split <;> rfl

theorem calls_go {P : Program} {fid N : Nat} {fn : Func} {c : Code} {args : List Value} {w : World} {R : Ending → World → Prop}
    (hf : P.funcs[fid]? = some fn) (hb : fn.body = some c) (hn : fn.ntmps = N) (hsz : Nat.ble args.length N = true)
    (h : FW (ρ := none) (δ := []) P N c (fun e f' w' => (e = .normal ∨ e = .ret) ∧ ∀ a, Fr (δ := []) N a f' → ∃ v, (results fn a.tmps).run P w' = .ok v w' ∧ R (.returned v) w') (fr0 args) w) :
    Calls P fid args.toArray w R :=
  calls_of_FW hf hb hn (by simpa using Nat.le_of_ble_eq_true hsz) (by simpa using fr0_ok args N) h

theorem res1 {δ : List Nat} {fn : Func} {t N : Nat} {P : Program} {w : World} {R : Ending → World → Prop} {f : Fm} {v : Value} (hr : fn.results = #[.tmp t]) (hv : f t = v) (hR : R (.returned v) w) :
    ∀ a, Fr (δ := δ) N a f → ∃ v, (results fn a.tmps).run P w = .ok v w ∧ R (.returned v) w := fun a ha => ⟨v, by rw [results_tmp hr, ha.val, hv], hR⟩
theorem res0 {δ : List Nat} {fn : Func} {N : Nat} {P : Program} {w : World} {R : Ending → World → Prop} {f : Fm} (hr : fn.results = #[]) (hR : R (.returned (.tuple #[])) w) :
    ∀ a, Fr (δ := δ) N a f → ∃ v, (results fn a.tmps).run P w = .ok v w ∧ R (.returned v) w := fun a _ => ⟨_, by rw [results_none hr], hR⟩
theorem res2 {δ : List Nat} {fn : Func} {t u N : Nat} {P : Program} {w : World} {R : Ending → World → Prop} {f : Fm} {v1 v2 : Value} (hr : fn.results = #[.tmp t, .tmp u]) (h1 : f t = v1) (h2 : f u = v2)
    (hR : R (.returned (.tuple #[v1, v2])) w) : ∀ a, Fr (δ := δ) N a f → ∃ v, (results fn a.tmps).run P w = .ok v w ∧ R (.returned v) w :=
  fun a ha => ⟨_, by rw [results_tmp2 hr, ha.val, ha.val, h1, h2], hR⟩
theorem res3 {δ : List Nat} {fn : Func} {t u s N : Nat} {P : Program} {w : World} {R : Ending → World → Prop} {f : Fm} {v1 v2 v3 : Value} (hr : fn.results = #[.tmp t, .tmp u, .tmp s]) (h1 : f t = v1) (h2 : f u = v2) (h3 : f s = v3)
    (hR : R (.returned (.tuple #[v1, v2, v3])) w) : ∀ a, Fr (δ := δ) N a f → ∃ v, (results fn a.tmps).run P w = .ok v w ∧ R (.returned v) w :=
  fun a ha => ⟨_, by simp [results, hr, ha.val, h1, h2, h3], hR⟩
/-- one result that lies in a block -/
theorem resC {δ : List Nat} {fn : Func} {t N ty : Nat} {P : Program} {w : World} {R : Ending → World → Prop} {f : Fm} {v : Value} {p : Addr} (hr : fn.results = #[.cell t ty]) (hv : f t = .pointer (some p))
    (hl : (loadVar ty p).run P w = .ok v w) (hR : R (.returned v) w) :
    ∀ a, Fr (δ := δ) N a f → ∃ v, (results fn a.tmps).run P w = .ok v w ∧ R (.returned v) w := fun a ha => ⟨v, by simp [results, hr, ha.val, hv, asAddr, hl], hR⟩
theorem resC2 {δ : List Nat} {fn : Func} {t u N ty : Nat} {P : Program} {w : World} {R : Ending → World → Prop} {f : Fm} {v v2 : Value} {p : Addr} (hr : fn.results = #[.cell t ty, .tmp u]) (hv : f t = .pointer (some p))
    (hl : (loadVar ty p).run P w = .ok v w) (h2 : f u = v2) (hR : R (.returned (.tuple #[v, v2])) w) :
    ∀ a, Fr (δ := δ) N a f → ∃ v, (results fn a.tmps).run P w = .ok v w ∧ R (.returned v) w := fun a ha => ⟨_, by simp [results, hr, ha.val, hv, asAddr, hl, h2], hR⟩
end Go.Mr
